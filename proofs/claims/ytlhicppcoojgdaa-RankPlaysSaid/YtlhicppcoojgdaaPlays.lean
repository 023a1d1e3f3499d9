import Derived.Test.YtlhicppcoojgdaaRefs
set_option linter.unusedVariables false
namespace Go.Proofs.Ytlhicppcoojgdaa
open PRankPlays Go.RowKit Go.Proofs.YtlhicppcoojgdaaW.PrintWords Go.Proofs.YtlhicppcoojgdaaW.PrintLast Go.Proofs.YtlhicppcoojgdaaW.PrintMore
/-- A queue, the document's list, and an act. -/
structure PB (w0 : World) (q ab : Nat) (k t who : Int) (l m : List Thing) (v : Value) (n : Nat) (w : World) : Prop where
  one : One w0 w q l n
  row : RowT w v m
  act : w.heap[ab]? = some (.cells #[.int .i64 k, .int .i64 t, .int .i64 who] 36 (0, 0))
variable {w0 w w' : World} {q ab n : Nat} {k t who : Int} {l m : List Thing} {v : Value}
theorem PB.kp {l' : List Thing} {n' : Nat} (h : PB w0 q ab k t who l m v n w) (h1 : One w0 w' q l' n') (hk : Kp w w') : PB w0 q ab k t who l' m v n' w' := ⟨h1, h.row.kp hk, hk _ _ _ h.act (by decide) (by decide) (by decide)⟩
theorem PB.nope (h : PB w0 q ab k t who l m v n w) (ht : Turn Nope w w') : PB w0 q ab k t who l m v n w' := h.kp (h.one.nope ht) (Kp.ofNope ht)
theorem pb_add (h : PB w0 q ab k t who l m v n w) (hl : l.length ≤ 999999) (hn : n ≤ 1000000000) (tick who' : Int) :
    Calls Try.prog 10 #[.pointer (some ⟨q, 0, none⟩), .int .i64 tick, .int .i64 who'] w fun e w' => e = .returned (.tuple #[]) ∧ PB w0 q ab k t who (insR (tick, who') l) m v (n + 1) w' := by
  refine (one_add h.one hl hn tick who').mono ?_
  rintro e w' ⟨he, h1, hk⟩
  exact ⟨he, h.kp h1 hk⟩
theorem pb_take {t1 w1 : Int} (h : PB w0 q ab k t who ((t1, w1) :: l) m v n w) (hl : l.length ≤ 999999) : Calls Try.prog 11 #[.pointer (some ⟨q, 0, none⟩)] w fun e w' => e = .returned (.tuple #[.int .i64 t1, .int .i64 w1, .bool true]) ∧ PB w0 q ab k t who l m v n w' := by
  refine (one_take_some h.one hl).mono ?_
  rintro e w' ⟨he, h1, hk⟩
  exact ⟨he, h.kp h1 hk⟩
theorem pb_first {t1 w1 : Int} (h : PB w0 q ab k t who ((t1, w1) :: l) m v n w) (hl : l.length ≤ 999999) : Calls Try.prog 14 #[.pointer (some ⟨q, 0, none⟩)] w fun e w' => e = .returned (.tuple #[.int .i64 t1, .int .i64 w1, .bool true]) ∧ PB w0 q ab k t who ((t1, w1) :: l) m v n w' := by
  refine (one_first_some h.one hl).mono ?_
  rintro e w' ⟨he, h1, ht⟩
  exact ⟨he, h.nope ht⟩
theorem pb_drop (h : PB w0 q ab k t who l m v n w) (hl : l.length ≤ 1000) (x : Int) :
    Calls Try.prog 16 #[.pointer (some ⟨q, 0, none⟩), .int .i64 x] w fun e w' => e = .returned (.int .i64 ((l.length : Int) - (notOfT x l).length)) ∧ PB w0 q ab k t who (notOfT x l) m v n w' := by
  refine (one_drop h.one hl x).mono ?_
  rintro e w' ⟨he, h1, hk⟩
  exact ⟨he, h.kp h1 hk⟩
theorem pb_due (h : PB w0 q ab k t who l m v n w) (hl : l.length ≤ 1000) (tick : Int) :
    Calls Try.prog 13 #[.pointer (some ⟨q, 0, none⟩), .int .i64 tick] w fun e w' => ∃ v1, e = .returned v1 ∧ w'.ownsRow w0.heap.size 3 1 v1 (dueOf tick l).length (whoT (dueOf tick l)) ∧ PB w0 q ab k t who (lateOf tick l) m v n w' := by
  refine (one_due h.one hl tick).mono ?_
  rintro e w' ⟨v1, he, hr, h1, hk⟩
  exact ⟨v1, he, hr, h.kp h1 hk⟩
theorem PB.ref (h : PB w0 q ab k t who l m v n w) {v' : Value} {m' : List Thing} (hb : Below w.heap.size w w') (hr : RowT w' v' m') : PB w0 q ab k t who l m' v' n w' := by
  have h1 := h.nope (Turn.ofBelow hb Nope)
  exact ⟨h1.one, hr, h1.act⟩
theorem pb_radd (h : PB w0 q ab k t who l m v n w) (hl : m.length ≤ 1000) (tick who' : Int) :
    Calls Try.prog 15 #[v, .agg #[.int .i64 tick, .int .i64 who']] w fun e w' => ∃ v', e = .returned v' ∧ PB w0 q ab k t who l (insR (tick, who') m) v' n w' := by
  obtain ⟨A, c, rfl, hc, hC⟩ := h.row.reads
  have := hindsightref04_Add.calls 2000 A c (m.map toS) tick who' _ w hC (by rw [List.length_map]; exact hc) (add_f (tick, who') m hl)
  rw [List.length_map] at this
  refine this.mono ?_
  rintro e w' ⟨v', he, hR, hB⟩
  exact ⟨v', he, h.ref hB (RowT.ofR hR)⟩
theorem pb_rdrop (h : PB w0 q ab k t who l m v n w) (hl : m.length ≤ 1000) (x : Int) :
    Calls Try.prog 17 #[v, .int .i64 x] w fun e w' => ∃ v', e = .returned v' ∧ PB w0 q ab k t who l (notOfT x m) v' n w' := by
  obtain ⟨A, c, rfl, hc, hC⟩ := h.row.reads
  have := hindsightref04_Drop.calls 2000 A c (m.map toS) x _ w hC (by rw [List.length_map]; exact hc) (drop_f x m hl)
  rw [List.length_map] at this
  refine this.mono ?_
  rintro e w' ⟨v', he, hR, hB⟩
  exact ⟨v', he, h.ref hB (RowT.ofR hR)⟩
theorem pb_rdue (h : PB w0 q ab k t who l m v n w) (hl : m.length ≤ 1000) (x : Int) :
    Calls Try.prog 18 #[v, .int .i64 x] w fun e w' => ∃ v' v2, e = .returned (.tuple #[v', v2]) ∧ Kd.R (Kd.int .i64) 3 w' w.heap.size (fun _ => True) v2 ((dueOf x m).map (·.2)) ∧ Turn Nope w w' ∧ PB w0 q ab k t who l (lateOf x m) v' n w' := by
  obtain ⟨A, c, rfl, hc, hC⟩ := h.row.reads
  have := hindsightref04_Due.calls 2000 A c (m.map toS) x _ _ w hC (by rw [List.length_map]; exact hc) (due_f x m hl)
  rw [List.length_map] at this
  refine this.mono ?_
  rintro e w' ⟨v', v2, he, hR, hR2, hB⟩
  exact ⟨v', v2, he, hR2, Turn.ofBelow hB Nope, h.ref hB (RowT.ofR hR)⟩
theorem row_C {base : Nat} {D : List Thing} (h : w.ownsRow base 3 1 v D.length (whoT D)) : ∃ A c, v = .slice A D.length c ∧ D.length ≤ c ∧ Kd.C (Kd.int .i64) w A (D.map (·.2)).length (D.map (·.2)) := by
  have h' := h
  rcases h.2 with ⟨rfl, h0⟩ | ⟨g, cap, cur, rfl, hb, hh, h1, h2, h3, h4⟩
  · refine ⟨none, 0, by rw [h0], by omega, rfl, by simp; omega, fun hp => by simp at hp; omega⟩
  · refine ⟨_, cap, rfl, h1, rfl, by rw [List.length_map]; exact Nat.le_trans h1 h2, fun _ => ⟨_, rfl, fun j p hj => ?_⟩⟩
    rw [List.getElem?_map] at hj
    cases hx : D[j]? with
    | none => rw [hx] at hj; cases hj
    | some x =>
      rw [hx] at hj
      injection hj with hj
      subst hj
      refine ⟨[.int .i64 x.2], rfl, rfl, fun i u hu => ?_⟩
      match i, hu with
      | 0, hu =>
        injection hu with hu
        subst hu
        have := own_elem h' j (u := .int .i64 x.2) (by simp [whoT, hx])
        rw [show (⟨g, 0, none⟩ : Addr).add (j * (Kd.int .i64).sz + 0) = ⟨g, j, none⟩ by show (⟨g, 0, none⟩ : Addr).add (j * 1 + 0) = _; unfold Addr.add; split <;> simp_all]
        exact this
      | i + 1, hu => cases hu
theorem same_any {base base2 : Nat} {P : Nat → Prop} {D : List Thing} {v2 : Value} (h : w.ownsRow base 3 1 v D.length (whoT D)) (h2 : Kd.R (Kd.int .i64) 3 w base2 P v2 (D.map (·.2))) (hl : D.length ≤ 1000) :
    Calls Try.prog 19 #[v, v2] w fun e w' => e = .returned (.bool true) ∧ Turn Nope w w' := by
  obtain ⟨A, c, rfl, hc, hC⟩ := row_C h
  obtain ⟨A2, c2, rfl, hc2, hC2⟩ := Kd.R_reads h2
  have := hindsightlaw04_same.calls 2000 A c (D.map (·.2)) A2 c2 (D.map (·.2)) true w hC (by rw [List.length_map]; exact hc) hC2 hc2 (same_f _ (by rw [List.length_map]; exact hl))
  rw [List.length_map] at this
  rw [List.length_map]
  refine this.mono ?_
  rintro e w' ⟨he, hd⟩
  exact ⟨he, Turn.ofBelow hd.below Nope⟩
theorem RowT.tail1 {g o : Nat} {x : Thing} {A : Option Addr} {c2 : Nat} (h : l = []) : RowT w (.slice A 0 c2) l ↔ c2 ≤ maxLen := by
  subst h
  refine ⟨fun ⟨A, c, e, h1, h2, h3⟩ => by injection e with _ _ e; rw [e]; exact h2, fun h => ⟨A, c2, rfl, Nat.zero_le _, h, fun hp => absurd hp (Nat.lt_irrefl 0)⟩⟩
theorem RowT.tail {g o c : Nat} {x : Thing} (h : RowT w (.slice (some ⟨g, o, none⟩) (l.length + 1) c) (x :: l)) : RowT w (.slice (some ⟨g, o + 2, none⟩) l.length (c - 1)) l := by
  obtain ⟨A, c', e, h1, h2, h3⟩ := h
  injection e with e1 e2 e3
  subst e1; subst e3
  simp only [List.length_cons] at h1 h3
  refine ⟨_, _, rfl, by omega, by omega, fun hp => ?_⟩
  obtain ⟨g', o', cells, e4, h4, h5⟩ := h3 (by omega)
  injection e4 with e4
  injection e4 with e5 e6
  subst e5; subst e6
  refine ⟨g, o + 2, cells, rfl, h4, fun j y hj => ?_⟩
  have := h5 (j + 1) y (by simpa using hj)
  rw [show o + (j + 1) * 2 = o + 2 + j * 2 by omega] at this
  exact this
set_option maxRecDepth 8000 in
set_option maxHeartbeats 8000000 in
theorem plays_walk (a : Option Addr) (len cap : Nat) (w : World) (hin : ActsIn w a len) :
    Calls Try.prog 6 #[.slice a len cap] w fun e w' => e = .returned (.bool true) ∧ Below w.heap.size w w' := by
  have HIN := Lib.hid hin
  clear hin
  go_enter Try.func6, Try.ntmps6
  go_wp2_with fail
  refine (awake_any _).mono ?_
  rintro e w1 ⟨rfl, ht⟩
  have HT1 := Lib.hid ht
  clear ht
  go_wp2_with fail
  refine (one_new w _ HT1.out).mono ?_
  rintro e w2 ⟨q, rfl, h, ht⟩
  have HQ2 := Lib.hid (h.nope (w' := w2.alloc (.cells #[] 39)) ((Turn.refl _ _).alloc _))
  have HR2 : Hid (RowT (w2.alloc (.cells #[] 39)) (.slice (some ⟨w2.heap.size, 0, none⟩) 0 0) []) := ⟨_, 0, rfl, Nat.le_refl _, Nat.zero_le _, fun hp => absurd hp (Nat.lt_irrefl 0)⟩
  clear h ht HT1
  go_wp2_with fail
  go_loopg [4, 5] 80 (fun kk v4 v5 wr => ∃ (i n : Nat) (l : List Thing), v5 = .int .i64 (i : Int) ∧ Hid (kk + i = 80 ∧ l.length ≤ i ∧ n ≤ i ∧ i ≤ len) ∧ Hid (One w wr q l n ∧ RowT wr v4 l))
  case atStart => exact ⟨0, 0, [], rfl, ⟨rfl, Nat.le_refl _, Nat.le_refl _, Nat.zero_le _⟩, HQ2.out, HR2.out⟩
  case round =>
    obtain ⟨i, n, l, rfl, hi, hl⟩ := hrel
    clear HQ2 HR2
    have hi0 := hi.out.1
    have hi1 := hi.out.2.1
    have hi2 := hi.out.2.2.1
    have hw : wrap64 ((i : Int) + 1) = (i : Int) + 1 := IntWalk.wrap64_in _ ⟨by omega, by omega⟩
    by_cases hlt : i < len ∧ i < 80
    · have b1 : decide ((i : Int) < (len : Int)) = true := by simp; omega
      have b1n : decide (i < len) = true := by simp; omega
      have b2 : decide ((i : Int) < (80 : Int)) = true := by simp; omega
      have b2n : decide (i < 80) = true := by simp; omega
      obtain ⟨ad, k, t, who, rfl, c0, c1, c2⟩ := HIN.out.2 i hlt.1
      have hb := hl.out.1.turn.nopeBelow
      have c0 := cell_later hb c0
      have c1 := cell_later hb c1
      have c2 := cell_later hb c2
      have i0 : (0 : Int) ≤ (i : Int) := by omega
      have i1 : (i : Int) < (len : Int) := by omega
      obtain ⟨A0, cp0, rfl, _⟩ := hl.out.2
      have HB0 : Hid (PB w q wr.heap.size k t who l l (.slice A0 l.length cp0) n (wr.alloc (.cells #[.int .i64 k, .int .i64 t, .int .i64 who] 36))) := ⟨hl.out.1.nope ((Turn.refl _ _).alloc _), hl.out.2.kp (Kp.ofNope ((Turn.refl _ _).alloc _)), blk_new _ _⟩
      have ACT : Hid (∀ {l' m' v' n' W}, PB w q wr.heap.size k t who l' m' v' n' W → W.cell? ⟨wr.heap.size, 0, none⟩ = some (.int .i64 k) ∧ W.cell? ⟨wr.heap.size, 1, none⟩ = some (.int .i64 t) ∧ W.cell? ⟨wr.heap.size, 2, none⟩ = some (.int .i64 who)) := fun h => ⟨by rw [blk_cell h.act]; rfl, by rw [blk_cell h.act]; rfl, by rw [blk_cell h.act]; rfl⟩
      have hlt1 := hlt.1
      have hlt2 := hlt.2
      clear hb hlt hl
      by_cases hk : k = 1
      · obtain ⟨a0, a1, a2⟩ := ACT.out HB0.out
        have k1 : (k == 1) = true := by simp; omega
        clear hk
        have HK := Lib.hid (insR_length (t, who) l)
        go_wp2_with fail
        generalize wr.alloc (.cells #[.int .i64 k, .int .i64 t, .int .i64 who] 36) = wa at *
        generalize wr.heap.size = ab at *
        have w1 : IntKind.i64.wrap 0 = 0 := rfl
        clear w1
        refine (pb_add HB0.out (by omega) (by omega) t who).mono ?_
        rintro e w3 ⟨rfl, h3⟩
        have HB3 := Lib.hid h3
        clear h3 a0 a1 a2
        obtain ⟨a0, a1, a2⟩ := ACT.out HB3.out
        go_wp2_with fail
        refine (pb_radd HB3.out (by omega) t who).mono ?_
        rintro e w4 ⟨v', rfl, h4⟩
        have HB4 := Lib.hid h4
        clear h4 a0 a1 a2 HB3 HB0
        obtain ⟨A', cp', rfl, _⟩ := HB4.out.row
        have HB := HB4
        clear HB4
        have HL' : Hid ((insR (t, who) l).length ≤ i + 1) := by have := HK.out; exact (by omega : (insR (t, who) l).length ≤ i + 1)
        clear HK
        obtain ⟨l', hl'⟩ : ∃ l', insR (t, who) l = l' := ⟨_, rfl⟩
        rw [hl'] at HB HL' ⊢
        clear hl'
        rcases l' with _ | ⟨⟨t1, u1⟩, m1⟩
        · go_wp2_with fail
          refine (one_first_none HB.out.one).mono ?_
          rintro e w8 ⟨rfl, rfl⟩
          go_wp2_with fail
          refine (one_len HB.out.one).mono ?_
          rintro e w9 ⟨rfl, rfl⟩
          go_wp2_with fail
          go_roundg (79 - i)
          case measure => omega
          case rel => exact ⟨i + 1, n + 1, [], by go_num, ⟨by omega, by simp, by omega, by omega⟩, HB.out.one, HB.out.row⟩
        · have hm1 : m1.length + 1 ≤ i + 1 := by have := HL'.out; simpa using this
          obtain ⟨g, o, c, e1, x0, x1⟩ := HB.out.row.at_ (j := 0) rfl
          injection e1 with e1 _ e3
          subst e1; subst e3
          have CX : Hid (∀ {l' n' W}, PB w q ab k t who l' ((t1, u1) :: m1) (.slice (some ⟨g, o, none⟩) ((t1, u1) :: m1).length cp') n' W → W.cell? ⟨g, o, none⟩ = some (.int .i64 t1) ∧ W.cell? ⟨g, o + 1, none⟩ = some (.int .i64 u1)) := fun h => by
            obtain ⟨g2, o2, c2, e2, y0, y1⟩ := h.row.at_ (j := 0) rfl
            injection e2 with e2 _ _
            injection e2 with e2
            injection e2 with e2 e3 _
            subst e2; subst e3
            exact ⟨by simpa using y0, by simpa using y1⟩
          clear x0 x1
          go_wp2_with fail
          refine (pb_first HB.out (by omega)).mono ?_
          rintro e w8 ⟨rfl, h8⟩
          have HB8 := Lib.hid h8
          clear h8
          obtain ⟨x0, x1⟩ := CX.out HB8.out
          go_wp2_with fail
          refine (one_len HB8.out.one).mono ?_
          rintro e w9 ⟨rfl, rfl⟩
          have f1 : decide ((0 : Int) < (m1.length : Int) + 1) = true := by rw [decide_eq_true_eq]; omega
          have f1' : decide ((m1.length : Int) + 1 > 0) = true := by rw [decide_eq_true_eq]; omega
          have f2 : (t1 != t1) = false := by simp
          have f3 : (u1 != u1) = false := by simp
          have f4 : ((m1.length : Int) + 1 != (m1.length : Int) + 1) = false := by simp
          have f5 : (((((t1, u1) :: m1).length : Nat) : Int) != (((((t1, u1) :: m1).length : Nat)) : Int)) = false := by simp
          go_wp2_with fail
          go_roundg (79 - i)
          case measure => omega
          case rel => exact ⟨i + 1, n + 1, (t1, u1) :: m1, by go_num, ⟨by omega, by simp; omega, by omega, by omega⟩, HB8.out.one, HB8.out.row⟩
      · have hk1 := hk
        clear hk
        by_cases hk : k = 2
        · obtain ⟨a0, a1, a2⟩ := ACT.out HB0.out
          have k1 : (k == 1) = false := by simp; omega
          have k2 : (k == 2) = true := by simp; omega
          clear hk hk1
          rcases l with _ | ⟨⟨t1, u1⟩, m1⟩
          · go_wp2_with fail
            generalize wr.alloc (.cells #[.int .i64 k, .int .i64 t, .int .i64 who] 36) = wa at *
            generalize wr.heap.size = ab at *
            have w1 : IntKind.i64.wrap 0 = 0 := rfl
            clear w1
            refine (one_take_none HB0.out.one).mono ?_
            rintro e w3 ⟨rfl, rfl⟩
            clear a0 a1 a2
            have HB := HB0
            clear HB0
            go_wp2_with fail
            refine (one_first_none HB.out.one).mono ?_
            rintro e w8 ⟨rfl, rfl⟩
            go_wp2_with fail
            refine (one_len HB.out.one).mono ?_
            rintro e w9 ⟨rfl, rfl⟩
            go_wp2_with fail
            go_roundg (79 - i)
            case measure => omega
            case rel => exact ⟨i + 1, n, [], by go_num, ⟨by omega, by simp, by omega, by omega⟩, HB.out.one, HB.out.row⟩
          · have hm1 : m1.length + 1 ≤ i := by simpa using hi1
            go_wp2_with fail
            generalize wr.alloc (.cells #[.int .i64 k, .int .i64 t, .int .i64 who] 36) = wa at *
            generalize wr.heap.size = ab at *
            have w1 : IntKind.i64.wrap 0 = 0 := rfl
            clear w1
            refine (pb_take HB0.out (by omega)).mono ?_
            rintro e w3 ⟨rfl, h3⟩
            have HB3 := Lib.hid h3
            clear h3 a0 a1 a2 HB0
            obtain ⟨g, o, c, e1, x0, x1⟩ := HB3.out.row.at_ (j := 0) rfl
            injection e1 with e1 _ e3
            subst e1; subst e3
            rw [Nat.zero_mul, Nat.add_zero] at x0 x1
            have hcap : m1.length + 1 ≤ cp0 := by obtain ⟨A, c', e, h1, _⟩ := HB3.out.row; injection e with _ _ e; rw [e]; simpa using h1
            have f1 : decide ((0 : Int) < (m1.length : Int) + 1) = true := by rw [decide_eq_true_eq]; omega
            have f1' : decide ((m1.length : Int) + 1 > 0) = true := by rw [decide_eq_true_eq]; omega
            have f2 : (t1 != t1) = false := by simp
            have f3 : (u1 != u1) = false := by simp
            have p1 : (1 : Int) ≤ (m1.length : Int) + 1 := by omega
            have p2 : (1 : Int) ≤ (cp0 : Int) := by omega
            by_cases hc1 : cp0 = 1
            · have q1 : ((1 : Nat) == cp0) = true := by simp [hc1]
              subst hc1
              have hm0 : m1 = [] := by cases m1 with | nil => rfl | cons x m => simp at hcap
              subst hm0
              have HB : Hid (PB w q ab k t who [] [] (.slice (some ⟨g, o, none⟩) 0 0) n w3) := ⟨HB3.out.one, ⟨_, 0, rfl, Nat.le_refl _, Nat.zero_le _, fun hp => absurd hp (Nat.lt_irrefl 0)⟩, HB3.out.act⟩
              clear HB3
              go_wp2_with fail
              refine (one_first_none HB.out.one).mono ?_
              rintro e w8 ⟨rfl, rfl⟩
              go_wp2_with fail
              refine (one_len HB.out.one).mono ?_
              rintro e w9 ⟨rfl, rfl⟩
              go_wp2_with fail
              go_roundg (79 - i)
              case measure => omega
              case rel => exact ⟨i + 1, n, [], by go_num, ⟨by omega, by simp, by omega, by omega⟩, HB.out.one, HB.out.row⟩
            · have hc2 : 1 < cp0 := by omega
              obtain ⟨cp', rfl⟩ : ∃ cp', cp0 = cp' + 1 := ⟨cp0 - 1, by omega⟩
              have HB : Hid (PB w q ab k t who m1 m1 (.slice (some ⟨g, o + 2, none⟩) m1.length cp') n w3) := ⟨HB3.out.one, HB3.out.row.tail, HB3.out.act⟩
              have HL' : Hid (m1.length ≤ i + 1) := (by omega : m1.length ≤ i + 1)
              clear HB3 hm1 hcap
              obtain ⟨l', rfl⟩ : ∃ l', l' = m1 := ⟨_, rfl⟩
              rcases l' with _ | ⟨⟨t1, u1⟩, m1⟩
              · go_wp2_with fail
                refine (one_first_none HB.out.one).mono ?_
                rintro e w8 ⟨rfl, rfl⟩
                go_wp2_with fail
                refine (one_len HB.out.one).mono ?_
                rintro e w9 ⟨rfl, rfl⟩
                go_wp2_with fail
                go_roundg (79 - i)
                case measure => omega
                case rel => exact ⟨i + 1, n, [], by go_num, ⟨by omega, by simp, by omega, by omega⟩, HB.out.one, HB.out.row⟩
              · have hm1 : m1.length + 1 ≤ i + 1 := by have := HL'.out; simpa using this
                obtain ⟨g1, o1, c, e1, x0, x1⟩ := HB.out.row.at_ (j := 0) rfl
                injection e1 with e1 _ e3
                injection e1 with e1; injection e1 with e1 e4; subst e1; subst e4; subst e3
                have CX : Hid (∀ {l' n' W}, PB w q ab k t who l' ((t1, u1) :: m1) (.slice (some ⟨g, o + 2, none⟩) ((t1, u1) :: m1).length cp') n' W → W.cell? ⟨g, o + 2, none⟩ = some (.int .i64 t1) ∧ W.cell? ⟨g, o + 2 + 1, none⟩ = some (.int .i64 u1)) := fun h => by
                  obtain ⟨g2, o2, c2, e2, y0, y1⟩ := h.row.at_ (j := 0) rfl
                  injection e2 with e2 _ _
                  injection e2 with e2
                  injection e2 with e2 e3 _
                  subst e2; subst e3
                  exact ⟨by simpa using y0, by simpa using y1⟩
                clear x0 x1
                go_wp2_with fail
                refine (pb_first HB.out (by omega)).mono ?_
                rintro e w8 ⟨rfl, h8⟩
                have HB8 := Lib.hid h8
                clear h8
                obtain ⟨x0, x1⟩ := CX.out HB8.out
                go_wp2_with fail
                refine (one_len HB8.out.one).mono ?_
                rintro e w9 ⟨rfl, rfl⟩
                have f1 : decide ((0 : Int) < (m1.length : Int) + 1) = true := by rw [decide_eq_true_eq]; omega
                have f1' : decide ((m1.length : Int) + 1 > 0) = true := by rw [decide_eq_true_eq]; omega
                have f2 : (t1 != t1) = false := by simp
                have f3 : (u1 != u1) = false := by simp
                have f4 : ((m1.length : Int) + 1 != (m1.length : Int) + 1) = false := by simp
                have f5 : (((((t1, u1) :: m1).length : Nat) : Int) != (((((t1, u1) :: m1).length : Nat)) : Int)) = false := by simp
                go_wp2_with fail
                go_roundg (79 - i)
                case measure => omega
                case rel => exact ⟨i + 1, n, (t1, u1) :: m1, by go_num, ⟨by omega, by simp; omega, by omega, by omega⟩, HB8.out.one, HB8.out.row⟩
        · have hk2 := hk
          clear hk
          by_cases hk : k = 3
          · obtain ⟨a0, a1, a2⟩ := ACT.out HB0.out
            have k1 : (k == 1) = false := by simp; omega
            have k2 : (k == 2) = false := by simp; omega
            have k3 : (k == 3) = true := by simp; omega
            clear hk hk1 hk2
            have hle := notOfT_length who l
            have q1 : ((l.length : Int) - ((notOfT who l).length : Int) != (l.length : Int) - ((notOfT who l).length : Int)) = false := by simp
            go_wp2_with fail
            generalize wr.alloc (.cells #[.int .i64 k, .int .i64 t, .int .i64 who] 36) = wa at *
            generalize wr.heap.size = ab at *
            have w1 : IntKind.i64.wrap 0 = 0 := rfl
            clear w1
            refine (pb_drop HB0.out (by omega) who).mono ?_
            rintro e w3 ⟨rfl, h3⟩
            have HB3 := Lib.hid h3
            clear h3 a0 a1 a2
            obtain ⟨a0, a1, a2⟩ := ACT.out HB3.out
            go_wp2_with fail
            refine (pb_rdrop HB3.out (by omega) who).mono ?_
            rintro e w4 ⟨v', rfl, h4⟩
            have HB4 := Lib.hid h4
            clear h4 a0 a1 a2 HB3 HB0
            obtain ⟨A', cp', rfl, _⟩ := HB4.out.row
            have HB := HB4
            clear HB4
            have HL' : Hid ((notOfT who l).length ≤ i + 1) := (by omega : (notOfT who l).length ≤ i + 1)
            obtain ⟨l', hl'⟩ : ∃ l', notOfT who l = l' := ⟨_, rfl⟩
            rw [hl'] at HB HL' hle q1 ⊢
            clear hl'
            rcases l' with _ | ⟨⟨t1, u1⟩, m1⟩
            · go_wp2_with fail
              refine (one_first_none HB.out.one).mono ?_
              rintro e w8 ⟨rfl, rfl⟩
              go_wp2_with fail
              refine (one_len HB.out.one).mono ?_
              rintro e w9 ⟨rfl, rfl⟩
              go_wp2_with fail
              go_roundg (79 - i)
              case measure => omega
              case rel => exact ⟨i + 1, n, [], by go_num, ⟨by omega, by simp, by omega, by omega⟩, HB.out.one, HB.out.row⟩
            · have hm1 : m1.length + 1 ≤ i + 1 := by have := HL'.out; simpa using this
              obtain ⟨g, o, c, e1, x0, x1⟩ := HB.out.row.at_ (j := 0) rfl
              injection e1 with e1 _ e3
              subst e1; subst e3
              have CX : Hid (∀ {l' n' W}, PB w q ab k t who l' ((t1, u1) :: m1) (.slice (some ⟨g, o, none⟩) ((t1, u1) :: m1).length cp') n' W → W.cell? ⟨g, o, none⟩ = some (.int .i64 t1) ∧ W.cell? ⟨g, o + 1, none⟩ = some (.int .i64 u1)) := fun h => by
                obtain ⟨g2, o2, c2, e2, y0, y1⟩ := h.row.at_ (j := 0) rfl
                injection e2 with e2 _ _
                injection e2 with e2
                injection e2 with e2 e3 _
                subst e2; subst e3
                exact ⟨by simpa using y0, by simpa using y1⟩
              clear x0 x1
              go_wp2_with fail
              refine (pb_first HB.out (by omega)).mono ?_
              rintro e w8 ⟨rfl, h8⟩
              have HB8 := Lib.hid h8
              clear h8
              obtain ⟨x0, x1⟩ := CX.out HB8.out
              go_wp2_with fail
              refine (one_len HB8.out.one).mono ?_
              rintro e w9 ⟨rfl, rfl⟩
              have f1 : decide ((0 : Int) < (m1.length : Int) + 1) = true := by rw [decide_eq_true_eq]; omega
              have f1' : decide ((m1.length : Int) + 1 > 0) = true := by rw [decide_eq_true_eq]; omega
              have f2 : (t1 != t1) = false := by simp
              have f3 : (u1 != u1) = false := by simp
              have f4 : ((m1.length : Int) + 1 != (m1.length : Int) + 1) = false := by simp
              have f5 : (((((t1, u1) :: m1).length : Nat) : Int) != (((((t1, u1) :: m1).length : Nat)) : Int)) = false := by simp
              go_wp2_with fail
              go_roundg (79 - i)
              case measure => omega
              case rel => exact ⟨i + 1, n, (t1, u1) :: m1, by go_num, ⟨by omega, by simp; omega, by omega, by omega⟩, HB8.out.one, HB8.out.row⟩
          · have hk3 := hk
            clear hk
            by_cases hk : k = 4
            · obtain ⟨a0, a1, a2⟩ := ACT.out HB0.out
              have k1 : (k == 1) = false := by simp; omega
              have k2 : (k == 2) = false := by simp; omega
              have k3 : (k == 3) = false := by simp; omega
              have k4 : (k == 4) = true := by simp; omega
              clear hk hk1 hk2 hk3
              have hle := due_late t l
              have HLE := Lib.hid hle
              clear hle
              go_wp2_with fail
              generalize wr.alloc (.cells #[.int .i64 k, .int .i64 t, .int .i64 who] 36) = wa at *
              generalize wr.heap.size = ab at *
              have w1 : IntKind.i64.wrap 0 = 0 := rfl
              clear w1
              refine (pb_due HB0.out (by omega) t).mono ?_
              rintro e w3 ⟨v1, rfl, hr, h3⟩
              have HB3 := Lib.hid h3
              obtain ⟨A1, c1, rfl, _⟩ := own_slice hr
              have HR := Lib.hid hr
              clear h3 hr a0 a1 a2
              obtain ⟨a0, a1, a2⟩ := ACT.out HB3.out
              go_wp2_with fail
              refine (pb_rdue HB3.out (by omega) t).mono ?_
              rintro e w4 ⟨v', v2, rfl, hR2, ht, h4⟩
              have HB4 := Lib.hid h4
              have HR1 := Lib.hid (own_nope HR.out ht)
              have HR2 := Lib.hid hR2
              clear h4 hR2 ht a0 a1 a2 HB3 HB0 HR
              obtain ⟨A', cp', rfl, _⟩ := HB4.out.row
              go_wp2_with fail
              refine (same_any HR1.out HR2.out (by have := HLE.out; omega)).mono ?_
              rintro e w5 ⟨rfl, ht⟩
              have HB := Lib.hid (HB4.out.nope ht)
              clear HB4 ht HR1 HR2
              have HL' : Hid ((lateOf t l).length ≤ i + 1) := by have := HLE.out; exact (by omega : (lateOf t l).length ≤ i + 1)
              clear HLE
              obtain ⟨l', hl'⟩ : ∃ l', lateOf t l = l' := ⟨_, rfl⟩
              rw [hl'] at HB HL' ⊢
              clear hl'
              rcases l' with _ | ⟨⟨t1, u1⟩, m1⟩
              · go_wp2_with fail
                refine (one_first_none HB.out.one).mono ?_
                rintro e w8 ⟨rfl, rfl⟩
                go_wp2_with fail
                refine (one_len HB.out.one).mono ?_
                rintro e w9 ⟨rfl, rfl⟩
                go_wp2_with fail
                go_roundg (79 - i)
                case measure => omega
                case rel => exact ⟨i + 1, n, [], by go_num, ⟨by omega, by simp, by omega, by omega⟩, HB.out.one, HB.out.row⟩
              · have hm1 : m1.length + 1 ≤ i + 1 := by have := HL'.out; simpa using this
                obtain ⟨g, o, c, e1, x0, x1⟩ := HB.out.row.at_ (j := 0) rfl
                injection e1 with e1 _ e3
                subst e1; subst e3
                have CX : Hid (∀ {l' n' W}, PB w q ab k t who l' ((t1, u1) :: m1) (.slice (some ⟨g, o, none⟩) ((t1, u1) :: m1).length cp') n' W → W.cell? ⟨g, o, none⟩ = some (.int .i64 t1) ∧ W.cell? ⟨g, o + 1, none⟩ = some (.int .i64 u1)) := fun h => by
                  obtain ⟨g2, o2, c2, e2, y0, y1⟩ := h.row.at_ (j := 0) rfl
                  injection e2 with e2 _ _
                  injection e2 with e2
                  injection e2 with e2 e3 _
                  subst e2; subst e3
                  exact ⟨by simpa using y0, by simpa using y1⟩
                clear x0 x1
                go_wp2_with fail
                refine (pb_first HB.out (by omega)).mono ?_
                rintro e w8 ⟨rfl, h8⟩
                have HB8 := Lib.hid h8
                clear h8
                obtain ⟨x0, x1⟩ := CX.out HB8.out
                go_wp2_with fail
                refine (one_len HB8.out.one).mono ?_
                rintro e w9 ⟨rfl, rfl⟩
                have f1 : decide ((0 : Int) < (m1.length : Int) + 1) = true := by rw [decide_eq_true_eq]; omega
                have f1' : decide ((m1.length : Int) + 1 > 0) = true := by rw [decide_eq_true_eq]; omega
                have f2 : (t1 != t1) = false := by simp
                have f3 : (u1 != u1) = false := by simp
                have f4 : ((m1.length : Int) + 1 != (m1.length : Int) + 1) = false := by simp
                have f5 : (((((t1, u1) :: m1).length : Nat) : Int) != (((((t1, u1) :: m1).length : Nat)) : Int)) = false := by simp
                go_wp2_with fail
                go_roundg (79 - i)
                case measure => omega
                case rel => exact ⟨i + 1, n, (t1, u1) :: m1, by go_num, ⟨by omega, by simp; omega, by omega, by omega⟩, HB8.out.one, HB8.out.row⟩
            · obtain ⟨a0, a1, a2⟩ := ACT.out HB0.out
              have k1 : (k == 1) = false := by simp; omega
              have k2 : (k == 2) = false := by simp; omega
              have k3 : (k == 3) = false := by simp; omega
              have k4 : (k == 4) = false := by simp; omega
              clear hk hk1 hk2 hk3
              go_wp2_with fail
              generalize wr.alloc (.cells #[.int .i64 k, .int .i64 t, .int .i64 who] 36) = wa at *
              generalize wr.heap.size = ab at *
              have w1 : IntKind.i64.wrap 0 = 0 := rfl
              clear w1
              have HB := HB0
              have HL' : Hid (l.length ≤ i + 1) := (by omega : l.length ≤ i + 1)
              obtain ⟨l', rfl⟩ : ∃ l', l' = l := ⟨_, rfl⟩
              obtain ⟨A', rfl⟩ : ∃ A', A' = A0 := ⟨_, rfl⟩
              obtain ⟨cp', rfl⟩ : ∃ cp', cp' = cp0 := ⟨_, rfl⟩
              clear HB0 a0 a1 a2
              rcases l' with _ | ⟨⟨t1, u1⟩, m1⟩
              · refine (one_first_none HB.out.one).mono ?_
                rintro e w8 ⟨rfl, rfl⟩
                go_wp2_with fail
                refine (one_len HB.out.one).mono ?_
                rintro e w9 ⟨rfl, rfl⟩
                go_wp2_with fail
                go_roundg (79 - i)
                case measure => omega
                case rel => exact ⟨i + 1, n, [], by go_num, ⟨by omega, by simp, by omega, by omega⟩, HB.out.one, HB.out.row⟩
              · have hm1 : m1.length + 1 ≤ i + 1 := by have := HL'.out; simpa using this
                obtain ⟨g, o, c, e1, x0, x1⟩ := HB.out.row.at_ (j := 0) rfl
                injection e1 with e1 _ e3
                subst e1; subst e3
                have CX : Hid (∀ {l' n' W}, PB w q ab k t who l' ((t1, u1) :: m1) (.slice (some ⟨g, o, none⟩) ((t1, u1) :: m1).length cp') n' W → W.cell? ⟨g, o, none⟩ = some (.int .i64 t1) ∧ W.cell? ⟨g, o + 1, none⟩ = some (.int .i64 u1)) := fun h => by
                  obtain ⟨g2, o2, c2, e2, y0, y1⟩ := h.row.at_ (j := 0) rfl
                  injection e2 with e2 _ _
                  injection e2 with e2
                  injection e2 with e2 e3 _
                  subst e2; subst e3
                  exact ⟨by simpa using y0, by simpa using y1⟩
                clear x0 x1
                refine (pb_first HB.out (by omega)).mono ?_
                rintro e w8 ⟨rfl, h8⟩
                have HB8 := Lib.hid h8
                clear h8
                obtain ⟨x0, x1⟩ := CX.out HB8.out
                go_wp2_with fail
                refine (one_len HB8.out.one).mono ?_
                rintro e w9 ⟨rfl, rfl⟩
                have f1 : decide ((0 : Int) < (m1.length : Int) + 1) = true := by rw [decide_eq_true_eq]; omega
                have f1' : decide ((m1.length : Int) + 1 > 0) = true := by rw [decide_eq_true_eq]; omega
                have f2 : (t1 != t1) = false := by simp
                have f3 : (u1 != u1) = false := by simp
                have f4 : ((m1.length : Int) + 1 != (m1.length : Int) + 1) = false := by simp
                have f5 : (((((t1, u1) :: m1).length : Nat) : Int) != (((((t1, u1) :: m1).length : Nat)) : Int)) = false := by simp
                go_wp2_with fail
                go_roundg (79 - i)
                case measure => omega
                case rel => exact ⟨i + 1, n, (t1, u1) :: m1, by go_num, ⟨by omega, by simp; omega, by omega, by omega⟩, HB8.out.one, HB8.out.row⟩
    · by_cases h1 : i < len
      · have h80 : ¬ i < 80 := fun h => hlt ⟨h1, h⟩
        have b1 : decide ((i : Int) < (len : Int)) = true := by simp; omega
        have b1n : decide (i < len) = true := by simp; omega
        have b2 : decide ((i : Int) < (80 : Int)) = false := by simp; omega
        have b2n : decide (i < 80) = false := by simp; omega
        clear hlt
        go_wp2_with fail
        go_ret
        exact ⟨rfl, hl.out.1.turn.nopeBelow⟩
      · have b1 : decide ((i : Int) < (len : Int)) = false := by simp; omega
        have b1n : decide (i < len) = false := by simp; omega
        clear hlt
        go_wp2_with fail
        go_ret
        exact ⟨rfl, hl.out.1.turn.nopeBelow⟩
end Go.Proofs.Ytlhicppcoojgdaa
