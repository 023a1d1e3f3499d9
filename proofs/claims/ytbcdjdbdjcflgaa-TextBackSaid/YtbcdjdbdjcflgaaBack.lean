/- TextBack: the walk of the law: ops are done, and taken back, the last one first. -/
import Derived.Test.YtbcdjdbdjcflgaaInv
import Derived.Test.YtbcdjdbdjcflgaaOps
import Derived.Deep.DeepCutAuto
import Derived.Deep.CutBlock
import Derived.Deep.RegionHeld3
namespace Go.Proofs.Ytbcdjdbdjcflgaa
open Go.RowKit

/-- What was done, the last one first: each with the text that it takes the document back to. -/
def Chain : List (Op4 × ByteArray) → ByteArray → Prop
  | [], s => s = ⟨#[]⟩
  | (o, t) :: r, s => (dOp s o).1 = t ∧ (dOp s o).2.2 = 0 ∧ cOp o = 0 ∧ t.size ≤ 200 ∧ Chain r t
def opCells (l : List (Op4 × ByteArray)) : List Value := l.flatMap fun x => [.int .i64 x.1.k, .int .i64 x.1.p, .string x.1.S, .int .i64 x.1.n]
def wasCells (l : List (Op4 × ByteArray)) : List Value := l.map fun x => .string x.2
structure BackRel (w0 : World) (g : Nat) (vb vw : Value) (h : List (Op4 × ByteArray)) (s : ByteArray) (wr : World) : Prop where
  doc : IsDoc wr g s
  new : w0.heap.size ≤ g
  back : wr.ownsRow w0.heap.size 31 4 vb h.length (opCells h.reverse)
  was : wr.ownsRow w0.heap.size 9 1 vw h.length (wasCells h.reverse)
  turn : Turn Nope w0 wr
/-- Any call that turns nothing, or the document alone. -/
theorem BackRel.step {w0 w1 w2 : World} {g : Nat} {vb vw : Value} {h : List (Op4 × ByteArray)} {s s' : ByteArray} (r : BackRel w0 g vb vw h s w1) (ht : Turn (At g) w1 w2) (hd : IsDoc w2 g s') : BackRel w0 g vb vw h s' w2 :=
  ⟨hd, r.new, own_turn r.back ht (own_ne r.back r.doc (by decide)), own_turn r.was ht (own_ne r.was r.doc (by decide)), r.turn.then ht (fun i hi => .inr (by rw [show i = g from hi]; exact r.new))⟩
theorem BackRel.nope {w0 w1 w2 : World} {g : Nat} {vb vw : Value} {h : List (Op4 × ByteArray)} {s : ByteArray} (r : BackRel w0 g vb vw h s w1) (ht : Turn Nope w1 w2) : BackRel w0 g vb vw h s w2 :=
  r.step ht.ofNope (ht.blk r.doc id)
theorem BackRel.alloc {w0 w1 : World} {g : Nat} {vb vw : Value} {h : List (Op4 × ByteArray)} {s : ByteArray} (r : BackRel w0 g vb vw h s w1) (o : Obj) : BackRel w0 g vb vw h s (w1.alloc o) := r.nope ((Turn.refl _ _).alloc o)
/-- Both rows grow by one. -/
theorem BackRel.push {w0 w1 w2 w3 w4 : World} {g : Nat} {vb vw vb' vw' : Value} {h : List (Op4 × ByteArray)} {s : ByteArray} {x : Op4 × ByteArray} {o2 : Obj}
    (r : BackRel w0 g vb vw h s w1) (hb : w2.ownsRow w0.heap.size 31 4 vb' (h.length + 1) (opCells h.reverse ++ opCells [x])) (hg : w1.grownBy w2 vb.ownBlock)
    (hw3 : w3 = w2.alloc o2) (hw : w4.ownsRow w0.heap.size 9 1 vw' (h.length + 1) (wasCells h.reverse ++ wasCells [x])) (hg2 : w3.grownBy w4 vw.ownBlock) : BackRel w0 g vb' vw' (x :: h) s w4 := by
  subst hw3
  have t1 : Turn Nope w0 w2 := r.turn.growR hg r.back (Nat.le_refl _)
  have was2 := own_grown r.was hg (own_apart r.was r.back (by decide))
  have d2 : IsDoc w2 g s := blk_grown r.doc hg (fun e => own_ne r.back r.doc (by decide) g e rfl)
  have t2 : Turn Nope w0 w4 := (t1.alloc o2).growR hg2 (was2.alloc o2) (Nat.le_refl _)
  refine ⟨blk_grown (blk_alloc d2 _) hg2 (fun e => own_ne r.was r.doc (by decide) g e rfl), r.new, ?_, ?_, t2⟩
  · have := own_grown (hb.alloc o2) hg2 (own_apart (hb.alloc o2) (was2.alloc o2) (by decide))
    simpa [opCells] using this
  · simpa [wasCells] using hw
theorem news_new (W : World) (cs : Array Value) (t : TypeId) : ∀ j u, cs.toList[j]? = some u → (W.alloc (.cells cs t)).cell? ((⟨W.heap.size, 0, none⟩ : Addr).add j) = some u := by
  intro j u hj
  rw [show (⟨W.heap.size, 0, none⟩ : Addr).add j = ⟨W.heap.size, j, none⟩ by unfold Addr.add; split <;> simp_all, blk_cell (blk_new W _)]
  simpa using hj
theorem dOp_err (s : ByteArray) (o : Op4) (h : (dOp s o).2.2 ≠ 0) : dOp s o = (s, ⟨#[]⟩, (dOp s o).2.2) := by
  obtain ⟨k, a, S, n⟩ := o
  simp only [dOp] at *
  unfold dDo at *
  (repeat' split) <;> simp_all

theorem inv_any (k p : Int) (S gone : ByteArray) (n : Int) (w : World) :
    Calls Try.prog 12 #[.agg #[.int .i64 k, .int .i64 p, .string S, .int .i64 n], .string gone] w fun e w' => e = .returned (.agg #[.int .i64 (inv ⟨k, p, S, n⟩ gone).k, .int .i64 (inv ⟨k, p, S, n⟩ gone).p, .string (inv ⟨k, p, S, n⟩ gone).S, .int .i64 (inv ⟨k, p, S, n⟩ gone).n]) ∧ Turn Nope w w' := by
  by_cases h : k = 1
  · subst h
    exact inv_ins p S gone n w
  · have e : inv ⟨k, p, S, n⟩ gone = ⟨1, p, gone, 0⟩ := by unfold inv; rw [if_neg h]
    rw [e]
    have hb : (k == 1) = false := beq_eq_false_iff_ne.2 h
    clear h e
    go_enter Try.func12, Try.ntmps12
    go_wp2
    exact bodyPost_ret (v := .agg #[.int .i64 1, .int .i64 p, .string gone, .int .i64 0]) (by simp [results, Try.results12, go_sem]) rfl ⟨rfl, ((Turn.refl _ _).alloc _).alloc _⟩
theorem Try.info31 : (Try.prog.info? 31).map (fun i => (i.zero, i.size, i.bytes)) = some (some (.agg #[.int .i64 0, .int .i64 0, .string ⟨#[]⟩, .int .i64 0]), 4, 40) := by kernel_rfl
theorem Try.info9 : (Try.prog.info? 9).map (fun i => (i.zero, i.size, i.bytes)) = some (some (.string ⟨#[]⟩), 1, 16) := by kernel_rfl
theorem opCells_append (a b : List (Op4 × ByteArray)) : opCells (a ++ b) = opCells a ++ opCells b := by simp [opCells]
theorem opCells_length (a : List (Op4 × ByteArray)) : (opCells a).length = 4 * a.length := by
  induction a with
  | nil => rfl
  | cons x a ih => simp only [opCells, List.flatMap_cons, List.length_append, List.length_cons, List.length_nil] at *; omega
theorem opCells_at {h r : List (Op4 × ByteArray)} {x : Op4 × ByteArray} (hs : x :: r <:+ h) (j : Nat) (hj : j < 4) : (opCells h.reverse)[r.length * 4 + j]? = (opCells [x])[j]? := by
  obtain ⟨p, rfl⟩ := hs
  have e : (p ++ x :: r).reverse = r.reverse ++ ([x] ++ p.reverse) := by simp
  rw [e, opCells_append, opCells_append, List.getElem?_append_right (by rw [opCells_length]; simp; omega), opCells_length, List.length_reverse, show r.length * 4 + j - 4 * r.length = j by omega, List.getElem?_append_left (by rw [opCells_length]; simp; omega)]
theorem wasCells_at {h r : List (Op4 × ByteArray)} {x : Op4 × ByteArray} (hs : x :: r <:+ h) : (wasCells h.reverse)[r.length]? = some (.string x.2) := by
  obtain ⟨p, rfl⟩ := hs
  have e : (p ++ x :: r).reverse = r.reverse ++ ([x] ++ p.reverse) := by simp
  rw [e]
  simp [wasCells]
/-- A row that has an element is a block. -/
theorem own_form {w : World} {base e size n : Nat} {A : Option Addr} {c : Nat} {xs : List Value} (h : w.ownsRow base e size (.slice A n c) n xs) (hn : 0 < n) : ∃ g, A = some ⟨g, 0, none⟩ := by
  rcases h.2 with ⟨he, h0⟩ | ⟨g, cap, cur, he, _⟩
  · omega
  · simp only [Value.slice.injEq] at he
    exact ⟨g, he.1⟩

set_option maxHeartbeats 4000000 in
theorem back_walk (a : Option Addr) (len cap : Nat) (w : World) (hin : OpsIn w a len) :
    Calls Try.prog 4 #[.slice a len cap] w fun e w' => e = .returned (.bool true) ∧ Below w.heap.size w w' := by
  have HIN := Lib.hid hin
  clear hin
  go_enter Try.func4, Try.ntmps4
  go_wp2_with fail
  refine (awake_any _).mono ?_
  rintro e w1 ⟨rfl, ht⟩
  have HT1 := Lib.hid ht
  clear ht
  go_wp2_with fail
  refine (new_any _).mono ?_
  rintro e w2 ⟨g, rfl, hd, hg, ht⟩
  have HT2 := Lib.hid (HT1.out.then ht (fun _ h => h.elim))
  have HG : Hid (w.heap.size ≤ g) := Nat.le_trans HT1.out.size hg
  have HD2 := Lib.hid hd
  clear ht hd hg HT1
  go_wp2_with fail
  have r0 : BackRel w g (.slice (some ⟨w2.heap.size, 0, none⟩) 0 0) (.slice (some ⟨w2.heap.size + 1, 0, none⟩) 0 0) [] ⟨#[]⟩ ((w2.alloc (.cells #[] 31)).alloc (.cells #[] 9)) :=
    ⟨blk_alloc (blk_alloc HD2.out _) _, HG.out, World.ownsRow.alloc (World.ownsRow_lit (base := w.heap.size) (e := 31) (size := 4) w2 #[] 0 HT2.out.size (by unfold maxLen; omega) (by simp)) _,
      (by
        have h := World.ownsRow_lit (base := w.heap.size) (e := 9) (size := 1) (w2.alloc (.cells #[] 31)) #[] 0 (by have := HT2.out.size; simp; omega) (by unfold maxLen; omega) (by simp)
        rw [show (w2.alloc (.cells #[] 31)).heap.size = w2.heap.size + 1 by simp] at h
        exact h), (HT2.out.alloc _).alloc _⟩
  have R0 := Lib.hid r0
  clear r0
  have hlen := HIN.out.1
  unfold maxLen at hlen
  obtain ⟨i31, hi31, hz31, hs31, hb31⟩ := info_parts Try.info31
  obtain ⟨i9, hi9, hz9, hs9, hb9⟩ := info_parts Try.info9
  have I31 := Lib.hid (And.intro hi31 (And.intro hz31 (And.intro hs31 hb31)))
  have I9 := Lib.hid (And.intro hi9 (And.intro hz9 (And.intro hs9 hb9)))
  clear hi31 hz31 hs31 hb31 hi9 hz9 hs9 hb9
  go_loopg [4, 5, 6] 40 (fun k v4 v5 v6 wr => ∃ (j : Nat) (h : List (Op4 × ByteArray)) (s : ByteArray), v6 = .int .i64 (j : Int) ∧ Hid (k + j = 40 ∧ h.length ≤ j ∧ Chain h s ∧ s.size ≤ 200) ∧ BackRel w g v4 v5 h s wr)
  case atStart => exact ⟨0, [], ⟨#[]⟩, rfl, ⟨rfl, Nat.le_refl _, rfl, by decide⟩, R0.out⟩
  case round =>
    obtain ⟨j, h, s, rfl, hj, hr⟩ := hrel
    have HR := Lib.hid hr
    clear hr R0
    obtain ⟨ab, cb, eb, _⟩ := own_slice HR.out.back
    obtain ⟨aw, cw, ew, _⟩ := own_slice HR.out.was
    subst eb ew
    by_cases hlt : j < len
    · have b1 : decide ((j : Int) < (len : Int)) = true := by simp; omega
      by_cases h40 : j < 40
      · have hj0 := hj.out.1
        have b2 : decide ((j : Int) < (40 : Int)) = true := by simp; omega
        obtain ⟨ad, k, p, S, n, rfl, _, c0, c1, c2, c3⟩ := (HIN.out.later HR.out.turn.nopeBelow).2 j hlt
        go_wp2_with fail
        refine (few_any k p S n _).mono ?_
        rintro e w3 ⟨rfl, ht⟩
        have HR3 := Lib.hid (HR.out.nope ht)
        clear ht HR c0 c1 c2 c3
        generalize cut S 45 = S'
        go_wp2_with fail
        have HR4 := Lib.hid (HR3.out.alloc (.cells #[.int .i64 k, .int .i64 p, .string S', .int .i64 n] 31))
        have hne : g ≠ w3.heap.size := by have := blk_lt HR3.out.doc; omega
        refine (text_any g s _ HR4.out.doc).mono ?_
        rintro e w4 ⟨rfl, rfl⟩
        go_wp2_with fail
        refine (do_any g s k p S' n _ HR4.out.doc hj.out.2.2.2).mono ?_
        rintro e w4 ⟨rfl, hd, ht⟩
        by_cases he : (dOp s ⟨k, p, S', n⟩).2.2 = 0
        · obtain ⟨q1, q2, q3, q4⟩ := dOp_back s ⟨k, p, S', n⟩ hj.out.2.2.2 he
          obtain ⟨s', gone, c, E⟩ : ∃ s' gone c, dDo s k p S' n = (s', gone, c) := ⟨_, _, _, rfl⟩
          simp only [dOp, E] at he q1 q2 q3 q4
          subst he
          rw [E] at hd ⊢
          have B1 := Lib.hid (ht.blk (blk_new w3 _) (fun e => hne e.symm))
          have HR5 := Lib.hid (HR4.out.step ht hd)
          have Q := Lib.hid (And.intro q1 (And.intro q2 (And.intro q3 q4)))
          have k0 := blk_cell B1.out 0
          have k1 := blk_cell B1.out 1
          have k2 := blk_cell B1.out 2
          have k3 := blk_cell B1.out 3
          simp at k0 k1 k2 k3
          clear hd ht HR3 HR4 E q1 q2 q3 q4
          dsimp only
          go_wp2_with fail
          refine (inv_any k p S' gone n _).mono ?_
          rintro e w5 ⟨rfl, ht⟩
          have HR6 := Lib.hid (HR5.out.nope ht)
          clear ht HR5 k0 k1 k2 k3 B1
          generalize hio : inv ⟨k, p, S', n⟩ gone = io at Q
          obtain ⟨ik, ip, iS, iN⟩ := io
          dsimp only
          clear hio
          have hl := hj.out.2.1
          have HR7 := Lib.hid (HR6.out.alloc (.cells #[.int .i64 ik, .int .i64 ip, .string iS, .int .i64 iN] 31))
          go_upto_region 16 with (first | (at_builtin; refine wpList_append_lies _ rfl (.tmp 52) (.tmp 56) 33 rfl w.heap.size 31 i31 _ 4 40 Try.underlying33 I31.out.1 I31.out.2.1 I31.out.2.2.1 I31.out.2.2.2 rfl (by omega) (.slice ab h.length cb) h.length (opCells h.reverse) rfl HR7.out.back ⟨w5.heap.size, 0, none⟩ 1 1 (opCells [(⟨ik, ip, iS, iN⟩, s)]) rfl rfl (news_new w5 _ 31) (by intro u hu; simp [opCells] at hu; rcases hu with rfl | rfl | rfl | rfl <;> rfl) (by omega) (by unfold maxLen; omega) (by omega) (by have := HR6.out.turn.size; simp; omega) (w5.heap.size + 1) (by simp) ?_; intro g1 cap1 w6 hown1 hgr1 hat1 hlt1; have HO1 := Lib.hid hown1; have HG1 := Lib.hid hgr1; clear hown1 hgr1 hat1 hlt1))
          have HW6 := Lib.hid (own_grown HR7.out.was HG1.out (own_apart HR7.out.was HR7.out.back (by decide)))
          have hz6 : w.heap.size ≤ w6.heap.size := by
            have h1 := HG1.out.size
            have h2 := HR6.out.turn.size
            simp at h1
            omega
          go_wp2_with (first | (at_builtin; refine wpList_append_lies _ rfl (.tmp 58) (.tmp 60) 34 rfl w.heap.size 9 i9 _ 1 16 Try.underlying34 I9.out.1 I9.out.2.1 I9.out.2.2.1 I9.out.2.2.2 rfl (by omega) (.slice aw h.length cw) h.length (wasCells h.reverse) rfl (HW6.out.alloc _) ⟨w6.heap.size, 0, none⟩ 1 1 (wasCells [((⟨ik, ip, iS, iN⟩ : Op4), s)]) rfl rfl (news_new w6 _ 9) (by intro u hu; simp [wasCells] at hu; subst hu; rfl) (by omega) (by unfold maxLen; omega) (by omega) (by simp; omega) (w6.heap.size + 1) (by simp) ?_; intro g2 cap2 w7 hown2 hgr2 hat2 hlt2; have HO2 := Lib.hid hown2; have HG2 := Lib.hid hgr2; clear hown2 hgr2 hat2 hlt2 hz6))
          go_roundg (40 - (j + 1))
          case measure => have := hj.out.1; omega
          case rel =>
            refine ⟨j + 1, (⟨ik, ip, iS, iN⟩, s) :: h, s', by go_num, ⟨by have := hj.out.1; omega, by have := hj.out.2.1; simp; omega, ⟨Q.out.1, Q.out.2.1, Q.out.2.2.1, hj.out.2.2.2, hj.out.2.2.1⟩, Q.out.2.2.2⟩, ?_⟩
            exact BackRel.push HR7.out HO1.out HG1.out rfl HO2.out HG2.out
        · have E := dOp_err s ⟨k, p, S', n⟩ he
          simp only [dOp] at E he
          generalize (dDo s k p S' n).2.2 = c at E he
          rw [E] at hd ⊢
          have b3 : (c != 0) = true := bne_iff_ne.2 he
          have HR5 := Lib.hid (HR4.out.step ht hd)
          clear hd ht he E HR3 HR4
          dsimp only
          go_wp2_with (first | (go_at_call 9; refine (text_any g s _ HR5.out.doc).mono ?_; rintro e w' ⟨rfl, rfl⟩))
          go_roundg (40 - (j + 1))
          case measure => have := hj.out.1; omega
          case rel => exact ⟨j + 1, h, s, by go_num, ⟨by have := hj.out.1; omega, by have := hj.out.2.1; omega, hj.out.2.2⟩, HR5.out⟩
      · have b2 : decide ((j : Int) < (40 : Int)) = false := by simp; omega
        have hh := hj.out.2.1
        have hj40 : j ≤ 40 := by have := hj.out.1; omega
        go_wp2_with fail
        go_loopg [11] h.length (fun k v11 wr => ∃ (r : List (Op4 × ByteArray)) (t : ByteArray) (z : Int), v11 = .int .i64 z ∧ Hid (z = (k : Int) - 1 ∧ r.length = k ∧ r <:+ h ∧ Chain r t ∧ t.size ≤ 200) ∧ BackRel w g (.slice ab h.length cb) (.slice aw h.length cw) h t wr)
        case atStart => exact ⟨h, s, (h.length : Int) - 1, by go_num, ⟨rfl, rfl, List.suffix_refl h, hj.out.2.2⟩, HR.out⟩
        case round =>
          obtain ⟨r, t, z, rfl, hz, hr2⟩ := hrel
          have HR2 := Lib.hid hr2
          clear hr2 HR
          cases r with
          | nil =>
            obtain rfl : z = -1 := by have h1 := hz.out.1; have h2 := hz.out.2.1; simp at h2; omega
            have ht : t = ⟨#[]⟩ := hz.out.2.2.2.1
            subst ht
            go_wp2_with (first | (go_at_call 9; refine (text_any g ⟨#[]⟩ _ HR2.out.doc).mono ?_; rintro e w' ⟨rfl, rfl⟩))
            go_ret
            exact ⟨rfl, HR2.out.turn.nopeBelow⟩
          | cons x r =>
            obtain ⟨⟨k, p, S, n⟩, u⟩ := x
            obtain rfl : z = (r.length : Int) := by have h1 := hz.out.1; have h2 := hz.out.2.1; simp only [List.length_cons] at h2; omega
            have hlen2 : r.length < h.length := by have := hz.out.2.2.1.length_le; simp only [List.length_cons] at this; omega
            obtain ⟨gb, eb⟩ := own_form HR2.out.back (by omega)
            obtain ⟨gw, ew⟩ := own_form HR2.out.was (by omega)
            subst eb ew
            have hcb : h.length ≤ cb := by obtain ⟨A, c, e, hle⟩ := own_slice HR2.out.back; simp at e; obtain ⟨_, e2⟩ := e; omega
            have hcw : h.length ≤ cw := by obtain ⟨A, c, e, hle⟩ := own_slice HR2.out.was; simp at e; obtain ⟨_, e2⟩ := e; omega
            obtain ⟨q1, q2, q3, q4, q5⟩ := hz.out.2.2.2.1
            have d0 := own_elem HR2.out.back (r.length * 4 + 0) ((opCells_at hz.out.2.2.1 0 (by omega)).trans rfl)
            have d1 := own_elem HR2.out.back (r.length * 4 + 1) ((opCells_at hz.out.2.2.1 1 (by omega)).trans rfl)
            have d2 := own_elem HR2.out.back (r.length * 4 + 2) ((opCells_at hz.out.2.2.1 2 (by omega)).trans rfl)
            have d3 := own_elem HR2.out.back (r.length * 4 + 3) ((opCells_at hz.out.2.2.1 3 (by omega)).trans rfl)
            have Q1 := Lib.hid q1
            have Q2 := Lib.hid q2
            have Q3 := Lib.hid q3
            simp only [Nat.add_zero] at d0
            clear q1 q2 q3
            go_wp2_with fail
            refine (do_any g t k p S n _ HR2.out.doc hz.out.2.2.2.2).mono ?_
            rintro e w4 ⟨rfl, hd, ht⟩
            obtain ⟨E1, E2⟩ : (dDo t k p S n).1 = u ∧ (dDo t k p S n).2.2 = 0 := ⟨Q1.out, Q2.out⟩
            rw [E1] at hd
            rw [E2]
            generalize (dDo t k p S n).2.1 = gone
            have HR3 := Lib.hid (HR2.out.step ht hd)
            have CK : Hid (chk k p S n = 0) := Q3.out
            have SAT : Hid (∀ W, BackRel w g (.slice (some ⟨gb, 0, none⟩) h.length cb) (.slice (some ⟨gw, 0, none⟩) h.length cw) h u W → BackRel w g (.slice (some ⟨gb, 0, none⟩) h.length cb) (.slice (some ⟨gw, 0, none⟩) h.length cw) h u W ∧ W.cell? ⟨gw, r.length, none⟩ = some (.string u) ∧ W.cell? ⟨gb, r.length * 4, none⟩ = some (.int .i64 k) ∧ W.cell? ⟨gb, r.length * 4 + 1, none⟩ = some (.int .i64 p) ∧ W.cell? ⟨gb, r.length * 4 + 2, none⟩ = some (.string S) ∧ W.cell? ⟨gb, r.length * 4 + 3, none⟩ = some (.int .i64 n)) := fun W R =>
              ⟨R, own_elem R.was r.length (wasCells_at hz.out.2.2.1), own_elem R.back (r.length * 4) ((opCells_at hz.out.2.2.1 0 (by omega)).trans rfl), own_elem R.back (r.length * 4 + 1) ((opCells_at hz.out.2.2.1 1 (by omega)).trans rfl), own_elem R.back (r.length * 4 + 2) ((opCells_at hz.out.2.2.1 2 (by omega)).trans rfl), own_elem R.back (r.length * 4 + 3) ((opCells_at hz.out.2.2.1 3 (by omega)).trans rfl)⟩
            clear hd ht E1 E2 HR2 Q1 Q2 Q3 q5
            dsimp only
            go_wp2_with fail
            have i1 : (0 : Int) ≤ (r.length : Int) := by omega
            have i2 : (r.length : Int) < (h.length : Int) := by omega
            go_region_held3 (fun w' => BackRel w g (.slice (some ⟨gb, 0, none⟩) h.length cb) (.slice (some ⟨gw, 0, none⟩) h.length cw) h u w' ∧ w'.cell? ⟨gw, r.length, none⟩ = some (.string u) ∧ w'.cell? ⟨gb, r.length * 4, none⟩ = some (.int .i64 k) ∧ w'.cell? ⟨gb, r.length * 4 + 1, none⟩ = some (.int .i64 p) ∧ w'.cell? ⟨gb, r.length * 4 + 2, none⟩ = some (.string S) ∧ w'.cell? ⟨gb, r.length * 4 + 3, none⟩ = some (.int .i64 n)) (first | exact SAT.out _ HR3.out | exact SAT.out _ (HR3.out.nope (Turn.refl _ _).drew) | exact SAT.out _ HR4.out)
              (first | (go_at_call 9; refine (text_any g u _ (HR3.out.nope (Turn.refl _ _).drew).doc).mono ?_; rintro e w' ⟨rfl, rfl⟩) | (go_at_call 13; refine (check_any k p S n _).mono ?_; rintro e w5 ⟨rfl, ht⟩; rw [CK.out]; have HR4 := Lib.hid (HR3.out.nope (((Turn.refl _ _).drew).trans ht)); clear ht))
            go_wp2
            go_roundg r.length
            case measure => have := hz.out.2.1; simp only [List.length_cons] at this; omega
            case rel => exact ⟨r, u, (r.length : Int) - 1, by go_num, ⟨rfl, rfl, (List.suffix_cons _ _).trans hz.out.2.2.1, hz.out.2.2.2.1.2.2.2.2, q4⟩, HR4.out⟩
    · have b1 : decide ((j : Int) < (len : Int)) = false := by simp; omega
      have hh := hj.out.2.1
      have hj40 : j ≤ 40 := by have := hj.out.1; omega
      go_wp2_with fail
      go_loopg [11] h.length (fun k v11 wr => ∃ (r : List (Op4 × ByteArray)) (t : ByteArray) (z : Int), v11 = .int .i64 z ∧ Hid (z = (k : Int) - 1 ∧ r.length = k ∧ r <:+ h ∧ Chain r t ∧ t.size ≤ 200) ∧ BackRel w g (.slice ab h.length cb) (.slice aw h.length cw) h t wr)
      case atStart => exact ⟨h, s, (h.length : Int) - 1, by go_num, ⟨rfl, rfl, List.suffix_refl h, hj.out.2.2⟩, HR.out⟩
      case round =>
        obtain ⟨r, t, z, rfl, hz, hr2⟩ := hrel
        have HR2 := Lib.hid hr2
        clear hr2 HR
        cases r with
        | nil =>
          obtain rfl : z = -1 := by have h1 := hz.out.1; have h2 := hz.out.2.1; simp at h2; omega
          have ht : t = ⟨#[]⟩ := hz.out.2.2.2.1
          subst ht
          go_wp2_with (first | (go_at_call 9; refine (text_any g ⟨#[]⟩ _ HR2.out.doc).mono ?_; rintro e w' ⟨rfl, rfl⟩))
          go_ret
          exact ⟨rfl, HR2.out.turn.nopeBelow⟩
        | cons x r =>
          obtain ⟨⟨k, p, S, n⟩, u⟩ := x
          obtain rfl : z = (r.length : Int) := by have h1 := hz.out.1; have h2 := hz.out.2.1; simp only [List.length_cons] at h2; omega
          have hlen2 : r.length < h.length := by have := hz.out.2.2.1.length_le; simp only [List.length_cons] at this; omega
          obtain ⟨gb, eb⟩ := own_form HR2.out.back (by omega)
          obtain ⟨gw, ew⟩ := own_form HR2.out.was (by omega)
          subst eb ew
          have hcb : h.length ≤ cb := by obtain ⟨A, c, e, hle⟩ := own_slice HR2.out.back; simp at e; obtain ⟨_, e2⟩ := e; omega
          have hcw : h.length ≤ cw := by obtain ⟨A, c, e, hle⟩ := own_slice HR2.out.was; simp at e; obtain ⟨_, e2⟩ := e; omega
          obtain ⟨q1, q2, q3, q4, q5⟩ := hz.out.2.2.2.1
          have d0 := own_elem HR2.out.back (r.length * 4 + 0) ((opCells_at hz.out.2.2.1 0 (by omega)).trans rfl)
          have d1 := own_elem HR2.out.back (r.length * 4 + 1) ((opCells_at hz.out.2.2.1 1 (by omega)).trans rfl)
          have d2 := own_elem HR2.out.back (r.length * 4 + 2) ((opCells_at hz.out.2.2.1 2 (by omega)).trans rfl)
          have d3 := own_elem HR2.out.back (r.length * 4 + 3) ((opCells_at hz.out.2.2.1 3 (by omega)).trans rfl)
          have Q1 := Lib.hid q1
          have Q2 := Lib.hid q2
          have Q3 := Lib.hid q3
          simp only [Nat.add_zero] at d0
          clear q1 q2 q3
          go_wp2_with fail
          refine (do_any g t k p S n _ HR2.out.doc hz.out.2.2.2.2).mono ?_
          rintro e w4 ⟨rfl, hd, ht⟩
          obtain ⟨E1, E2⟩ : (dDo t k p S n).1 = u ∧ (dDo t k p S n).2.2 = 0 := ⟨Q1.out, Q2.out⟩
          rw [E1] at hd
          rw [E2]
          generalize (dDo t k p S n).2.1 = gone
          have HR3 := Lib.hid (HR2.out.step ht hd)
          have CK : Hid (chk k p S n = 0) := Q3.out
          have SAT : Hid (∀ W, BackRel w g (.slice (some ⟨gb, 0, none⟩) h.length cb) (.slice (some ⟨gw, 0, none⟩) h.length cw) h u W → BackRel w g (.slice (some ⟨gb, 0, none⟩) h.length cb) (.slice (some ⟨gw, 0, none⟩) h.length cw) h u W ∧ W.cell? ⟨gw, r.length, none⟩ = some (.string u) ∧ W.cell? ⟨gb, r.length * 4, none⟩ = some (.int .i64 k) ∧ W.cell? ⟨gb, r.length * 4 + 1, none⟩ = some (.int .i64 p) ∧ W.cell? ⟨gb, r.length * 4 + 2, none⟩ = some (.string S) ∧ W.cell? ⟨gb, r.length * 4 + 3, none⟩ = some (.int .i64 n)) := fun W R =>
            ⟨R, own_elem R.was r.length (wasCells_at hz.out.2.2.1), own_elem R.back (r.length * 4) ((opCells_at hz.out.2.2.1 0 (by omega)).trans rfl), own_elem R.back (r.length * 4 + 1) ((opCells_at hz.out.2.2.1 1 (by omega)).trans rfl), own_elem R.back (r.length * 4 + 2) ((opCells_at hz.out.2.2.1 2 (by omega)).trans rfl), own_elem R.back (r.length * 4 + 3) ((opCells_at hz.out.2.2.1 3 (by omega)).trans rfl)⟩
          clear hd ht E1 E2 HR2 Q1 Q2 Q3 q5
          dsimp only
          go_wp2_with fail
          have i1 : (0 : Int) ≤ (r.length : Int) := by omega
          have i2 : (r.length : Int) < (h.length : Int) := by omega
          go_region_held3 (fun w' => BackRel w g (.slice (some ⟨gb, 0, none⟩) h.length cb) (.slice (some ⟨gw, 0, none⟩) h.length cw) h u w' ∧ w'.cell? ⟨gw, r.length, none⟩ = some (.string u) ∧ w'.cell? ⟨gb, r.length * 4, none⟩ = some (.int .i64 k) ∧ w'.cell? ⟨gb, r.length * 4 + 1, none⟩ = some (.int .i64 p) ∧ w'.cell? ⟨gb, r.length * 4 + 2, none⟩ = some (.string S) ∧ w'.cell? ⟨gb, r.length * 4 + 3, none⟩ = some (.int .i64 n)) (first | exact SAT.out _ HR3.out | exact SAT.out _ (HR3.out.nope (Turn.refl _ _).drew) | exact SAT.out _ HR4.out)
            (first | (go_at_call 9; refine (text_any g u _ (HR3.out.nope (Turn.refl _ _).drew).doc).mono ?_; rintro e w' ⟨rfl, rfl⟩) | (go_at_call 13; refine (check_any k p S n _).mono ?_; rintro e w5 ⟨rfl, ht⟩; rw [CK.out]; have HR4 := Lib.hid (HR3.out.nope (((Turn.refl _ _).drew).trans ht)); clear ht))
          go_wp2
          go_roundg r.length
          case measure => have := hz.out.2.1; simp only [List.length_cons] at this; omega
          case rel => exact ⟨r, u, (r.length : Int) - 1, by go_num, ⟨rfl, rfl, (List.suffix_cons _ _).trans hz.out.2.2.1, hz.out.2.2.2.1.2.2.2.2, q4⟩, HR4.out⟩
end Go.Proofs.Ytbcdjdbdjcflgaa
