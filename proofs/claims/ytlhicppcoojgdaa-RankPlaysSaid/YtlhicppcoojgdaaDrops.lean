import Derived.Test.YtlhicppcoojgdaaTwice
import Derived.Deep.DeepCutAuto
set_option linter.unusedVariables false
namespace Go.Proofs.Ytlhicppcoojgdaa
open Go.RowKit
theorem lib_min_three (ats : Array TypeId) (ty : TypeId) (a b c : Value) : Builtin.min_ ats ty #[a, b, c] = (Builtin.min2 a b >>= fun s => Builtin.min2 s c >>= fun s => pure s) := by simp only [Builtin.min_, List.foldlM_cons, List.foldlM_nil]
attribute [local go_sem] lib_max2 lib_min2 lib_max_two lib_min_two lib_min_three
theorem min3_of (a b k : Nat) : ∃ n m : Nat, n ≤ a ∧ n ≤ b ∧ n ≤ k ∧ (if (b : Int) < (a : Int) then (b : Int) else (a : Int)) = (m : Int) ∧ (if (k : Int) < (m : Int) then (k : Int) else (m : Int)) = (n : Int) := by
  by_cases h : (b : Int) < (a : Int)
  · obtain ⟨n, h1, h2, h3⟩ : ∃ n : Nat, n ≤ b ∧ n ≤ k ∧ (if (k : Int) < (b : Int) then (k : Int) else (b : Int)) = (n : Int) := min_of b k
    exact ⟨n, b, by omega, by omega, h2, if_pos h, h3⟩
  · obtain ⟨n, h1, h2, h3⟩ : ∃ n : Nat, n ≤ a ∧ n ≤ k ∧ (if (k : Int) < (a : Int) then (k : Int) else (a : Int)) = (n : Int) := min_of a k
    exact ⟨n, a, by omega, by omega, h2, if_neg h, h3⟩
theorem insR_c (x y : Thing) (l : List Thing) : insR x (y :: l) = if x.1 < y.1 then x :: y :: l else y :: insR x l := rfl
theorem notOfT_insR (gone : Int) (x : Thing) : ∀ l : List Thing, Rises l → notOfT gone (insR x l) = if x.2 = gone then notOfT gone l else insR x (notOfT gone l)
  | [], _ => by
    unfold notOfT insR
    by_cases h : x.2 = gone
    · simp [h]
    · simp [h]
  | y :: l, hr => by
    have h1 := List.pairwise_cons.1 hr
    have ih := notOfT_insR gone x l h1.2
    unfold notOfT at *
    rw [insR_c]
    by_cases hy : y.2 = gone
    · rw [List.filter_cons_of_neg (by simp [hy])]
      by_cases hl : x.1 < y.1
      · rw [if_pos hl]
        by_cases hx : x.2 = gone
        · rw [if_pos hx, List.filter_cons_of_neg (by simp [hx]), List.filter_cons_of_neg (by simp [hy])]
        · rw [if_neg hx, List.filter_cons_of_pos (by simp [hx]), List.filter_cons_of_neg (by simp [hy])]
          cases hf : List.filter (fun x => decide (x.2 ≠ gone)) l with
          | nil => rfl
          | cons z r =>
            have hz : z ∈ l := (List.mem_filter.1 (by rw [hf]; exact List.mem_cons_self : z ∈ List.filter (fun x => decide (x.2 ≠ gone)) l)).1
            have := h1.1 z hz
            rw [insR_c, if_pos (by omega)]
      · rw [if_neg hl, List.filter_cons_of_neg (by simp [hy]), ih]
    · rw [List.filter_cons_of_pos (by simp [hy])]
      by_cases hl : x.1 < y.1
      · rw [if_pos hl]
        by_cases hx : x.2 = gone
        · rw [if_pos hx, List.filter_cons_of_neg (by simp [hx]), List.filter_cons_of_pos (by simp [hy])]
        · rw [if_neg hx, List.filter_cons_of_pos (by simp [hx]), List.filter_cons_of_pos (by simp [hy])]
          rw [insR_c, if_pos hl]
      · rw [if_neg hl, List.filter_cons_of_pos (by simp [hy]), ih]
        by_cases hx : x.2 = gone
        · rw [if_pos hx, if_pos hx]
        · rw [if_neg hx, if_neg hx]
          rw [insR_c, if_neg hl]
theorem notOfT_twice (gone : Int) (l : List Thing) : notOfT gone (notOfT gone l) = notOfT gone l := by
  unfold notOfT; rw [List.filter_filter]; simp
set_option maxRecDepth 8000 in
set_option maxHeartbeats 8000000 in
theorem drops_walk (a0 : Option Addr) (len0 cap0 : Nat) (a1 : Option Addr) (len1 cap1 : Nat) (gone : Int) (w : World) (hin0 : IntsIn w a0 len0) (hin1 : IntsIn w a1 len1) :
    Calls Try.prog 7 #[.slice a0 len0 cap0, .slice a1 len1 cap1, .int .i64 gone] w fun e w' => e = .returned (.bool true) ∧ Below w.heap.size w w' := by
  obtain ⟨ts, hin0⟩ := hin0
  obtain ⟨ws, hin1⟩ := hin1
  have HIN := Lib.hid hin0
  have HIW := Lib.hid hin1
  clear hin0 hin1
  obtain ⟨n, n0, hnl, hnw, hn, hmin0, hmin⟩ := min3_of len0 len1 60
  replace hmin : (if (60 : Int) < (n0 : Int) then (60 : Int) else (n0 : Int)) = (n : Int) := hmin
  have hmin1 : (if len1 < len0 then (len1 : Int) else (len0 : Int)) = (n0 : Int) := by rw [← hmin0]; by_cases h : len1 < len0 <;> simp [h]
  go_enter Try.func7, Try.ntmps7
  go_wp2_with fail
  refine (awake_any _).mono ?_
  rintro e w1 ⟨rfl, ht⟩
  have HT1 := Lib.hid ht
  clear ht
  go_wp2_with fail
  refine (one_new w _ HT1.out).mono ?_
  rintro e w2 ⟨q, rfl, h, ht⟩
  have HQ2 := Lib.hid h
  clear h ht HT1
  go_wp2_with fail
  refine (two_new w _ HQ2.out).mono ?_
  rintro e w3 ⟨p, rfl, h⟩
  have HQ3 := Lib.hid h
  clear h HQ2
  go_wp2_with fail
  clear hmin hmin0 hmin1
  go_loopg [10, 11] n (fun k v10 v11 wr => ∃ (i b c : Nat) (l : List Thing), v11 = .int .i64 (i : Int) ∧ v10 = .int .i64 (b : Int) ∧ Hid (k + i = n ∧ l.length = i ∧ (notOfT gone l).length + b = i ∧ c ≤ i ∧ Two w wr q p l (notOfT gone l) i c))
  case atStart => exact ⟨0, 0, 0, [], rfl, rfl, rfl, rfl, rfl, Nat.le_refl _, HQ3.out⟩
  case round =>
    obtain ⟨i, b, c, l, rfl, rfl, hi⟩ := hrel
    clear HQ3
    have hin := hi.out.1
    have HLL := Lib.hid hi.out.2.1
    by_cases hlt : i < n
    · have b1 : decide ((i : Int) < (n : Int)) = true := by simp; omega
      have b1n : decide (i < n) = true := by simp; omega
      have hw : wrap64 ((i : Int) + 1) = (i : Int) + 1 := IntWalk.wrap64_in _ ⟨by omega, by omega⟩
      have hbi : b ≤ i := by have := hi.out.2.2.1; omega
      have hwb : wrap64 ((b : Int) + 1) = (b : Int) + 1 := IntWalk.wrap64_in _ ⟨by omega, by omega⟩
      obtain ⟨ad, rfl, c0⟩ := HIN.out.2 i (by omega)
      obtain ⟨ad1, rfl, c1⟩ := HIW.out.2 i (by omega)
      have C0 : Hid (∀ {W}, Turn Nope w W → W.cell? (ad.add i) = some (.int .i64 (ts i))) := fun h => cell_later h.nopeBelow c0
      have C1 : Hid (∀ {W}, Turn Nope w W → W.cell? (ad1.add i) = some (.int .i64 (ws i))) := fun h => cell_later h.nopeBelow c1
      have c0 := C0.out hi.out.2.2.2.2.turn
      have c1 := C1.out hi.out.2.2.2.2.turn
      have i0 : (0 : Int) ≤ (i : Int) := by omega
      have i1 : (i : Int) < (len0 : Int) := by omega
      have i2 : (i : Int) < (len1 : Int) := by omega
      have HNI := Lib.hid (notOfT_insR gone (ts i, ws i) l hi.out.2.2.2.2.rises)
      by_cases hg : ws i = gone
      · have e1 : (ws i == gone) = true := by simpa using hg
        have HNE : Hid (notOfT gone (insR (ts i, ws i) l) = notOfT gone l) := HNI.out.trans (if_pos hg)
        clear hg HNI
        go_wp2_with (first | (refine still_tail (id := 9) 9 (by kernel_rfl) (by kernel_rfl) ?_; simp only [List.take_succ_cons, List.take_zero, List.drop_succ_cons, List.drop_zero]; (repeat still_step); refine wpStill_nil ?_))
        refine (two_add (hi.out.2.2.2.2.nope (Turn.refl _ _).drew) (by rw [HLL.out]; omega) (by omega) (ts i) (ws i)).mono ?_
        rintro e w4 ⟨rfl, h4⟩
        have H4 := Lib.hid h4
        clear h4 c0 c1
        have c0 := C0.out H4.out.turn
        have c1 := C1.out H4.out.turn
        go_wp2_with fail
        go_roundg (n - (i + 1))
        case measure => omega
        case rel => exact ⟨i + 1, b + 1, c, insR (ts i, ws i) l, by go_num, by go_num, by omega, by rw [insR_length, HLL.out], by rw [HNE.out]; have := hi.out.2.2.1; omega, by have := hi.out.2.2.2.1; omega, by rw [HNE.out]; exact H4.out⟩
      · have e1 : (ws i == gone) = false := by simpa using hg
        have HNE : Hid (notOfT gone (insR (ts i, ws i) l) = insR (ts i, ws i) (notOfT gone l)) := HNI.out.trans (if_neg hg)
        clear hg HNI
        go_wp2_with (first | (refine still_tail (id := 9) 9 (by kernel_rfl) (by kernel_rfl) ?_; simp only [List.take_succ_cons, List.take_zero, List.drop_succ_cons, List.drop_zero]; (repeat still_step); refine wpStill_nil ?_))
        refine (two_add (hi.out.2.2.2.2.nope (Turn.refl _ _).drew) (by rw [HLL.out]; omega) (by omega) (ts i) (ws i)).mono ?_
        rintro e w4 ⟨rfl, h4⟩
        have H4 := Lib.hid h4
        clear h4 c0 c1
        have c0 := C0.out H4.out.turn
        have c1 := C1.out H4.out.turn
        have hlp : (notOfT gone l).length ≤ 60 := by have := notOfT_length gone l; have := HLL.out; omega
        go_wp2_with (first | (refine still_tail (id := 12) 9 (by kernel_rfl) (by kernel_rfl) ?_; simp only [List.take_succ_cons, List.take_zero, List.drop_succ_cons, List.drop_zero]; (repeat still_step); refine wpStill_nil ?_))
        refine (two_add (H4.out.flip.nope (Turn.refl _ _).drew) (by omega) (by have := hi.out.2.2.2.1; omega) (ts i) (ws i)).mono ?_
        rintro e w5 ⟨rfl, h5⟩
        have H5 := Lib.hid h5.flip
        clear h5 c0 c1 hlp
        go_wp2_with fail
        go_roundg (n - (i + 1))
        case measure => omega
        case rel => exact ⟨i + 1, b, c + 1, insR (ts i, ws i) l, by go_num, rfl, by omega, by rw [insR_length, HLL.out], by rw [HNE.out, insR_length]; have := hi.out.2.2.1; omega, by have := hi.out.2.2.2.1; omega, by rw [HNE.out]; exact H5.out⟩
    · obtain rfl : i = n := by omega
      have HQ4 := Lib.hid hi.out.2.2.2.2
      have HB := Lib.hid hi.out.2.2.1
      have b1 : decide ((i : Int) < (i : Int)) = false := by simp
      have hlp : (notOfT gone l).length ≤ 60 := by have := notOfT_length gone l; have := HLL.out; omega
      have m1 : (((l.length : Int) - ((notOfT gone l).length : Int)) != (b : Int)) = false := by have := HB.out; have := HLL.out; simp; omega
      have m2 : ((((notOfT gone l).length : Int) - ((notOfT gone l).length : Int)) != 0) = false := by simp
      have m3 : (((notOfT gone l).length : Int) != ((notOfT gone l).length : Int)) = false := by simp
      have HM1 := Lib.hid m1
      clear hi hin hlt m1
      have HT2 := Lib.hid (notOfT_twice gone l)
      go_wp2_with fail
      refine (two_drop HQ4.out (by rw [HLL.out]; omega) gone).mono ?_
      rintro e w4 ⟨rfl, h4⟩
      have H4 := Lib.hid h4
      clear h4
      have m1 := HM1.out
      generalize ((l.length : Int) - ((notOfT gone l).length : Int)) = z at m1 ⊢
      go_wp2_with fail
      refine (two_drop H4.out (by omega) gone).mono ?_
      rw [HT2.out]
      rintro e w5 ⟨rfl, h5⟩
      have H5 := Lib.hid h5
      clear h5
      go_wp2_with fail
      refine (two_len H5.out).mono ?_
      rintro e w6 ⟨rfl, rfl⟩
      go_wp2_with fail
      refine (two_len H5.out.flip).mono ?_
      rintro e w7 ⟨rfl, rfl⟩
      go_wp2_with fail
      go_loopg [12, 13, 14, 15, 16, 17, 79] i (fun k v12 v13 v14 v15 v16 v17 v79 wr => ∃ (j : Nat) (m : List Thing), v79 = .int .i64 (j : Int) ∧ Hid (k + j = i ∧ m.length ≤ 60 ∧ Two w wr q p m m i c))
      case atStart => exact ⟨0, notOfT gone l, rfl, rfl, hlp, H5.out⟩
      case round =>
        obtain ⟨j, m, rfl, hj⟩ := hrel
        clear HQ4 HLL HB H4 H5 HM1 m1 m2 m3 hlp
        have hji := hj.out.1
        have hml := hj.out.2.1
        by_cases hlt : j < i
        · have d1 : decide ((j : Int) < (i : Int)) = true := by simp; omega
          have d1n : decide (j < i) = true := by simp; omega
          have hw : wrap64 ((j : Int) + 1) = (j : Int) + 1 := IntWalk.wrap64_in _ ⟨by omega, by omega⟩
          cases m with
          | nil =>
            go_wp2_with fail
            refine (two_take_none hj.out.2.2).mono ?_
            rintro e w8 ⟨rfl, rfl⟩
            go_wp2_with fail
            refine (two_take_none hj.out.2.2.flip).mono ?_
            rintro e w9 ⟨rfl, rfl⟩
            go_wp2_with fail
            go_roundg (i - (j + 1))
            case measure => omega
            case rel => exact ⟨j + 1, [], by go_num, by omega, hml, hj.out.2.2⟩
          | cons x m =>
            obtain ⟨t, who⟩ := x
            simp only [List.length_cons] at hml
            have e1 : (t != t) = false := by simp
            have e2 : (who != who) = false := by simp
            go_wp2_with fail
            refine (two_take_some hj.out.2.2 (by omega)).mono ?_
            rintro e w8 ⟨rfl, h8⟩
            have H8 := Lib.hid h8.flip
            clear h8
            go_wp2_with fail
            refine (two_take_some H8.out (by omega)).mono ?_
            rintro e w9 ⟨rfl, h9⟩
            have H9 := Lib.hid h9.flip
            clear h9
            go_wp2_with fail
            go_roundg (i - (j + 1))
            case measure => omega
            case rel => exact ⟨j + 1, m, by go_num, by omega, by omega, H9.out⟩
        · obtain rfl : j = i := by omega
          have d1 : decide ((j : Int) < (j : Int)) = false := by simp
          clear hji hlt
          go_wp2_with fail
          go_ret
          exact ⟨rfl, hj.out.2.2.turn.nopeBelow⟩
end Go.Proofs.Ytlhicppcoojgdaa
