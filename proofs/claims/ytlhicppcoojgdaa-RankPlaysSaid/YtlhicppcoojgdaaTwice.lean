import Derived.Test.YtlhicppcoojgdaaSorts
set_option linter.unusedVariables false
namespace Go.Proofs.Ytlhicppcoojgdaa
open Go.RowKit
attribute [local go_sem] lib_max2 lib_min2 lib_max_two lib_min_two
theorem insR_cons (x : Thing) (l : List Thing) : ∃ t who m, insR x l = (t, who) :: m ∧ m.length = l.length := by
  have h := insR_length x l
  cases hm : insR x l with
  | nil => rw [hm] at h; simp at h
  | cons y m => exact ⟨y.1, y.2, m, rfl, by rw [hm] at h; simpa using h⟩
set_option maxRecDepth 8000 in
set_option maxHeartbeats 4000000 in
theorem twice_walk (a : Option Addr) (len cap : Nat) (w : World) (hin : IntsIn w a len) :
    Calls Try.prog 5 #[.slice a len cap] w fun e w' => e = .returned (.bool true) ∧ Below w.heap.size w w' := by
  obtain ⟨ts, hin⟩ := hin
  have HIN := Lib.hid hin
  clear hin
  obtain ⟨n, hnl, hn, hmin⟩ := min_of len 40
  replace hmin : (if (40 : Int) < (len : Int) then (40 : Int) else (len : Int)) = (n : Int) := hmin
  have HMIN := Lib.hid hmin
  go_enter Try.func5, Try.ntmps5
  go_wp2_with fail
  refine (awake_any _).mono ?_
  rintro e w1 ⟨rfl, ht⟩
  have HT1 := Lib.hid ht
  clear ht
  go_wp2_with fail
  refine (one_new w _ HT1.out).mono ?_
  rintro e w2 ⟨q, rfl, h, ht⟩
  have HQ2 := Lib.hid h
  clear h ht HT1
  go_wp2_with fail
  refine (two_new w _ HQ2.out).mono ?_
  rintro e w3 ⟨p, rfl, h⟩
  have HQ3 := Lib.hid h
  clear h HQ2
  go_wp2_with fail
  go_loopg [5, 6, 7, 8, 9, 10, 11] n (fun k v5 v6 v7 v8 v9 v10 v11 wr => ∃ (i : Nat) (l : List Thing), v5 = .int .i64 (i : Int) ∧ Hid (k + i = n ∧ l.length = i ∧ Two w wr q p l [] i 0))
  case atStart => exact ⟨0, [], rfl, rfl, rfl, HQ3.out⟩
  case round =>
    obtain ⟨i, l, rfl, hi⟩ := hrel
    clear HQ3
    have hin := hi.out.1
    have HLL := Lib.hid hi.out.2.1
    by_cases hlt : i < n
    · have b1 : decide ((i : Int) < (len : Int)) = true := by simp; omega
      have b1n : decide (i < len) = true := by simp; omega
      have b2 : decide ((i : Int) < (40 : Int)) = true := by simp; omega
      have b2n : decide (i < 40) = true := by simp; omega
      have hw : wrap64 ((i : Int) + 1) = (i : Int) + 1 := IntWalk.wrap64_in _ ⟨by omega, by omega⟩
      obtain ⟨ad, rfl, c0⟩ := HIN.out.2 i (by omega)
      have c0 := cell_later hi.out.2.2.turn.nopeBelow c0
      have i0 : (0 : Int) ≤ (i : Int) := by omega
      have i1 : (i : Int) < (len : Int) := by omega
      clear hmin
      go_wp2_with fail
      refine (two_add hi.out.2.2 (by rw [HLL.out]; omega) (by omega) (ts i) i).mono ?_
      rintro e w4 ⟨rfl, h4⟩
      obtain ⟨t, who, m, em, eml⟩ := insR_cons (ts i, (i : Int)) l
      rw [em] at h4
      have HM : Hid (m.length = i) := eml.trans HLL.out
      have H4 := Lib.hid h4
      clear h4 em eml c0
      have e1 : (t != t) = false := by simp
      have e2 : (who != who) = false := by simp
      have e3 : ((i : Int) + 1 != (i : Int) + 1) = false := by simp
      go_wp2_with fail
      refine (two_first_some H4.out (by rw [HM.out]; omega)).mono ?_
      rintro e w5 ⟨rfl, h5⟩
      have H5 := Lib.hid h5
      clear h5
      go_wp2_with fail
      refine (two_first_some H5.out (by rw [HM.out]; omega)).mono ?_
      rintro e w6 ⟨rfl, h6⟩
      have H6 := Lib.hid h6
      clear h6
      go_wp2_with fail
      refine (two_len H6.out).mono ?_
      rintro e w7 ⟨rfl, rfl⟩
      rw [List.length_cons, HM.out]
      go_wp2_with fail
      refine (two_len H6.out.flip).mono ?_
      rintro e w8 ⟨rfl, rfl⟩
      go_wp2_with fail
      go_roundg (n - (i + 1))
      case measure => omega
      case rel => exact ⟨i + 1, (t, who) :: m, by go_num, by omega, by rw [List.length_cons, HM.out], H6.out⟩
    · obtain rfl : i = n := by omega
      have HQ4 := Lib.hid hi.out.2.2
      clear hi hin hlt
      by_cases hl : i < len
      · have h40 : i = 40 := by
          have := HMIN.out
          split at this <;> omega
        have b1 : decide ((i : Int) < (len : Int)) = true := by simp; omega
        have b1n : decide (i < len) = true := by simp; omega
        have b2 : decide ((i : Int) < (40 : Int)) = false := by simp; omega
        have b2n : decide (i < 40) = false := by simp; omega
        clear h40
        go_wp2_with fail
        go_loopg [12, 13, 14, 15, 16, 17, 85] i (fun k v12 v13 v14 v15 v16 v17 v85 wr => ∃ (j : Nat) (m : List Thing), v85 = .int .i64 (j : Int) ∧ Hid (k + j = i ∧ m.length + j = i ∧ Two w wr q p m [] i 0))
        case atStart => exact ⟨0, l, rfl, rfl, HLL.out, HQ4.out⟩
        case round =>
          obtain ⟨j, m, rfl, hj⟩ := hrel
          clear HQ4 HLL
          have hji := hj.out.1
          have hml := hj.out.2.1
          by_cases hlt : j < i
          · have d1 : decide ((j : Int) < (i : Int)) = true := by simp; omega
            have d1n : decide (j < i) = true := by simp; omega
            have hw : wrap64 ((j : Int) + 1) = (j : Int) + 1 := IntWalk.wrap64_in _ ⟨by omega, by omega⟩
            cases m with
            | nil => simp at hml; omega
            | cons x m =>
              obtain ⟨t, who⟩ := x
              simp only [List.length_cons] at hml
              have e1 : (t != t) = false := by simp
              have e2 : (who != who) = false := by simp
              have HML := Lib.hid hml
              clear hml
              go_wp2_with fail
              refine (two_first_some hj.out.2.2 (by have := HML.out; omega)).mono ?_
              rintro e w5 ⟨rfl, h5⟩
              have H5 := Lib.hid h5
              clear h5
              go_wp2_with fail
              refine (two_take_some H5.out (by have := HML.out; omega)).mono ?_
              rintro e w6 ⟨rfl, h6⟩
              have H6 := Lib.hid h6
              clear h6
              go_wp2_with fail
              go_roundg (i - (j + 1))
              case measure => omega
              case rel => exact ⟨j + 1, m, by go_num, by omega, by have := HML.out; omega, H6.out⟩
          · obtain rfl : j = i := by omega
            have hm0 : m = [] := by cases m with | nil => rfl | cons x m => simp at hml
            subst hm0
            have d1 : decide ((j : Int) < (j : Int)) = false := by simp
            clear hji hml hlt
            go_wp2_with (go_at_call 14; refine (two_first_none hj.out.2.2).mono ?_; rintro e w5 ⟨rfl, rfl⟩)
            go_ret
            exact ⟨rfl, hj.out.2.2.turn.nopeBelow⟩
      · have b1 : decide ((i : Int) < (len : Int)) = false := by simp; omega
        have b1n : decide (i < len) = false := by simp; omega
        go_wp2_with fail
        go_loopg [12, 13, 14, 15, 16, 17, 85] i (fun k v12 v13 v14 v15 v16 v17 v85 wr => ∃ (j : Nat) (m : List Thing), v85 = .int .i64 (j : Int) ∧ Hid (k + j = i ∧ m.length + j = i ∧ Two w wr q p m [] i 0))
        case atStart => exact ⟨0, l, rfl, rfl, HLL.out, HQ4.out⟩
        case round =>
          obtain ⟨j, m, rfl, hj⟩ := hrel
          clear HQ4 HLL
          have hji := hj.out.1
          have hml := hj.out.2.1
          by_cases hlt : j < i
          · have d1 : decide ((j : Int) < (i : Int)) = true := by simp; omega
            have d1n : decide (j < i) = true := by simp; omega
            have hw : wrap64 ((j : Int) + 1) = (j : Int) + 1 := IntWalk.wrap64_in _ ⟨by omega, by omega⟩
            cases m with
            | nil => simp at hml; omega
            | cons x m =>
              obtain ⟨t, who⟩ := x
              simp only [List.length_cons] at hml
              have e1 : (t != t) = false := by simp
              have e2 : (who != who) = false := by simp
              have HML := Lib.hid hml
              clear hml
              go_wp2_with fail
              refine (two_first_some hj.out.2.2 (by have := HML.out; omega)).mono ?_
              rintro e w5 ⟨rfl, h5⟩
              have H5 := Lib.hid h5
              clear h5
              go_wp2_with fail
              refine (two_take_some H5.out (by have := HML.out; omega)).mono ?_
              rintro e w6 ⟨rfl, h6⟩
              have H6 := Lib.hid h6
              clear h6
              go_wp2_with fail
              go_roundg (i - (j + 1))
              case measure => omega
              case rel => exact ⟨j + 1, m, by go_num, by omega, by have := HML.out; omega, H6.out⟩
          · obtain rfl : j = i := by omega
            have hm0 : m = [] := by cases m with | nil => rfl | cons x m => simp at hml
            subst hm0
            have d1 : decide ((j : Int) < (j : Int)) = false := by simp
            clear hji hml hlt
            go_wp2_with (go_at_call 14; refine (two_first_none hj.out.2.2).mono ?_; rintro e w5 ⟨rfl, rfl⟩)
            go_ret
            exact ⟨rfl, hj.out.2.2.turn.nopeBelow⟩
end Go.Proofs.Ytlhicppcoojgdaa
