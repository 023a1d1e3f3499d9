/- The law of short searches: the walk. -/
import Derived.Test.YtdkojpfhmohaeaaDoorShortP
set_option linter.unusedVariables false
namespace Go.Proofs.YtdkojpfhmohaeaaDoor
open Go.RowKit TI
attribute [local go_sem] lib_max2 lib_min2 lib_max_two lib_min_two
theorem short_no (n v : Int) (w : World) (hT : TabAt w) (h : n < 1 ∨ 1023 < n) : Calls Tryd.prog 4 #[.int .i64 n, .int .i64 v] w fun e w' => e = .returned (.bool true) ∧ Below w.heap.size w w' := by
  have HT := Lib.hid hT
  clear hT
  by_cases h1 : n < 1
  · have q1 : decide (n < 1) = true := by simpa using h1
    clear h h1
    go_enter Tryd.func4, Tryd.ntmps4
    go_wp2_with fail
    refine (awake_any _ HT.out).mono ?_
    rintro e w1 ⟨rfl, ht⟩
    have HT1 := Lib.hid ht
    clear ht
    go_wp2_with fail
    refine (awake_any _ (HT.out.turn HT1.out)).mono ?_
    rintro e w2 ⟨rfl, ht⟩
    have HT2 := Lib.hid ht
    clear ht
    go_wp2_with fail
    go_ret
    exact ⟨rfl, (HT1.out.trans HT2.out).nopeBelow⟩
  · have q1 : decide (n < 1) = false := by simpa using h1
    have q2 : decide (n > 1023) = true := by simp; omega
    have q2' : decide (1023 < n) = true := by simp; omega
    clear h h1
    go_enter Tryd.func4, Tryd.ntmps4
    go_wp2_with fail
    refine (awake_any _ HT.out).mono ?_
    rintro e w1 ⟨rfl, ht⟩
    have HT1 := Lib.hid ht
    clear ht
    go_wp2_with fail
    refine (awake_any _ (HT.out.turn HT1.out)).mono ?_
    rintro e w2 ⟨rfl, ht⟩
    have HT2 := Lib.hid ht
    clear ht
    go_wp2_with fail
    go_ret
    exact ⟨rfl, (HT1.out.trans HT2.out).nopeBelow⟩
set_option maxRecDepth 8000 in
set_option maxHeartbeats 8000000 in
theorem short_yes (n : Nat) (v : Int) (w : World) (hT : TabAt w) (h1 : 1 ≤ n) (h2 : n ≤ 1023) : Calls Tryd.prog 4 #[.int .i64 (n : Int), .int .i64 v] w fun e w' => e = .returned (.bool true) ∧ Below w.heap.size w w' := by
  have HT := Lib.hid hT
  clear hT
  have q1 : decide ((n : Int) < 1) = false := by simp; omega
  have q2 : decide ((n : Int) > 1023) = false := by simp; omega
  have q2' : decide (1023 < (n : Int)) = false := by simp; omega
  go_enter Tryd.func4, Tryd.ntmps4
  go_wp2_with fail
  refine (awake_any _ HT.out).mono ?_
  rintro e w1 ⟨rfl, ht⟩
  have HT1 := Lib.hid ht
  clear ht
  go_wp2_with fail
  refine (one_new w _ HT1.out).mono ?_
  rintro e w2 ⟨l, rfl, h, ht⟩
  have HQ2 := Lib.hid h
  clear h ht HT1 q1 q2 q2'
  go_wp2_with fail
  go_loopg [6] n (fun k v6 wr => ∃ (i : Nat), v6 = .int .i64 ((i : Int) + 1) ∧ Hid (k + i = n ∧ One w wr l (idT i)))
  case atStart => exact ⟨0, rfl, by omega, HQ2.out⟩
  case round =>
    obtain ⟨i, rfl, hi⟩ := hrel
    clear HQ2
    have hik := hi.out.1
    by_cases hlt : i < n
    · have b1 : decide ((i : Int) + 1 ≤ (n : Int)) = true := by simp; omega
      have hw : wrap64 ((i : Int) + 1 + 1) = (i : Int) + 1 + 1 := IntWalk.wrap64_in _ ⟨by omega, by omega⟩
      go_wp2_with fail
      have hput := one_put hi.out.2 HT.out ((i : Int) + 1) (by omega) (by rw [idT_len]; omega) ((i : Int) + 1)
      refine hput.mono ?_
      rintro e w3 ⟨rfl, h3, _⟩
      have H3 : Hid (One w w3 l (idT (i + 1))) := by rw [← idT_ins]; exact h3
      clear h3 hput
      go_wp2_with fail
      go_roundg (n - (i + 1))
      case measure => omega
      case rel => exact ⟨i + 1, by go_num, by omega, H3.out⟩
    · obtain rfl : i = n := by omega
      have b1 : decide ((i : Int) + 1 ≤ (i : Int)) = false := by simp; omega
      have HQ3 := Lib.hid hi.out.2
      clear hi hik hlt
      go_wp2_with fail
      go_loopg [7, 8] i (fun k v7 v8 wr => ∃ (x b : Nat), v8 = .int .i64 (x : Int) ∧ v7 = .int .i64 (b : Int) ∧ Hid (x ≤ k ∧ b + bitsOf x = bitsOf i ∧ One w wr l (idT i) ∧ x ≤ i))
      case atStart => exact ⟨i, 0, rfl, rfl, Nat.le_refl _, by omega, HQ3.out, Nat.le_refl _⟩
      case round =>
        obtain ⟨x, b, rfl, rfl, hj⟩ := hrel
        clear HQ3
        have hb10 : Hid (bitsOf i ≤ 10) := bits_lt 10 i (by omega)
        have hbb := hb10.out
        have hsum := hj.out.2.1
        have x0 : (0 : Int) ≤ (x : Int) := by omega
        have xi := hj.out.2.2.2
        by_cases hx : 0 < x
        · have d1 : decide ((x : Int) > 0) = true := by simp; omega
          have d1' : decide (0 < (x : Int)) = true := by simp; omega
          have d1n : decide (0 < x) = true := by simp; omega
          have hw : wrap64 ((b : Int) + 1) = (b : Int) + 1 := IntWalk.wrap64_in _ ⟨by omega, by omega⟩
          have hwx : wrap64 ((x : Int) / 2) = (x : Int) / 2 := IntWalk.wrap64_in _ ⟨by omega, by omega⟩
          have HB : Hid (bitsOf x = 1 + bitsOf (x / 2)) := bitsOf_pos hx
          have HX := Lib.hid hx
          clear hx hsum
          go_wp2_with fail
          go_roundg (x / 2)
          case measure => have := hj.out.1; have := HX.out; omega
          case rel => exact ⟨x / 2, b + 1, by go_num, by go_num, Nat.le_refl _, by have := hj.out.2.1; have := HB.out; omega, hj.out.2.2.1, by omega⟩
        · have hx0 : x = 0 := by omega
          subst hx0
          rw [bitsOf_zero, Nat.add_zero] at hsum
          have hst := idT_steps v i h2
          rw [← hsum] at hst
          have d1 : decide (((0 : Nat) : Int) > 0) = false := by simp
          have d1' : decide ((0 : Int) > 0) = false := by simp
          have w2 : wrap64 (2 * (b : Int)) = 2 * (b : Int) := IntWalk.wrap64_in _ ⟨by omega, by omega⟩
          have q3 : decide ((stepsT v (idT i) : Int) ≤ 2 * (b : Int)) = true := by rw [decide_eq_true_eq]; omega
          have HF := Lib.hid (idT_floor v i)
          have HON := Lib.hid hj.out.2.2.1
          clear hj hst hsum hx xi
          by_cases hv : v ≥ 1
          · have q4 : decide (v ≥ 1) = true := by simpa using hv
            have q4' : decide (1 ≤ v) = true := by simpa using hv
            obtain ⟨m, hm⟩ : ∃ m, min i v.toNat = m := ⟨_, rfl⟩
            have HR : Hid (floorR (floorT v (idT i)) = .tuple #[.int .i64 (m : Int), .int .i64 (m : Int), .bool true]) := by
              show _ = _
              rw [HF.out, hm, if_neg (by omega)]; rfl
            have hmin : (if (i : Int) < v then (i : Int) else v) = (m : Int) := by split <;> omega
            have q5 : ((m : Int) == (m : Int)) = true := by simp
            clear hv hm
            go_wp2_with fail
            refine (one_floor HON.out v).mono ?_
            rw [HR.out]
            rintro e w5 ⟨rfl, h5, _⟩
            have H5 := Lib.hid h5
            clear h5
            go_wp2_with fail
            refine (one_steps H5.out (by rw [idT_len]; omega) v).mono ?_
            rintro e w6 ⟨rfl, rfl⟩
            go_wp2_with fail
            go_ret
            exact ⟨rfl, H5.out.turn.nopeBelow⟩
          · have q4 : decide (v ≥ 1) = false := by simpa using hv
            have q4' : decide (1 ≤ v) = false := by simpa using hv
            have HR : Hid (floorR (floorT v (idT i)) = .tuple #[.int .i64 0, .int .i64 0, .bool false]) := by
              show _ = _
              rw [HF.out, if_pos (by omega)]; rfl
            clear hv
            go_wp2_with fail
            refine (one_floor HON.out v).mono ?_
            rw [HR.out]
            rintro e w5 ⟨rfl, h5, _⟩
            have H5 := Lib.hid h5
            clear h5
            go_wp2_with fail
            refine (one_steps H5.out (by rw [idT_len]; omega) v).mono ?_
            rintro e w6 ⟨rfl, rfl⟩
            go_wp2_with fail
            go_ret
            exact ⟨rfl, H5.out.turn.nopeBelow⟩
theorem short_walk (n v : Int) (w : World) (hT : TabAt w) : Calls Tryd.prog 4 #[.int .i64 n, .int .i64 v] w fun e w' => e = .returned (.bool true) ∧ Below w.heap.size w w' := by
  by_cases h : n < 1 ∨ 1023 < n
  · exact short_no n v w hT h
  · obtain ⟨m, rfl⟩ : ∃ m : Nat, n = m := ⟨n.toNat, by omega⟩
    exact short_yes m v w hT (by omega) (by omega)
end Go.Proofs.YtdkojpfhmohaeaaDoor
