/- The law of heights: the walk. -/
import Derived.Test.YtdkojpfhmohaeaaDoorAwake
set_option linter.unusedVariables false
namespace Go.Proofs.YtdkojpfhmohaeaaDoor
open Go.RowKit
attribute [local go_sem] lib_max2 lib_min2 lib_max_two lib_min_two
theorem hgt_twice {v : Int} (h0 : 0 < v) (h1 : v ≤ 1152921504606846976) : hgt (2 * v) = min (hgt v + 1) 10 := by
  obtain ⟨x, rfl⟩ : ∃ x : Nat, v = x := ⟨v.toNat, by omega⟩
  unfold hgt
  rw [if_neg (by omega), if_neg (by omega), show (2 * (x : Int)).toNat = 2 * x by omega, Int.toNat_natCast, ctz_eq (by omega), ctz_eq (by omega)]
  have e1 : Lib.ctzFrom 64 (2 * x) = 1 + Lib.ctzFrom 63 (2 * x / 2) := ctz_step 63 (2 * x) (by omega)
  rw [show 2 * x / 2 = x by omega] at e1
  have e2 : Lib.ctzFrom 64 x = Lib.ctzFrom 63 x := by
    have key : ∀ (f x : Nat), 0 < x → x < 2 ^ f → Lib.ctzFrom (f + 1) x = Lib.ctzFrom f x := by
      intro f
      induction f with
      | zero => intro x h h2; simp at h2; omega
      | succ f ih =>
        intro x h h2
        by_cases hm : x % 2 = 1
        · rw [ctz_stop _ _ hm, ctz_stop _ _ hm]
        · rw [ctz_step (f + 1) x (by omega), ctz_step f x (by omega), ih (x / 2) (by omega) (by rw [Nat.pow_succ] at h2; omega)]
    exact key 63 x (by omega) (by omega)
  omega
set_option maxRecDepth 8000 in
set_option maxHeartbeats 4000000 in
theorem heights_walk (v : Int) (w : World) (hv : (Lit.int .i64 v).wf = true) (hT : TabAt w) :
    Calls Tryd.prog 3 #[.int .i64 v] w fun e w' => e = .returned (.bool true) ∧ Below w.heap.size w w' := by
  have hmax : v ≤ 9223372036854775807 := by
    have h1 : IntKind.i64.min ≤ v ∧ v ≤ 9223372036854775807 := by simpa [Lit.wf] using hv
    exact h1.2
  have HT := Lib.hid hT
  clear hv hT
  have h1 := hgt_pos v
  have h2 := hgt_le v
  obtain ⟨c, hc⟩ : ∃ c, hgt v = c := ⟨_, rfl⟩
  rw [hc] at h1 h2
  have HC := Lib.hid hc
  clear hc
  have d1 : ((c : Int) != (c : Int)) = false := by simp
  have d2 : decide ((c : Int) < 1) = false := by simp; omega
  have d3 : decide ((c : Int) > 10) = false := by simp; omega
  have d3' : decide (10 < (c : Int)) = false := by simp; omega
  by_cases h0 : v ≤ 0
  · have q1 : decide (v ≤ 0) = true := by simpa using h0
    go_enter Tryd.func3, Tryd.ntmps3
    go_wp2_with fail
    refine (awake_any _ HT.out).mono ?_
    rintro e w1 ⟨rfl, ht⟩
    have HT1 := Lib.hid ht
    clear ht
    go_wp2_with fail
    refine (height_any v hmax _ (HT.out.turn HT1.out)).mono ?_
    rw [HC.out]
    rintro e w2 ⟨rfl, rfl⟩
    go_wp2_with fail
    refine (refheight_any v hmax _).mono ?_
    rw [HC.out]
    rintro e w2 ⟨rfl, rfl⟩
    go_wp2_with fail
    go_ret
    exact ⟨rfl, HT1.out.nopeBelow⟩
  · by_cases hb : v > 1152921504606846976
    · have q1 : decide (v ≤ 0) = false := by simpa using h0
      have q2 : decide (v > 1152921504606846976) = true := by simpa using hb
      have q2' : decide (1152921504606846976 < v) = true := by simpa using hb
      go_enter Tryd.func3, Tryd.ntmps3
      go_wp2_with fail
      refine (awake_any _ HT.out).mono ?_
      rintro e w1 ⟨rfl, ht⟩
      have HT1 := Lib.hid ht
      clear ht
      go_wp2_with fail
      refine (height_any v hmax _ (HT.out.turn HT1.out)).mono ?_
      rw [HC.out]
      rintro e w2 ⟨rfl, rfl⟩
      go_wp2_with fail
      refine (refheight_any v hmax _).mono ?_
      rw [HC.out]
      rintro e w2 ⟨rfl, rfl⟩
      go_wp2_with fail
      go_ret
      exact ⟨rfl, HT1.out.nopeBelow⟩
    · have q1 : decide (v ≤ 0) = false := by simpa using h0
      have q2 : decide (v > 1152921504606846976) = false := by simpa using hb
      have q2' : decide (1152921504606846976 < v) = false := by simpa using hb
      have HD : Hid (hgt (2 * v) = min (c + 1) 10) := by show _ = _; rw [hgt_twice (by omega) (by omega), HC.out]
      obtain ⟨m, hm⟩ : ∃ m : Nat, min (c + 1) 10 = m := ⟨_, rfl⟩
      rw [hm] at HD
      have hmin : (if (10 : Int) < (c : Int) + 1 then (10 : Int) else (c : Int) + 1) = (m : Int) := by split <;> omega
      have q3 : ((m : Int) == (m : Int)) = true := by simp
      have hv2 : 0 ≤ v := by omega
      have hv3 : v ≤ 1152921504606846976 := by omega
      clear hm h0 hb
      have HMIN := Lib.hid hmin
      clear hmin
      go_enter Tryd.func3, Tryd.ntmps3
      go_wp2_with fail
      refine (awake_any _ HT.out).mono ?_
      rintro e w1 ⟨rfl, ht⟩
      have HT1 := Lib.hid ht
      clear ht
      go_wp2_with fail
      refine (height_any v hmax _ (HT.out.turn HT1.out)).mono ?_
      rw [HC.out]
      rintro e w2 ⟨rfl, rfl⟩
      go_wp2_with fail
      refine (refheight_any v hmax _).mono ?_
      rw [HC.out]
      rintro e w2 ⟨rfl, rfl⟩
      go_wp2_with fail
      refine (height_any (2 * v) (by omega) _ (HT.out.turn HT1.out)).mono ?_
      rw [HD.out]
      rintro e w2 ⟨rfl, rfl⟩
      have hmin := HMIN.out
      go_wp2_with fail
      go_ret
      exact ⟨rfl, HT1.out.nopeBelow⟩
end Go.Proofs.YtdkojpfhmohaeaaDoor
