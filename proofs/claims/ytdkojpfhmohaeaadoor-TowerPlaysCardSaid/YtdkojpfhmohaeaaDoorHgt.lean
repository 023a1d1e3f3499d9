/- How high a tower is: the walk. -/
import Derived.Test.YtdkojpfhmohaeaaDoorLib
import Derived.Lib.TrailingZeros
import Derived.Laws.Bits64b
set_option linter.unusedVariables false
namespace Go.Proofs.YtdkojpfhmohaeaaDoor
open Go.RowKit
attribute [local go_sem] lib_max2 lib_min2 lib_max_two lib_min_two
/-- The table of the bits package in its variable. -/
def TabAt (w : World) : Prop := ∀ j, j < 64 → w.cell? ⟨1, j, none⟩ = some (.int .u8 (Lib.deBruijn64tab.getD j 0 : Nat))
theorem TabAt.turn {w w' : World} (h : TabAt w) (ht : Turn Nope w w') : TabAt w' := fun j hj => ht.cell (h j hj) fun h => h
theorem tz64_key (x a : Nat) (hx : x < 18446744073709551616) (hx0 : x ≠ 0) (hlow : x &&& (18446744073709551616 - x) = a) :
    IntKind.u64.wrap (bits BinOp.and IntKind.u64 (x : Int) (IntKind.u64.wrap (-(x : Int))) * 285870213051353865) / 288230376151711744 = ((a * 285870213051353865 % 18446744073709551616 / 288230376151711744 : Nat) : Int) := by
  have e1 : IntKind.u64.wrap (-(x : Int)) = ((18446744073709551616 - x : Nat) : Int) := by rw [IntKind.wrap_u64]; omega
  rw [e1, bits_and_u64_nat x _ hx (by omega), hlow, IntKind.wrap_u64]
  omega
set_option maxHeartbeats 1000000 in
theorem tz64_core (x k idx : Nat) (w : World) (hx0 : ((x : Int) == 0) = false)
    (key : IntKind.u64.wrap (bits BinOp.and IntKind.u64 (x : Int) (IntKind.u64.wrap (-(x : Int))) * 285870213051353865) / 288230376151711744 = (idx : Int))
    (hi : idx < 64) (hk : k < 64) (hcell : w.cell? ⟨1, idx, none⟩ = some (.int .u8 k)) :
    Calls Tryd.prog 40 #[.int .u64 x] w fun e w' => e = .returned (.int .i64 k) ∧ w = w' := by
  go_enter Tryd.func40, Tryd.ntmps40
  go_wp2_with (simp only [key])
  go_ret
  exact ⟨rfl, rfl⟩
theorem tz64_any (x : Nat) (hx : x < 18446744073709551616) (hx0 : x ≠ 0) (w : World) (hT : TabAt w) :
    Calls Tryd.prog 40 #[.int .u64 x] w fun e w' => e = .returned (.int .i64 (Lib.ctz 64 x : Nat)) ∧ w = w' := by
  obtain ⟨hlow, hk⟩ := Lib.lowest_bit 64 x hx0 hx
  obtain ⟨hi, htab⟩ := Lib.deBruijn64_at _ hk
  have hcell := hT _ hi
  rw [htab] at hcell
  exact tz64_core x _ _ w (by simp; omega) (tz64_key x _ hx hx0 hlow) hi hk hcell
theorem tz_any (x : Nat) (hx : x < 18446744073709551616) (hx0 : x ≠ 0) (w : World) (hT : TabAt w) :
    Calls Tryd.prog 36 #[.int .u64 x] w fun e w' => e = .returned (.int .i64 (Lib.ctz 64 x : Nat)) ∧ w = w' := by
  have HT := Lib.hid hT
  clear hT
  go_enter Tryd.func36, Tryd.ntmps36
  go_wp2_with (go_at_call 40; refine (tz64_any x hx hx0 _ HT.out).mono ?_; rintro e w' ⟨rfl, rfl⟩)
  go_ret
  exact ⟨rfl, rfl⟩
/-- How high a version's tower is. -/
def hgt (v : Int) : Nat := if v ≤ 0 then 10 else min (Lib.ctz 64 v.toNat + 1) 10
theorem hgt_pos (v : Int) : 1 ≤ hgt v := by unfold hgt; split <;> omega
theorem hgt_le (v : Int) : hgt v ≤ 10 := by unfold hgt; split <;> omega
set_option maxHeartbeats 1000000 in
theorem height_any (v : Int) (hv : v ≤ 9223372036854775807) (w : World) (hT : TabAt w) : Calls Tryd.prog 10 #[.int .i64 v] w fun e w' => e = .returned (.int .i64 (hgt v : Nat)) ∧ w = w' := by
  by_cases h : v ≤ 0
  · have h1 : decide (v ≤ 0) = true := by simpa using h
    have HH : Hid (hgt v = 10) := if_pos h
    go_enter Tryd.func10, Tryd.ntmps10
    go_wp2_with fail
    go_ret
    exact ⟨by rw [HH.out]; rfl, rfl⟩
  · have h1 : decide (v ≤ 0) = false := by simpa using h
    obtain ⟨x, rfl⟩ : ∃ x : Nat, v = x := ⟨v.toNat, by omega⟩
    have hx : x < 18446744073709551616 := by omega
    have hx0 : x ≠ 0 := by omega
    have HT := Lib.hid hT
    have hk := (Lib.lowest_bit 64 x hx0 hx).2
    have HH : Hid (hgt (x : Int) = min (Lib.ctz 64 x + 1) 10) := (if_neg h).trans (by rw [Int.toNat_natCast])
    obtain ⟨c, hc⟩ : ∃ c, Lib.ctz 64 x = c := ⟨_, rfl⟩
    rw [hc] at hk HH
    have HC := Lib.hid hc
    clear hT hc
    have hw : IntKind.u64.wrap (x : Int) = (x : Int) := by rw [IntKind.wrap_u64]; omega
    clear h hv
    by_cases h10 : 10 < c + 1
    · have q1 : decide ((10 : Int) < (c : Int) + 1) = true := by simp; omega
      go_enter Tryd.func10, Tryd.ntmps10
      go_wp2_with (go_at_call 36; refine (tz_any x hx hx0 _ HT.out).mono ?_; rw [HC.out]; rintro e w' ⟨rfl, rfl⟩)
      go_ret
      exact ⟨by rw [HH.out, Nat.min_eq_right (by omega)]; rfl, rfl⟩
    · have q1 : decide ((10 : Int) < (c : Int) + 1) = false := by simp; omega
      go_enter Tryd.func10, Tryd.ntmps10
      go_wp2_with (go_at_call 36; refine (tz_any x hx hx0 _ HT.out).mono ?_; rw [HC.out]; rintro e w' ⟨rfl, rfl⟩)
      go_ret
      exact ⟨by rw [HH.out, Nat.min_eq_left (by omega)]; rfl, rfl⟩
end Go.Proofs.YtdkojpfhmohaeaaDoor
