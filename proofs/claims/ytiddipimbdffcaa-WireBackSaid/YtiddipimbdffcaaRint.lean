/- What the document lays for a number, a whole number, a text. -/
import Derived.Test.YtiddipimbdffcaaRp
import Derived.Test.YtiddipimbdffcaaSum
namespace Go.Proofs.Ytiddipimbdffcaa
open Go.RowKit Go.Lib PWireOne
theorem refnum_any (n : Nat) (hn : n < 18446744073709551616) (w : World) : Calls Try.prog 12 #[.int .u64 (n : Int)] w fun e w' => e = .returned (.string (bstr (num n))) ∧ Below w.heap.size w w' := by
  obtain ⟨r, h1, h2⟩ := ref_num n hn
  have : r = bstr (num n) := by rw [← h2, bstr_nb]
  subst this
  exact hindsightref02_Num.calls 11 _ _ _ h1
set_option maxHeartbeats 4000000 in
theorem refint_any (n : Int) (hn : (Lit.int .i64 n).wf = true) (w : World) : Calls Try.prog 21 #[.int .i64 n] w fun e w' => e = .returned (.string (bstr (num (zig n)))) ∧ Below w.heap.size w w' := by
  have hb : -9223372036854775808 ≤ n ∧ n ≤ 9223372036854775807 := by
    have h1 : IntKind.i64.min ≤ n ∧ n ≤ 9223372036854775807 := by simpa [Lit.wf] using hn
    exact h1
  by_cases h0 : 0 ≤ n
  · obtain ⟨m, rfl⟩ := Int.eq_ofNat_of_zero_le h0
    have hz : zig (m : Int) = 2 * m := by rw [zig, if_pos h0]; simp
    rw [hz]
    have b1 : decide ((0 : Int) ≤ (m : Int)) = true := by simp
    have b2 : decide ((m : Int) ≥ 0) = true := by simp
    have hx := Lib.hid (show 2 * (m : Int) = ((2 * m : Nat) : Int) by omega)
    have hm : 2 * m < 18446744073709551616 := by omega
    go_enter Try.func21, Try.ntmps21
    go_wp2_with (first | (go_at_call 12; rw [hx.out]; refine (refnum_any (2 * m) hm w).mono ?_; rintro e w' ⟨rfl, hw⟩))
    go_ret
    exact ⟨rfl, hw⟩
  · obtain ⟨m, hm⟩ := Int.eq_ofNat_of_zero_le (show 0 ≤ -(n + 1) by omega)
    obtain rfl : n = -(m : Int) - 1 := by omega
    have hz : zig (-(m : Int) - 1) = 2 * m + 1 := by rw [zig, if_neg h0]; omega
    rw [hz]
    have b1 : decide ((0 : Int) ≤ -(m : Int) - 1) = false := by simp; omega
    have b2 : decide (-(m : Int) - 1 ≥ 0) = false := by simp; omega
    have hx := Lib.hid (show 2 * (m : Int) + 1 = ((2 * m + 1 : Nat) : Int) by omega)
    have hm2 : 2 * m + 1 < 18446744073709551616 := by omega
    go_enter Try.func21, Try.ntmps21
    go_wp2_with (first | (go_at_call 12; rw [hx.out]; refine (refnum_any (2 * m + 1) hm2 w).mono ?_; rintro e w' ⟨rfl, hw⟩))
    go_ret
    exact ⟨rfl, hw⟩
set_option maxHeartbeats 4000000 in
theorem refstr_any (s : ByteArray) (hs : s.size ≤ 1000000) (w : World) : Calls Try.prog 22 #[.string s] w fun e w' => e = .returned (.string (bstr (num s.size) ++ s)) ∧ Below w.heap.size w w' := by
  have hb : (bstr (num s.size)).size ≤ 10 := by rw [← nb_length, nb_bstr _ (num_lt _)]; exact num_le _ (by omega)
  have hle : ((bstr (num s.size)).size : Int) + (s.size : Int) ≤ 9223372036854775807 := by omega
  have hle' : (bstr (num s.size)).size + s.size ≤ 9223372036854775807 := by omega
  go_enter Try.func22, Try.ntmps22
  go_wp2_with (first | (go_at_call 12; refine (refnum_any s.size (by omega) w).mono ?_; rintro e w' ⟨rfl, hw⟩))
  go_ret
  exact ⟨rfl, hw⟩
end Go.Proofs.Ytiddipimbdffcaa
