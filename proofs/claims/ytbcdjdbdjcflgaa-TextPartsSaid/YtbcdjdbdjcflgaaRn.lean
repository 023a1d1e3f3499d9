/- What the document lays for a text. -/
import Derived.Test.YtbcdjdbdjcflgaaSave
set_option linter.unusedSimpArgs false
namespace Go.Proofs.Ytbcdjdbdjcflgaa
open Go.RowKit Go.Lib PTextPlays Go.Proofs.YtbcdjdbdjcflgaaW.PrintWords Go.Proofs.YtbcdjdbdjcflgaaW.PrintLast Go.Proofs.YtbcdjdbdjcflgaaW.PrintMore
theorem tmod_nat (a b : Nat) : Int.tmod (a : Int) (b : Int) = ((a % b : Nat) : Int) := by
  rw [Int.tmod_eq_emod_of_nonneg (by omega)]; simp
theorem tdiv_nat (a b : Nat) : Int.tdiv (a : Int) (b : Int) = ((a / b : Nat) : Int) := by
  rw [Int.tdiv_eq_ediv_of_nonneg (by omega)]; simp
theorem wrapu_nat (a : Nat) (h : a < 18446744073709551616) : IntKind.u64.wrap (a : Int) = (a : Int) := by
  show (a : Int) % 18446744073709551616 = _; omega
theorem strOfNums_one (a : Nat) (h : a < 256) : nb (strOfNums [(a : Int)]) = [a] := by
  have : strOfNums [(a : Int)] = bstr [a] := by simp [strOfNums, bstr]
  rw [this, nb_bstr]
  simpa using h
theorem ref_l0 : ∀ (i : Nat) (x : Nat) (s : ByteArray) (k : Nat), i ≤ 9 → x < 128 ^ i → s.size ≤ 10 - i → i < k → ∃ r, hindsightref02_Num.l0 k (x : Int) s ((9 - i : Nat) : Int) = some r ∧ nb r = hi x ++ nb s := by
  intro i
  induction i with
  | zero =>
    intro x s k _ hx _ hk
    obtain ⟨k, rfl⟩ : ∃ m, k = m + 1 := ⟨k - 1, by omega⟩
    have : x = 0 := by simpa using hx
    subst this
    refine ⟨s, ?_, by rw [hi_zero]; rfl⟩
    simp [hindsightref02_Num.l0]
  | succ i ih =>
    intro x s k hi hx hs hk
    obtain ⟨k, rfl⟩ : ∃ m, k = m + 1 := ⟨k - 1, by omega⟩
    have h63 : x < 18446744073709551616 := Nat.lt_of_lt_of_le hx (Nat.le_trans (Nat.pow_le_pow_right (by decide) hi) (by decide))
    have e4 : ((9 - (i + 1) : Nat) : Int) < 9 := by omega
    by_cases h0 : x = 0
    · subst h0
      refine ⟨s, ?_, by rw [hi_zero]; rfl⟩
      simp [hindsightref02_Num.l0]
    · have hb : 128 + x % 128 < 256 := by omega
      obtain ⟨r, h1, h2⟩ := ih (x / 128) (strOfNums [((128 + x % 128 : Nat) : Int)] ++ s) k (by omega) (by rw [Nat.pow_succ] at hx; omega) (by rw [ByteArray.size_append, strOfNums_size]; simp; omega) (by omega)
      refine ⟨r, ?_, ?_⟩
      · have ev : (IntKind.u64.wrap (128 + (Int.tmod (x : Int) 128))) % 256 = ((128 + x % 128 : Nat) : Int) := by
          rw [show Int.tmod (x : Int) 128 = ((x % 128 : Nat) : Int) from tmod_nat x 128, show (128 : Int) + ((x % 128 : Nat) : Int) = ((128 + x % 128 : Nat) : Int) by omega, wrapu_nat _ (by omega)]
          omega
        have eq : IntKind.u64.wrap (Int.tdiv (x : Int) 128) = ((x / 128 : Nat) : Int) := by
          rw [show Int.tdiv (x : Int) 128 = ((x / 128 : Nat) : Int) from tdiv_nat x 128, wrapu_nat _ (by omega)]
        have ew : wrap64 (((9 - (i + 1) : Nat) : Int) + 1) = ((9 - i : Nat) : Int) := by rw [IntWalk.wrap64_in _ ⟨by omega, by omega⟩]; omega
        simp only [hindsightref02_Num.l0, ev, eq, ew, Option.bind_some]
        rw [if_pos e4, if_pos (by omega), if_pos (by rw [strOfNums_size]; simp; omega)]
        exact h1
      · rw [h2, hi_pos h0, nb_append, strOfNums_one _ hb]
        simp
theorem ref_num (n : Nat) (hn : n < 18446744073709551616) : ∃ r, hindsightref02_Num.f 11 (n : Int) = some r ∧ nb r = num n := by
  obtain ⟨r, h1, h2⟩ := ref_l0 9 (n / 128) (strOfNums [((n % 128 : Nat) : Int)]) 11 (by decide) (by omega) (by rw [strOfNums_size]; simp) (by decide)
  refine ⟨r, ?_, ?_⟩
  · rw [hindsightref02_Num.f, show Int.tmod (n : Int) 128 = ((n % 128 : Nat) : Int) from tmod_nat n 128, show Int.tdiv (n : Int) 128 = ((n / 128 : Nat) : Int) from tdiv_nat n 128, wrapu_nat _ (by omega), show ((n % 128 : Nat) : Int) % 256 = ((n % 128 : Nat) : Int) by omega]
    exact h1
  · rw [h2, strOfNums_one _ (by omega)]; rfl
theorem refnum_any (n : Nat) (hn : n < 18446744073709551616) (w : World) : Calls Try.prog 25 #[.int .u64 (n : Int)] w fun e w' => e = .returned (.string (bstr (num n))) ∧ Below w.heap.size w w' := by
  obtain ⟨r, h1, h2⟩ := ref_num n hn
  have : r = bstr (num n) := by rw [← h2, bstr_nb]
  subst this
  exact hindsightref02_Num.calls 11 _ _ _ h1
set_option maxHeartbeats 4000000 in
theorem rstr_any (s : ByteArray) (hs : s.size ≤ 200) (w : World) : Calls Try.prog 18 #[.string s] w fun e w' => e = .returned (.string (saved s)) ∧ Below w.heap.size w w' := by
  have hb : (bstr (num s.size)).size ≤ 10 := by rw [← nb_length, nb_bstr _ (num_lt _)]; exact num_le _ (by omega)
  have hle : ((bstr (num s.size)).size : Int) + (s.size : Int) ≤ 9223372036854775807 := by omega
  have hle' : (bstr (num s.size)).size + s.size ≤ 9223372036854775807 := by omega
  go_enter Try.func18, Try.ntmps18
  go_wp2_with (first | (go_at_call 25; refine (refnum_any s.size (by omega) w).mono ?_; rintro e w' ⟨rfl, hw⟩))
  go_ret
  exact ⟨rfl, hw⟩
end Go.Proofs.Ytbcdjdbdjcflgaa
