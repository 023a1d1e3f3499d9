/- Cut, Few and Inverse. -/
import Derived.Test.YtbcdjdbdjcflgaaAwake
namespace Go.Proofs.Ytbcdjdbdjcflgaa
open Go.RowKit
/-- At most n bytes. -/
def cut (s : ByteArray) (n : Nat) : ByteArray := if n < s.size then s.extract 0 n else s
theorem cut_size (s : ByteArray) (n : Nat) : (cut s n).size ≤ n := by
  unfold cut
  split
  · simp; omega
  · omega
theorem cut_any (s : ByteArray) (n : Nat) (w : World) : Calls Try.prog 19 #[.string s, .int .i64 (n : Int)] w fun e w' => e = .returned (.string (cut s n)) ∧ w = w' := by
  by_cases h : n < s.size
  · have HF : Hid (cut s n = s.extract 0 n) := by show _ = _; unfold cut; rw [if_pos h]
    have h1 : decide ((n : Int) < (s.size : Int)) = true := by simp; omega
    go_enter Try.func19, Try.ntmps19
    go_wp2
    go_ret
    exact ⟨by rw [HF.out]; rfl, rfl⟩
  · have HF : Hid (cut s n = s) := by show _ = _; unfold cut; rw [if_neg h]
    have h1 : decide ((n : Int) < (s.size : Int)) = false := by simp; omega
    go_enter Try.func19, Try.ntmps19
    go_wp2
    go_ret
    exact ⟨by rw [HF.out]; rfl, rfl⟩
theorem few_any (k at_ : Int) (S : ByteArray) (n : Int) (w : World) :
    Calls Try.prog 11 #[.agg #[.int .i64 k, .int .i64 at_, .string S, .int .i64 n]] w fun e w' => e = .returned (.agg #[.int .i64 k, .int .i64 at_, .string (cut S 45), .int .i64 n]) ∧ Turn Nope w w' := by
  go_enter Try.func11, Try.ntmps11
  go_wp2_with (first | (go_at_call 19; refine (cut_any _ 45 _).mono ?_; rintro e w1 ⟨rfl, rfl⟩))
  exact bodyPost_ret (v := .agg #[.int .i64 k, .int .i64 at_, .string (cut S 45), .int .i64 n]) (by simp [results, Try.results11, go_sem]) rfl ⟨rfl, ((Turn.refl _ _).alloc _).alloc _⟩
theorem inv_ins (at_ : Int) (S gone : ByteArray) (n : Int) (w : World) :
    Calls Try.prog 12 #[.agg #[.int .i64 1, .int .i64 at_, .string S, .int .i64 n], .string gone] w fun e w' => e = .returned (.agg #[.int .i64 2, .int .i64 at_, .string ⟨#[]⟩, .int .i64 S.size]) ∧ Turn Nope w w' := by
  go_enter Try.func12, Try.ntmps12
  go_wp2
  exact bodyPost_ret (v := .agg #[.int .i64 2, .int .i64 at_, .string ⟨#[]⟩, .int .i64 S.size]) (by simp [results, Try.results12, go_sem]) rfl ⟨rfl, ((Turn.refl _ _).alloc _).alloc _⟩
theorem inv_del (at_ : Int) (S gone : ByteArray) (n : Int) (w : World) :
    Calls Try.prog 12 #[.agg #[.int .i64 2, .int .i64 at_, .string S, .int .i64 n], .string gone] w fun e w' => e = .returned (.agg #[.int .i64 1, .int .i64 at_, .string gone, .int .i64 0]) ∧ Turn Nope w w' := by
  go_enter Try.func12, Try.ntmps12
  go_wp2
  exact bodyPost_ret (v := .agg #[.int .i64 1, .int .i64 at_, .string gone, .int .i64 0]) (by simp [results, Try.results12, go_sem]) rfl ⟨rfl, ((Turn.refl _ _).alloc _).alloc _⟩
end Go.Proofs.Ytbcdjdbdjcflgaa
