/- The answer that the document fixes: the sum of three bytes. -/
import Derived.Test.YtojfknogdknhkaaHex
set_option maxRecDepth 100000
set_option linter.unusedVariables false
set_option linter.unusedSimpArgs false
namespace Go.Proofs.Ytojfknogdknhkaa
open Go.RowKit
variable {w w' : World}
theorem abc_sum : hexL (stBytes (sumP [97, 98, 99])) = [98, 97, 55, 56, 49, 54, 98, 102, 56, 102, 48, 49, 99, 102, 101, 97, 52, 49, 52, 49, 52, 48, 100, 101, 53, 100, 97, 101, 50, 50, 50, 51, 98, 48, 48, 51, 54, 49, 97, 51, 57, 54, 49, 55, 55, 97, 57, 99, 98, 52, 49, 48, 102, 102, 54, 49, 102, 50, 48, 48, 49, 53, 97, 100] := by
  kernel_rfl
theorem stBytes_b (s : St) : ∀ x ∈ stBytes s, 0 ≤ x ∧ x < 256 := by
  intro x hx
  rw [stBytes_flat] at hx
  obtain ⟨y, _, hy⟩ := List.mem_flatMap.1 hx
  simp only [wordBytes, List.mem_cons, List.not_mem_nil, or_false] at hy
  omega
theorem outA_list (s : St) : (outA s).toList = (stBytes s).map (Value.int .u8) := rfl
theorem hexof_any (s : St) (w : World) : Calls Try.prog 11 #[.agg (outA s)] w fun e w' => e = .returned (.string ⟨(hexL (stBytes s)).toArray⟩) ∧ Turn Nope w w' :=
  hex_any (outA s) (stBytes s) (outA_list s) (stBytes_length s) (stBytes_b s) w
set_option maxHeartbeats 4000000 in
theorem awake_any (w : World) : Calls Try.prog 9 #[] w fun e w' => e = .returned (.bool true) ∧ Turn Nope w w' := by
  go_enter Try.func9, Try.ntmps9
  go_wp2_with fail
  refine (new_h _).mono ?_
  rintro e w1 ⟨p, rfl, hp, hh, ht⟩
  have H1 := Lib.hid ht
  clear hp hh ht
  go_wp2_with fail
  refine (of_any ⟨#[97, 98, 99]⟩ (by decide) _).mono ?_
  rintro e w2 ⟨rfl, ht⟩
  have H2 := Lib.hid ht
  clear ht
  obtain ⟨S, hS⟩ : ∃ S, sumP (ByteArray.mk #[97, 98, 99]).data.toList = S := ⟨_, rfl⟩
  have habc := abc_sum
  rw [show [97, 98, 99] = (ByteArray.mk #[97, 98, 99]).data.toList from rfl, hS] at habc
  rw [hS]
  have HABC := Lib.hid habc
  clear hS habc
  go_wp2_with fail
  refine (hexof_any S _).mono ?_
  rw [HABC.out]
  rintro e w3 ⟨rfl, ht⟩
  have HT : Hid (Turn Nope w w3) := (H1.out.trans H2.out).trans ht
  clear ht
  go_wp2_with fail
  go_ret
  exact ⟨rfl, HT.out⟩
end Go.Proofs.Ytojfknogdknhkaa
