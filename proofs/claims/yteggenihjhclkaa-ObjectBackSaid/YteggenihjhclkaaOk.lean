/- Kind, awake, walked. -/
import Derived.Test.YteggenihjhclkaaOw
set_option maxRecDepth 16000
set_option linter.unusedVariables false
set_option linter.unusedSimpArgs false
namespace Go.Proofs.Yteggenihjhclkaa
open Go.RowKit Go.Maps
open Lg (Nm nmOf arr_nm nm_len)
variable {w0 w w' W W' : World} {b m c : Nat} {P Q R : PS}
theorem kindN_spec (n : Int) : 1 ≤ kindN n ∧ kindN n ≤ 3 ∧ (1 + ((n.tmod 3 + 3).tmod 3)) = (kindN n : Int) := by
  have h1 := Int.lt_tmod_of_pos n (show (0 : Int) < 3 by decide)
  have h2 := Int.tmod_lt_of_pos n (show (0 : Int) < 3 by decide)
  have h3 := Int.tmod_nonneg 3 (show 0 ≤ n.tmod 3 + 3 by omega)
  have h4 := Int.tmod_lt_of_pos (n.tmod 3 + 3) (show (0 : Int) < 3 by decide)
  unfold kindN
  omega
theorem okind_any (n : Int) (w : World) : Calls Try.prog 7 #[.int .i64 n] w fun e w' => e = .returned (.int .i64 (kindN n : Int)) ∧ w' = w := by
  have hs := (kindN_spec n).2.2
  have h1 := Int.lt_tmod_of_pos n (show (0 : Int) < 3 by decide)
  have h2 := Int.tmod_lt_of_pos n (show (0 : Int) < 3 by decide)
  have h3 := Int.tmod_nonneg 3 (show 0 ≤ n.tmod 3 + 3 by omega)
  have h4 := Int.tmod_lt_of_pos (n.tmod 3 + 3) (show (0 : Int) < 3 by decide)
  rw [← hs]
  have w1 : wrap64 (n.tmod 3) = n.tmod 3 := IntWalk.wrap64_in _ ⟨by omega, by omega⟩
  have w2 : wrap64 (n.tmod 3 + 3) = n.tmod 3 + 3 := IntWalk.wrap64_in _ ⟨by omega, by omega⟩
  have w3 : wrap64 ((n.tmod 3 + 3).tmod 3) = (n.tmod 3 + 3).tmod 3 := IntWalk.wrap64_in _ ⟨by omega, by omega⟩
  have w4 : wrap64 (1 + (n.tmod 3 + 3).tmod 3) = 1 + (n.tmod 3 + 3).tmod 3 := IntWalk.wrap64_in _ ⟨by omega, by omega⟩
  have HW := Lib.hid (And.intro w2 w4)
  clear hs h1 h2 h3 h4
  go_enter Try.func7, Try.ntmps7
  go_wp2_with fail
  go_ret
  exact ⟨by show Ending.returned (Value.int .i64 (wrap64 (1 + (n.tmod 3 + 3).tmod 3))) = _; rw [HW.out.2], rfl⟩
theorem num_sm (n : Nat) (h : n < 128) : num n = [n] := by
  unfold num
  rw [Nat.div_eq_of_lt h, Nat.mod_eq_of_lt h]
  unfold hi
  simp
/-- The op that awake does: two nuts come in. -/
def oNut : OOp := ⟨3, 0, 0, ⟨#[]⟩, 0, 0, ⟨#[]⟩, ⟨#[]⟩, 0, 1, ⟨#[110, 117, 116]⟩, 2⟩
def oTxt : OOp := ⟨1, 0, 0, ⟨#[]⟩, 0, 0, ⟨#[]⟩, ⟨#[]⟩, 0, 0, ⟨#[]⟩, 0⟩
def P1 : PS := (PS.new 3).nxt oNut
theorem nut1 : resV (PS.new 3) oNut = .agg #[.int .i64 0, .string ⟨#[]⟩] := by
  have h : (PS.new 3).err oNut = 0 := by decide
  unfold resV
  rw [h]
  rfl
theorem nut2 : resV P1 oTxt = .agg #[.int .i64 5, .string ⟨#[]⟩] := by
  have h : P1.err oTxt = 5 := by decide
  unfold resV
  rw [h]
  rfl
theorem nut3 : (P1.nxt oTxt).saved = ⟨#[1, 3, 110, 117, 116, 2]⟩ := by
  show Sk.savedS (Sk.doC (fun _ => 0) [] (skOp oNut)) (Sk.doK (fun _ => 0) [] (skOp oNut)) = _
  have hk : Sk.doK (fun _ => 0) [] (skOp oNut) = [[110, 117, 116]] := by decide
  have hc : Sk.doC (fun _ => 0) [] (skOp oNut) [110, 117, 116] = 2 := by decide
  rw [hk]
  unfold Sk.savedS
  have hs : Sk.srt [[110, 117, 116]] = [[110, 117, 116]] := by unfold Sk.srt; simp
  rw [hs]
  unfold Sk.saveBs Sk.goodBs
  simp only [List.flatMap_cons, List.flatMap_nil, List.length_cons, List.length_nil, hc]
  rw [num_sm _ (by decide), num_sm _ (by decide), num_sm _ (by decide)]
  rfl
end Go.Proofs.Yteggenihjhclkaa
