/- awake, walked. -/
import Derived.Test.YtlalbmgopbcplaaSsu
set_option maxRecDepth 16000
set_option linter.unusedVariables false
set_option linter.unusedSimpArgs false
namespace Go.Proofs.Ytlalbmgopbcplaa
open Go.RowKit Go.Maps
variable {C : Nm → Int} {K : List Nm} {w0 w w' : World} {s mb n : Nat} {D : Dm} {o : Op4}
def oA : Op4 := ⟨1, [97], [], 0⟩
def oB : Op4 := ⟨3, [], [97], 5⟩
def C1 : Nm → Int := doC (fun _ => 0) [[]] oA
def K1 : List Nm := doK (fun _ => 0) [[]] oA
def C2 : Nm → Int := doC C1 K1 oB
def K2 : List Nm := doK C1 K1 oB
theorem aw1 : doE (fun _ => 0) [[]] oA = 0 := by decide
theorem aw2 : doE C1 K1 oB = 0 := by decide
theorem aw3 : C2 [97] = 5 ∧ C2 [] = -5 ∧ sumK C2 K2 = 0 ∧ K2.length = 2 ∧ decide (([97] : Nm) ∈ K2) = true ∧ decide (([] : Nm) ∈ K2) = true := by decide
theorem Turn.atMap {m : Nat} {a b c : World} (h : Turn Nope a b) (k : Turn (At m) b c) (hm : a.heap.size ≤ m) : Turn Nope a c := h.then k fun i hi => .inr (by rw [show i = m from hi]; exact hm)
set_option maxHeartbeats 4000000 in
theorem awake_any (w : World) : Calls Try.prog 6 #[] w fun e w' => e = .returned (.bool true) ∧ Turn Nope w w' := by
  go_enter Try.func6, Try.ntmps6
  go_wp2_with fail
  refine (new_any w w (Turn.refl _ _)).mono ?_
  rintro e w1 ⟨s, mb, rfl, h, h1, h2, ht⟩
  have H1 := Lib.hid h
  have HT1 := Lib.hid ht
  have HM := Lib.hid h2
  clear h h1 h2 ht
  go_wp2_with fail
  refine (do_any H1.out (by omega) 1 0 ⟨#[97]⟩ ⟨#[]⟩ (by decide) (by decide)).mono ?_
  rintro e w2 ⟨rfl, h, ht⟩
  have H2 : Hid (Sh w w2 s mb 3 C1 K1) := h
  have HT2 := Lib.hid (Turn.atMap HT1.out ht HM.out)
  rw [show doE (fun _ => 0) [[]] ⟨1, nmOf ⟨#[97]⟩, nmOf ⟨#[]⟩, 0⟩ = 0 from aw1]
  clear h ht
  go_wp2_with fail
  refine (do_any H2.out (by omega) 3 5 ⟨#[]⟩ ⟨#[97]⟩ (by decide) (by decide)).mono ?_
  rintro e w3 ⟨rfl, h, ht⟩
  have H3 : Hid (Sh w w3 s mb 5 C2 K2) := h
  have HT3 := Lib.hid (Turn.atMap HT2.out ht HM.out)
  rw [show doE C1 K1 ⟨3, nmOf ⟨#[]⟩, nmOf ⟨#[97]⟩, 5⟩ = 0 from aw2]
  clear h ht
  go_wp2_with fail
  refine (has_any H3.out (x := ⟨#[97]⟩) (by decide)).mono ?_
  rintro e w4 ⟨rfl, ht⟩
  have H4 := Lib.hid (H3.out.nope ht)
  have HT4 := Lib.hid (HT3.out.trans ht)
  rw [show C2 (nmOf ⟨#[97]⟩) = 5 from aw3.1, show decide (nmOf ⟨#[97]⟩ ∈ K2) = true from aw3.2.2.2.2.1]
  clear ht
  go_wp2_with fail
  refine (has_any H4.out (x := ⟨#[]⟩) (by decide)).mono ?_
  rintro e w5 ⟨rfl, ht⟩
  have H5 := Lib.hid (H4.out.nope ht)
  have HT5 := Lib.hid (HT4.out.trans ht)
  rw [show C2 (nmOf ⟨#[]⟩) = -5 from aw3.2.1, show decide (nmOf ⟨#[]⟩ ∈ K2) = true from aw3.2.2.2.2.2]
  clear ht
  go_wp2_with fail
  refine (sum_any H5.out (by omega)).mono ?_
  rintro e w6 ⟨rfl, ht⟩
  have H6 := Lib.hid (H5.out.nope ht)
  have HT6 := Lib.hid (HT5.out.trans ht)
  rw [aw3.2.2.1]
  clear ht
  go_wp2_with fail
  refine (names_any H6.out).mono ?_
  rintro e w7 ⟨v, rfl, hv, ht⟩
  obtain ⟨A, c, g, cap, rfl, -⟩ := hv
  have HT7 := Lib.hid (HT6.out.trans ht)
  have hl : (accs K2).length = 1 := by have := accs_length H6.out.good.house; have h2 := aw3.2.2.2.1; omega
  rw [hl]
  clear ht hl
  go_wp2_with fail
  go_ret
  exact ⟨rfl, HT7.out⟩
end Go.Proofs.Ytlalbmgopbcplaa
