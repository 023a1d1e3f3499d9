/- awake, walked. -/
import Derived.Test.YtianagpneoopeaaSdo
import Derived.Test.YtianagpneoopeaaSnm
set_option maxRecDepth 16000
set_option linter.unusedVariables false
set_option linter.unusedSimpArgs false
namespace Go.Proofs.Ytianagpneoopeaa
open Go.RowKit Go.Maps
variable {C : Nm → Int} {K : List Nm} {w0 w w' : World} {s mb n : Nat} {D : Dm} {o : Op3}
def nut : Nm := [110, 117, 116]
def oA : Op3 := ⟨1, nut, 5⟩
def oB : Op3 := ⟨2, nut, 6⟩
def oC : Op3 := ⟨2, nut, 5⟩
def C1 : Nm → Int := doC (fun _ => 0) [] oA
def K1 : List Nm := doK (fun _ => 0) [] oA
def C2 : Nm → Int := doC C1 K1 oB
def K2 : List Nm := doK C1 K1 oB
def C3 : Nm → Int := doC C2 K2 oC
def K3 : List Nm := doK C2 K2 oC
theorem aw1 : doE (fun _ => 0) [] oA = 0 := by decide
theorem aw1c : C1 nut = 5 := by decide
theorem aw2 : doE C1 K1 oB = 11 := by decide
theorem aw3 : doE C2 K2 oC = 0 := by decide
theorem aw3k : K3 = [] := by decide
/-- An op on a shelf, beside all that is not its map. -/
theorem Turn.atMap {B m : Nat} {a b c : World} (h : Turn Nope a b) (k : Turn (At m) b c) (hm : a.heap.size ≤ m) : Turn Nope a c := h.then k fun i hi => .inr (by rw [show i = m from hi]; exact hm)
set_option maxHeartbeats 4000000 in
theorem awake_any (w : World) : Calls Try.prog 6 #[] w fun e w' => e = .returned (.bool true) ∧ Turn Nope w w' := by
  go_enter Try.func6, Try.ntmps6
  go_wp2_with fail
  refine (new_any w w (Turn.refl _ _)).mono ?_
  rintro e w1 ⟨s, mb, rfl, h, h1, h2, ht⟩
  have H1 := Lib.hid h
  have HT1 := Lib.hid ht
  have HM := Lib.hid h2
  clear h h1 h2 ht
  go_wp2_with fail
  refine (do_any H1.out (by omega) 1 5 ⟨#[110, 117, 116]⟩ (by decide)).mono ?_
  rintro e w2 ⟨rfl, h, ht⟩
  have H2 : Hid (Sh w w2 s mb 1 C1 K1) := h
  have HT2 := Lib.hid (Turn.atMap (B := 0) HT1.out ht HM.out)
  rw [show doE (fun _ => 0) [] ⟨1, nmOf ⟨#[110, 117, 116]⟩, 5⟩ = 0 from aw1]
  clear h ht
  go_wp2_with fail
  refine (count_any H2.out (x := ⟨#[110, 117, 116]⟩) (by decide)).mono ?_
  rintro e w3 ⟨rfl, ht⟩
  have H3 := Lib.hid (H2.out.nope ht)
  have HT3 := Lib.hid (HT2.out.trans ht)
  rw [show C1 (nmOf ⟨#[110, 117, 116]⟩) = 5 from aw1c]
  clear ht
  go_wp2_with fail
  refine (do_any H3.out (by omega) 2 6 ⟨#[110, 117, 116]⟩ (by decide)).mono ?_
  rintro e w4 ⟨rfl, h, ht⟩
  have H4 : Hid (Sh w w4 s mb 2 C2 K2) := h
  have HT4 := Lib.hid (Turn.atMap (B := 0) HT3.out ht HM.out)
  rw [show doE C1 K1 ⟨2, nmOf ⟨#[110, 117, 116]⟩, 6⟩ = 11 from aw2]
  clear h ht
  go_wp2_with fail
  refine (do_any H4.out (by omega) 2 5 ⟨#[110, 117, 116]⟩ (by decide)).mono ?_
  rintro e w5 ⟨rfl, h, ht⟩
  have H5 : Hid (Sh w w5 s mb 3 C3 K3) := h
  have HT5 := Lib.hid (Turn.atMap (B := 0) HT4.out ht HM.out)
  rw [show doE C2 K2 ⟨2, nmOf ⟨#[110, 117, 116]⟩, 5⟩ = 0 from aw3]
  clear h ht
  go_wp2_with fail
  refine (names_any H5.out).mono ?_
  rintro e w6 ⟨v, rfl, hrow, ht⟩
  rw [show srt K3 = [] from List.length_eq_zero_iff.1 (by rw [srt_length, aw3k]; rfl)] at hrow
  have HT6 := Lib.hid (HT5.out.trans ht)
  obtain ⟨A, c, rfl, _⟩ := own_slice hrow
  clear hrow ht
  go_wp2_with fail
  go_ret
  exact ⟨rfl, HT6.out⟩
end Go.Proofs.Ytianagpneoopeaa
