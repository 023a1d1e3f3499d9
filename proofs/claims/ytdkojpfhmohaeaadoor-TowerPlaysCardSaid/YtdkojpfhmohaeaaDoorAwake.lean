/- awake of the laws of towers is true; the document's height. -/
import Derived.Test.YtdkojpfhmohaeaaDoorTSLaw
set_option linter.unusedVariables false
namespace Go.Proofs.YtdkojpfhmohaeaaDoor
open Go.RowKit
set_option maxRecDepth 8000 in
set_option maxHeartbeats 4000000 in
theorem awake_any (w : World) (hT : TabAt w) : Calls Tryd.prog 9 #[] w fun e w' => e = .returned (.bool true) ∧ Turn Nope w w' := by
  have HT := Lib.hid hT
  clear hT
  have h8 : Hid (hgt 8 = 4) := by show _ = _; decide +kernel
  have h7 : Hid (hgt 7 = 1) := by show _ = _; decide +kernel
  go_enter Tryd.func9, Tryd.ntmps9
  go_wp2_with fail
  refine (TS.one_new w _ (Turn.refl _ _)).mono ?_
  rintro e w1 ⟨l, rfl, h1, ht⟩
  have H1 := Lib.hid h1
  clear h1 ht
  go_wp2_with fail
  refine (TS.one_put H1.out HT.out 4 (by decide) (by decide) ⟨#[97]⟩).mono ?_
  rintro e w2 ⟨rfl, h2, _⟩
  have H2 : Hid (TS.One w w2 l [(4, ⟨#[97]⟩)]) := h2
  clear h2 H1
  go_wp2_with fail
  refine (TS.one_put H2.out HT.out 8 (by decide) (by decide) ⟨#[98]⟩).mono ?_
  rintro e w3 ⟨rfl, h3, _⟩
  have H3 : Hid (TS.One w w3 l [(4, ⟨#[97]⟩), (8, ⟨#[98]⟩)]) := h3
  clear h3 H2
  go_wp2_with fail
  refine (TS.one_put H3.out HT.out 12 (by decide) (by decide) ⟨#[99]⟩).mono ?_
  rintro e w4 ⟨rfl, h4, _⟩
  have H4 : Hid (TS.One w w4 l [(4, ⟨#[97]⟩), (8, ⟨#[98]⟩), (12, ⟨#[99]⟩)]) := h4
  clear h4 H3
  go_wp2_with fail
  refine (TS.one_floor H4.out 11).mono ?_
  rintro e w5 ⟨rfl, h5, _⟩
  have H5 := Lib.hid h5
  clear h5 H4
  rw [show TS.floorR (TS.floorT 11 [(4, ⟨#[97]⟩), (8, ⟨#[98]⟩), (12, ⟨#[99]⟩)]) = .tuple #[.int .i64 8, .string ⟨#[98]⟩, .bool true] from rfl]
  go_wp2_with fail
  refine (TS.one_len H5.out).mono ?_
  rintro e w6 ⟨rfl, rfl⟩
  rw [show (([(4, ⟨#[97]⟩), (8, ⟨#[98]⟩), (12, ⟨#[99]⟩)] : List (Int × ByteArray)).length : Int) = 3 from rfl]
  go_wp2_with fail
  refine (height_any 8 (by decide) _ (HT.out.turn H5.out.turn)).mono ?_
  rw [h8.out]
  rintro e w7 ⟨rfl, rfl⟩
  go_wp2_with fail
  refine (height_any 7 (by decide) _ (HT.out.turn H5.out.turn)).mono ?_
  rw [h7.out]
  rintro e w8 ⟨rfl, rfl⟩
  go_wp2_with fail
  go_ret
  exact ⟨rfl, H5.out.turn⟩
theorem ctz_eq {x : Nat} (h : x ≠ 0) : Lib.ctz 64 x = Lib.ctzFrom 64 x := by unfold Lib.ctz; rw [if_neg h]
theorem ctz_step (f x : Nat) (h : x % 2 = 0) : Lib.ctzFrom (f + 1) x = 1 + Lib.ctzFrom f (x / 2) := by
  show (if x % 2 = 1 then 0 else 1 + Lib.ctzFrom f (x / 2)) = _
  rw [if_neg (by omega)]
theorem ctz_stop (f x : Nat) (h : x % 2 = 1) : Lib.ctzFrom (f + 1) x = 0 := by
  show (if x % 2 = 1 then 0 else 1 + Lib.ctzFrom f (x / 2)) = _
  rw [if_pos h]
set_option maxHeartbeats 4000000 in
/-- The document's height is the program's. -/
theorem refheight_any (v : Int) (hv : v ≤ 9223372036854775807) (w : World) : Calls Tryd.prog 11 #[.int .i64 v] w fun e w' => e = .returned (.int .i64 (hgt v : Nat)) ∧ w = w' := by
  by_cases h : v ≤ 0
  · have h1 : decide (v ≤ 0) = true := by simpa using h
    have HH : Hid (hgt v = 10) := if_pos h
    go_enter Tryd.func11, Tryd.ntmps11
    go_wp2_with fail
    go_ret
    exact ⟨by rw [HH.out]; rfl, rfl⟩
  · have h1 : decide (v ≤ 0) = false := by simpa using h
    obtain ⟨x0, rfl⟩ : ∃ x : Nat, v = x := ⟨v.toNat, by omega⟩
    have HH : Hid (hgt (x0 : Int) = min (Lib.ctzFrom 64 x0 + 1) 10) := (if_neg h).trans (by rw [Int.toNat_natCast, ctz_eq (by omega)])
    have hx0 : 0 < x0 := by omega
    go_enter Tryd.func11, Tryd.ntmps11
    go_wp2_with fail
    clear h h1
    go_loopg [0, 3, 4] 9 (fun k v0 v3 v4 wr => ∃ (i x : Nat), v0 = .int .i64 (x : Int) ∧ v3 = .int .i64 ((i : Int) + 1) ∧ v4 = .int .i64 (i : Int) ∧ Hid (k + i = 9 ∧ 0 < x ∧ x ≤ 9223372036854775807 ∧ Lib.ctzFrom 64 x0 = i + Lib.ctzFrom (64 - i) x) ∧ Hid (w = wr))
    case atStart => exact ⟨0, x0, rfl, rfl, rfl, ⟨rfl, hx0, by omega, by simp⟩, rfl⟩
    case round =>
      obtain ⟨i, x, rfl, rfl, rfl, hi, hw⟩ := hrel
      have e1 := hi.out.1
      have e2 := hi.out.2.1
      have e3 := hi.out.2.2.1
      have x0' : (0 : Int) ≤ (x : Int) := by omega
      have w1 : wrap64 ((i : Int) + 1) = (i : Int) + 1 := IntWalk.wrap64_in _ ⟨by omega, by omega⟩
      have w2 : wrap64 ((i : Int) + 1 + 1) = (i : Int) + 1 + 1 := IntWalk.wrap64_in _ ⟨by omega, by omega⟩
      by_cases hi9 : i < 9
      · have b1 : decide ((i : Int) < 9) = true := by simp; omega
        have b1n : decide (i < 9) = true := by simp; omega
        by_cases hm : x % 2 = 0
        · have b2 : (((x : Int) % 2) == 0) = true := by simp; omega
          have HM := Lib.hid hm
          clear hm
          go_wp2_with fail
          go_roundg (9 - (i + 1))
          case measure => omega
          case rel =>
            refine ⟨i + 1, x / 2, by go_num, by go_num, by go_num, ⟨by omega, by have := HM.out; omega, by omega, ?_⟩, hw⟩
            rw [hi.out.2.2.2, show 64 - i = (64 - (i + 1)) + 1 by omega, ctz_step _ _ HM.out]
            omega
        · have b2 : (((x : Int) % 2) == 0) = false := by simp; omega
          have hs := ctz_stop (64 - (i + 1)) x (by omega)
          have HR : Hid (hgt (x0 : Int) = i + 1) := by
            show _ = _
            rw [HH.out, hi.out.2.2.2, show 64 - i = (64 - (i + 1)) + 1 by omega, hs]
            omega
          clear hm hs
          go_wp2_with fail
          go_ret
          exact ⟨by rw [HR.out]; rfl, hw.out⟩
      · have h9 : i = 9 := by omega
        subst h9
        have b1 : decide (((9 : Nat) : Int) < 9) = false := by simp
        have b1' : decide ((9 : Int) < 9) = false := by simp
        have HR : Hid (hgt (x0 : Int) = 10) := by
          show _ = _
          rw [HH.out, hi.out.2.2.2]
          omega
        go_wp2_with fail
        go_ret
        exact ⟨by rw [HR.out]; rfl, hw.out⟩
end Go.Proofs.YtdkojpfhmohaeaaDoor
