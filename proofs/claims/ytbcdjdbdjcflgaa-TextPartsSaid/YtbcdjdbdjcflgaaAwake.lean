/- awake of the laws of text: it is true. -/
import Derived.Test.YtbcdjdbdjcflgaaDoc
namespace Go.Proofs.Ytbcdjdbdjcflgaa
open Go.RowKit
theorem new_any (w : World) : Calls Try.prog 8 #[] w fun e w' => ∃ g, e = .returned (.pointer (some ⟨g, 0, none⟩)) ∧ IsDoc w' g ⟨#[]⟩ ∧ w.heap.size ≤ g ∧ Turn Nope w w' := by
  go_enter Try.func8, Try.ntmps8
  go_wp2
  go_ret
  exact ⟨w.heap.size, rfl, blk_new _ _, Nat.le_refl _, (Turn.refl _ _).alloc _⟩
theorem text_any (g : Nat) (s : ByteArray) (w : World) (hc : IsDoc w g s) : Calls Try.prog 9 #[.pointer (some ⟨g, 0, none⟩)] w fun e w' => e = .returned (.string s) ∧ w = w' := by
  have d0 := blk_cell hc 0
  simp at d0
  go_enter Try.func9, Try.ntmps9
  go_wp2
  go_ret
  exact ⟨rfl, rfl⟩
set_option maxHeartbeats 1000000 in
theorem awake_any (w : World) : Calls Try.prog 7 #[] w fun e w' => e = .returned (.bool true) ∧ Turn Nope w w' := by
  have e1 : Hid (dDo ⟨#[]⟩ 1 0 ⟨#[97, 98, 99]⟩ 0 = (⟨#[97, 98, 99]⟩, ⟨#[]⟩, 0)) := by show _ = _; decide +kernel
  have e2 : Hid (dDo ⟨#[97, 98, 99]⟩ 2 1 ⟨#[]⟩ 1 = (⟨#[97, 99]⟩, ⟨#[98]⟩, 0)) := by show _ = _; decide +kernel
  go_enter Try.func7, Try.ntmps7
  go_wp2_with fail
  refine (new_any _).mono ?_
  rintro e w1 ⟨g, rfl, hd, hg, ht⟩
  have HT1 := Lib.hid ht
  have HD1 := Lib.hid hd
  clear ht hd
  go_wp2_with fail
  refine (do_any g _ _ _ _ _ _ HD1.out (by decide)).mono ?_
  rintro e w2 ⟨rfl, hd, ht⟩
  rw [e1.out] at hd
  rw [e1.out]
  have HT2 := Lib.hid ht
  have HD2 := Lib.hid hd
  clear ht hd
  dsimp only
  go_wp2_with fail
  refine (do_any g _ _ _ _ _ _ HD2.out (by decide)).mono ?_
  rintro e w3 ⟨rfl, hd, ht⟩
  rw [e2.out] at hd
  rw [e2.out]
  have HT3 := Lib.hid ht
  have HD3 := Lib.hid hd
  clear ht hd
  dsimp only
  go_wp2_with fail
  refine (text_any g _ _ HD3.out).mono ?_
  rintro e w4 ⟨rfl, rfl⟩
  go_wp2
  go_ret
  refine ⟨rfl, ?_⟩
  exact (HT1.out.then (S' := At g) (HT2.out.trans HT3.out) (fun i hi => .inr (by rw [show i = g from hi]; exact hg)))
end Go.Proofs.Ytbcdjdbdjcflgaa
