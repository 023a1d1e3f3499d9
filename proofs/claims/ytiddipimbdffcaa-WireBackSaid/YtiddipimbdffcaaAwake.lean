/- The call that each law has at its head answers true. -/
import Derived.Test.YtiddipimbdffcaaText
import Derived.Test.YtiddipimbdffcaaPWireOnex1
namespace Go.Proofs.Ytiddipimbdffcaa
open Go.RowKit Go.Lib PWireOne
theorem num300 : num 300 = [130, 44] := by simp [num, hi]
set_option maxHeartbeats 4000000 in
theorem awake_any (w : World) : Calls Try.prog 9 #[] w fun e w' => e = .returned (.bool true) ∧ Below w.heap.size w w' := by
  have H0 : Hid (WrAt (w.alloc (.cells #[.slice none 0 0] 37)) w.heap.size (At w.heap.size) w.heap.size (.slice none 0 0) []) := by
    refine ⟨blk_new w _, ⟨rfl, .inl ⟨rfl, rfl⟩⟩, rfl, ?_, ?_, ?_⟩
    · intro k hk; simp [Value.ownBlock] at hk
    · intro k hk; have : k = _ := hk; subst this; simp
    · intro k hk; have : k = _ := hk; subst this; exact Nat.le_refl _
  have e1 := num300
  go_enter Try.func9, Try.ntmps9
  go_wp2_with (first | (go_at_call 15; refine (num_any 300 (by decide) _ ⟨_, H0.out⟩ (by decide)).mono ?_; rintro e w1 ⟨rfl, ⟨F1, hw1, hk1⟩, ht1⟩; have HW1 := Lib.hid hw1; have HB := Lib.hid ((Turn.alloc (Turn.refl Nope w) _).then ht1 (fun i hi => .inr (Nat.le_of_eq hi.symm))).nopeBelow; clear hw1 ht1 hk1) | (go_at_call 20; refine (text_any ⟨#[130, 44]⟩ _ (by have := HW1.out; rw [List.nil_append, num300] at this; exact this)).mono ?_; rintro e w2 ⟨rfl, rfl⟩) | (go_at_call 8; refine (wire_Read.calls _ _ _ w _ HB.out rfl).mono ?_; rintro e w2 ⟨g2, rfl, hi, hb, -⟩; have HI := Lib.hid hi; have HB := Lib.hid hb; clear hi hb) | (go_at_call 10; refine (wire_Reader_Num.calls 20 _ _ _ 0 ⟨#[]⟩ 2 w _ HI.out HB.out (by kernel_rfl)).mono ?_; rintro e w2 ⟨rfl, -, hb, -⟩; have HB := Lib.hid hb; clear hb) | (go_at_call 27; refine (wire_Reader_Int.calls 20 _ _ _ (-1) ⟨#[]⟩ 0 w _ HI.out HB.out (by kernel_rfl)).mono ?_; rintro e w2 ⟨rfl, -, hb, -⟩; have HB := Lib.hid hb; clear hb))
  go_ret
  exact ⟨rfl, HB.out⟩
end Go.Proofs.Ytiddipimbdffcaa
