/- Save and Load of a document. -/
import Derived.Test.YtbcdjdbdjcflgaaTk
set_option linter.unusedSimpArgs false
set_option linter.unusedVariables false
namespace Go.Proofs.Ytbcdjdbdjcflgaa
open Go.RowKit Go.Lib PTextPlays Go.Proofs.YtbcdjdbdjcflgaaW.PrintWords Go.Proofs.YtbcdjdbdjcflgaaW.PrintLast Go.Proofs.YtbcdjdbdjcflgaaW.PrintMore
/-- A document's bytes. -/
def saved (s : ByteArray) : ByteArray := bstr (num s.size) ++ s
theorem nb_saved (s : ByteArray) : nb (saved s) = num s.size ++ nb s := by rw [saved, nb_append, nb_bstr _ (num_lt _)]
set_option maxHeartbeats 4000000 in
theorem save_any (g : Nat) (s : ByteArray) (w : World) (hc : IsDoc w g s) (hs : s.size ≤ 200) : Calls Try.prog 17 #[.pointer (some ⟨g, 0, none⟩)] w fun e w' => e = .returned (.string (saved s)) ∧ Turn Nope w w' := by
  have HC := Lib.hid (blk_alloc hc (.cells #[.slice none 0 0] 54))
  have H0 : Hid (WrAt (w.alloc (.cells #[.slice none 0 0] 54)) w.heap.size (At w.heap.size) w.heap.size (.slice none 0 0) []) := by
    refine ⟨blk_new w _, ⟨rfl, .inl ⟨rfl, rfl⟩⟩, rfl, ?_, ?_, ?_⟩
    · intro k hk; simp [Value.ownBlock] at hk
    · intro k hk; have : k = _ := hk; subst this; simp
    · intro k hk; have : k = _ := hk; subst this; exact Nat.le_refl _
  have c0 := blk_cell HC.out 0
  simp at c0
  clear hc
  go_enter Try.func17, Try.ntmps17
  go_wp2_with (first
    | (go_at_call 23; refine (str_any s (by omega) _ ⟨_, H0.out⟩ (by decide)).mono ?_; rintro e w1 ⟨rfl, ⟨F1, hw1, hk1⟩, ht1⟩; have HW1 := Lib.hid hw1; have HT1 := Lib.hid ((Turn.alloc (Turn.refl Nope w) _).then ht1 (fun i hi => .inr (Nat.le_of_eq hi.symm))); clear hw1 ht1 hk1)
    | (go_at_call 24; refine (wtext_any (saved s) _ (by have := HW1.out; rw [List.nil_append, ← nb_saved] at this; exact this)).mono ?_; rintro e w2 ⟨rfl, hw⟩; have HT2 := Lib.hid (show Turn Nope w w2 by rw [hw]; exact HT1.out); clear hw))
  go_ret
  exact ⟨rfl, HT2.out⟩
set_option maxHeartbeats 4000000 in
theorem load_any (s : ByteArray) (w : World) (hs : s.size ≤ 200) : Calls Try.prog 16 #[.string (saved s)] w fun e w' => ∃ g, e = .returned (.tuple #[.pointer (some ⟨g, 0, none⟩), .int .i64 0]) ∧ IsDoc w' g s ∧ w.heap.size ≤ g ∧ Turn Nope w w' := by
  have hz : (saved s).size ≤ 600 := by
    have h1 := num_le s.size (by omega)
    rw [← nb_length, nb_saved, List.length_append, nb_length]; omega
  obtain ⟨r, hf, hr⟩ := strS s 200 (by omega) (by decide) (saved s) [] (by rw [nb_saved, List.append_nil]) hz
  have HF := Lib.hid hf
  have hr0 := nb_nil hr
  have HE := Lib.hid (show wire_Reader_End.f r 0 = some (0, r, 0) by rw [hr0, wire_Reader_End.f, if_pos (by rw [ByteArray.toList_eq])])
  clear hf hr hr0
  have HB0 := Lib.hid (Below.refl w.heap.size w)
  go_enter Try.func16, Try.ntmps16
  go_wp2_with (first
    | (go_at_call 20; refine (wire_Read.calls _ _ 0 w _ HB0.out rfl).mono ?_; rintro e w2 ⟨g2, rfl, hi, hb, -⟩; have HI := Lib.hid hi; have HB := Lib.hid hb; clear hi hb)
    | (go_at_call 21; refine (wire_Reader_Str.calls 2000 _ _ _ _ _ _ _ w _ HI.out HB.out HF.out).mono ?_; rintro e w3 ⟨rfl, hi, hb, -⟩; have HI := Lib.hid hi; have HB := Lib.hid hb; clear hi hb)
    | (go_at_call 22; refine (wire_Reader_End.calls _ _ _ _ _ _ w _ HI.out HB.out HE.out).mono ?_; rintro e w4 ⟨rfl, hi, hb, -⟩; have HI := Lib.hid hi; have HB := Lib.hid hb; clear hi hb))
  go_ret2
  exact ⟨_, rfl, blk_new _ _, HB.out.size, (Turn.toNope HB.out).alloc _⟩
end Go.Proofs.Ytbcdjdbdjcflgaa
