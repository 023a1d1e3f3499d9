/- Once around: a number that is taken off a text, what the document spells for it. -/
import Derived.Test.YtiddipimbdffcaaRp
import Derived.Test.YtiddipimbdffcaaAwake
namespace Go.Proofs.Ytiddipimbdffcaa
open Go.RowKit Go.Lib PWireOne Go.Proofs.YtiddipimbdffcaaW.PrintWords
theorem readNum_err : ∀ (l : List Nat) (v i : Nat) (e : Int), readNum v i l = .error e → e = 1 ∨ e = 2 := by
  intro l
  induction l with
  | nil => intro v i e h; rw [readNum] at h; injection h with h; exact .inl h.symm
  | cons b l ih =>
    intro v i e h
    rw [readNum] at h
    split at h
    · injection h with h; exact .inr h.symm
    · split at h
      · cases h
      · exact ih _ _ _ h
theorem cut_some (s : ByteArray) (n : Nat) : ∃ c, hindsightlaw01_Cut.f s (n : Int) = some c ∧ c.size ≤ n := by
  rw [hindsightlaw01_Cut.f]
  by_cases h : (s.size : Int) > (n : Int)
  · rw [if_pos h, if_pos (by omega), if_pos (by omega)]
    exact ⟨_, rfl, by rw [ByteArray.size_extract]; simp; omega⟩
  · rw [if_neg h]
    exact ⟨s, rfl, by omega⟩
set_option maxHeartbeats 4000000 in
theorem one_any (s : ByteArray) (w : World) : Calls Try.prog 3 #[.string s] w fun e w' => e = .returned (.bool true) ∧ Below w.heap.size w w' := by
  obtain ⟨c, hcut, hc⟩ := cut_some s 12
  have HCUT := Lib.hid hcut
  have HC := Lib.hid hc
  clear hcut hc
  have HN := num_l0 (nb c) c 0 0 40 rfl (by rw [nb_length]; have := HC.out; omega) (by rw [nb_length]; have := HC.out; omega)
  cases hrd : readNum 0 0 (nb c) with
  | error e0 =>
    rw [hrd] at HN
    have HNum : Hid (wire_Reader_Num.f 40 c 0 = some (0, ⟨#[]⟩, e0)) := HN
    have he := readNum_err _ _ _ _ hrd
    have b1 : (e0 != 0) = true := by rcases he with rfl | rfl <;> rfl
    clear HN hrd he
    go_enter Try.func3, Try.ntmps3
    go_wp2_with (first | (go_at_call 7; refine (hindsightlaw01_Cut.calls s 12 _ _ HCUT.out).mono ?_; rintro e w1 ⟨rfl, hd⟩; have HB := Lib.hid hd.below; clear hd) | (go_at_call 8; refine (wire_Read.calls c c 0 w _ HB.out rfl).mono ?_; rintro e w2 ⟨g2, rfl, hi, hb, -⟩; have HI := Lib.hid hi; have HB := Lib.hid hb; clear hi hb) | (go_at_call 9; refine (awake_any _).mono ?_; rintro e w3 ⟨rfl, hb⟩; have HI := Lib.hid (HI.out.below hb); have HB := Lib.hid ((Turn.ofBelow HB.out Nope).below hb).nopeBelow; clear hb) | (go_at_call 10; refine (wire_Reader_Num.calls 40 _ _ _ _ _ _ w _ HI.out HB.out HNum.out).mono ?_; rintro e w4 ⟨rfl, hi, hb, -⟩; have HI := Lib.hid hi; have HB := Lib.hid hb; clear hi hb) | (go_at_call 11; refine (wire_Reader_Err.calls _ _ _ _ _ _ w _ HI.out HB.out rfl).mono ?_; rintro e w5 ⟨rfl, hi, hb, -⟩; have HI := Lib.hid hi; have HB := Lib.hid hb; clear hi hb))
    go_ret
    exact ⟨rfl, HB.out⟩
  | ok nr =>
    obtain ⟨n, l'⟩ := nr
    rw [hrd] at HN
    obtain ⟨r, hr, hnum⟩ := HN
    have HNum : Hid (wire_Reader_Num.f 40 c 0 = some ((n : Int), r, 0)) := hnum
    obtain ⟨h1, hn⟩ := readNum_one (nb c) 0 0 n l' (nb_lt c) (fun _ => rfl) (fun h => absurd rfl h) hrd
    obtain ⟨t, ht, htn⟩ := ref_num n hn
    have HT := Lib.hid ht
    rw [hi_zero, List.nil_append, ← htn, ← hr, ← nb_append] at h1
    have h2 := nb_inj h1
    clear hnum ht htn hrd h1
    have b1 : decide ((t.size : Int) ≤ ((t ++ r).size : Int)) = true := by rw [ByteArray.size_append]; simp; omega
    have b2 : (t ++ r).extract 0 t.size = t := by apply nb_inj; rw [nb_extract, nb_append, ← nb_length]; simp
    by_cases hr0 : r = ⟨#[]⟩
    · subst hr0
      have e0 : t ++ (⟨#[]⟩ : ByteArray) = t := by apply nb_inj; rw [nb_append]; simp [nb]
      rw [e0] at h2 b1 b2
      subst h2
      have HE := Lib.hid (show wire_Reader_End.f ⟨#[]⟩ 0 = some (0, ⟨#[]⟩, 0) by kernel_rfl)
      have b3 : (c.toList == c.toList) = true := beq_self_eq_true _
      clear e0
      go_enter Try.func3, Try.ntmps3
      go_wp2_with (first | (go_at_call 7; refine (hindsightlaw01_Cut.calls s 12 _ _ HCUT.out).mono ?_; rintro e w1 ⟨rfl, hd⟩; have HB := Lib.hid hd.below; clear hd) | (go_at_call 8; refine (wire_Read.calls _ _ 0 w _ HB.out rfl).mono ?_; rintro e w2 ⟨g2, rfl, hi, hb, -⟩; have HI := Lib.hid hi; have HB := Lib.hid hb; clear hi hb) | (go_at_call 9; refine (awake_any _).mono ?_; rintro e w3 ⟨rfl, hb⟩; have HI := Lib.hid (HI.out.below hb); have HB := Lib.hid ((Turn.ofBelow HB.out Nope).below hb).nopeBelow; clear hb) | (go_at_call 10; refine (wire_Reader_Num.calls 40 _ _ _ _ _ _ w _ HI.out HB.out HNum.out).mono ?_; rintro e w4 ⟨rfl, hi, hb, -⟩; have HI := Lib.hid hi; have HB := Lib.hid hb; clear hi hb) | (go_at_call 11; refine (wire_Reader_Err.calls _ _ _ _ _ _ w _ HI.out HB.out rfl).mono ?_; rintro e w5 ⟨rfl, hi, hb, -⟩; have HI := Lib.hid hi; have HB := Lib.hid hb; clear hi hb) | (go_at_call 12; refine (hindsightref02_Num.calls 11 _ _ _ HT.out).mono ?_; rintro e w6 ⟨rfl, hb⟩; have HI := Lib.hid (HI.out.below hb); have HB := Lib.hid ((Turn.ofBelow HB.out Nope).below hb).nopeBelow; clear hb) | (go_at_call 13; refine (wire_Reader_End.calls _ _ _ _ _ _ w _ HI.out HB.out HE.out).mono ?_; rintro e w5 ⟨rfl, hi, hb, -⟩; have HI := Lib.hid hi; have HB := Lib.hid hb; clear hi hb))
      go_ret
      exact ⟨rfl, HB.out⟩
    · subst h2
      have hne : r.toList ≠ [] := by
        rw [ByteArray.toList_eq]
        intro h; apply hr0; apply nb_inj; simp [nb, h]
      have hs : 0 < r.size := by rw [← nb_length, List.length_pos_iff]; intro h; exact hr0 (nb_nil h)
      have HE := Lib.hid (show wire_Reader_End.f r 0 = some (2, ⟨#[]⟩, 2) by rw [wire_Reader_End.f, if_neg hne]; rfl)
      have b3 : (t.toList == t.toList) = true := beq_self_eq_true _
      have b4 : ((t.size : Int) + (r.size : Int) == (t.size : Int)) = false := by simp; omega
      clear hr0 hne hs
      go_enter Try.func3, Try.ntmps3
      go_wp2_with (first | (go_at_call 7; refine (hindsightlaw01_Cut.calls s 12 _ _ HCUT.out).mono ?_; rintro e w1 ⟨rfl, hd⟩; have HB := Lib.hid hd.below; clear hd) | (go_at_call 8; refine (wire_Read.calls _ _ 0 w _ HB.out rfl).mono ?_; rintro e w2 ⟨g2, rfl, hi, hb, -⟩; have HI := Lib.hid hi; have HB := Lib.hid hb; clear hi hb) | (go_at_call 9; refine (awake_any _).mono ?_; rintro e w3 ⟨rfl, hb⟩; have HI := Lib.hid (HI.out.below hb); have HB := Lib.hid ((Turn.ofBelow HB.out Nope).below hb).nopeBelow; clear hb) | (go_at_call 10; refine (wire_Reader_Num.calls 40 _ _ _ _ _ _ w _ HI.out HB.out HNum.out).mono ?_; rintro e w4 ⟨rfl, hi, hb, -⟩; have HI := Lib.hid hi; have HB := Lib.hid hb; clear hi hb) | (go_at_call 11; refine (wire_Reader_Err.calls _ _ _ _ _ _ w _ HI.out HB.out rfl).mono ?_; rintro e w5 ⟨rfl, hi, hb, -⟩; have HI := Lib.hid hi; have HB := Lib.hid hb; clear hi hb) | (go_at_call 12; refine (hindsightref02_Num.calls 11 _ _ _ HT.out).mono ?_; rintro e w6 ⟨rfl, hb⟩; have HI := Lib.hid (HI.out.below hb); have HB := Lib.hid ((Turn.ofBelow HB.out Nope).below hb).nopeBelow; clear hb) | (go_at_call 13; refine (wire_Reader_End.calls _ _ _ _ _ _ w _ HI.out HB.out HE.out).mono ?_; rintro e w5 ⟨rfl, hi, hb, -⟩; have HI := Lib.hid hi; have HB := Lib.hid hb; clear hi hb))
      go_ret
      exact ⟨rfl, HB.out⟩
theorem one_walk (s : ByteArray) (w : World) (_ : s.size ≤ 140737488351232) : Calls Try.prog 3 #[.string s] w fun e w' => e = .returned (.bool true) ∧ Below w.heap.size w w' := one_any s w
end Go.Proofs.Ytiddipimbdffcaa
