import Derived.Test.YtdojdhpfhjhmfaaPpop
set_option linter.unusedVariables false
namespace Go.Proofs.Ytdojdhpfhjhmfaa
open Go.RowKit Go.Proofs.HeapPlain
variable {w w' : World} {base p : Nat} {v : Value} {L L' : List It}
theorem plen (w : World) (A : Option Addr) (n c : Nat) : Calls Try.prog 80 #[.slice A n c] w fun e w' => e = .returned (.int .i64 (n : Int)) ∧ w = w' := by
  go_enter Try.func80, Try.ntmps80
  go_wp2_with fail
  go_ret
  exact ⟨rfl, rfl⟩
theorem OfRow.fp {v : Value} {p k : Nat} (h : OfRow v k) : FP p v k := .inr h
set_option maxHeartbeats 4000000 in
theorem hpush (h : Pl w base p v L) (hn : L.length ≤ 999999) (x : It) :
    Calls Try.prog 42 #[.iface 69 (.pointer (some ⟨p, 0, none⟩)), .iface 84 (itV x)] w fun e w' => e = .returned (.tuple #[]) ∧ (∃ v', Pl w' base p v' (pushL itLt d0 L x) ∧ ∀ k, FP p v' k → FP p v k ∨ w.heap.size ≤ k) ∧ Turn (FP p v) w w' := by
  have HP := Lib.hid h
  clear h
  have mP := m_push w p
  go_enter Try.func42, Try.ntmps42
  go_wp2_with fail
  refine (ppush HP.out (by omega) x).mono ?_
  rintro e w1 ⟨rfl, ⟨v1, h1, hf1⟩, ht1⟩
  obtain ⟨A, c, rfl, _⟩ := own_slice h1.row
  have HP1 := Lib.hid h1
  have HF1 := Lib.hid hf1
  have HT1 := Lib.hid ht1
  clear h1 hf1 ht1
  have cp := blk_cell HP1.out.hp 0
  simp only [List.getElem?_toArray, List.getElem?_cons_zero] at cp
  have mL := m_len cp
  clear cp
  have eL : (L ++ [x]).length = L.length + 1 := by simp
  rw [eL] at mL HP1 HF1
  have n0 : (0 : Int) ≤ (L.length : Int) := by omega
  go_wp2_with (go_at_call 80; refine (plen _ _ _ _).mono ?_; rintro e w' ⟨rfl, rfl⟩)
  refine (up_any HP1.out (by rw [eL]; omega) (j := L.length) (by rw [eL]; omega)).mono ?_
  rintro e w2 ⟨rfl, h2, ht2⟩
  have HP2 := Lib.hid h2
  have HT2 := Lib.hid ht2
  clear h2 ht2
  go_wp2_with fail
  go_end0
  exact ⟨rfl, ⟨_, HP2.out, HF1.out⟩, HT1.out.then HT2.out fun k hk => HF1.out k hk.fp⟩
theorem out_up {i n : Nat} (hl : L.length = n + 1) (he : i < n) (hm : ¬ Moved (swL d0 L i n) i n) : outL itLt d0 L i = (upL itLt d0 (swL d0 L i n) i).take n := by
  unfold outL
  rw [hl, Nat.add_sub_cancel, if_neg (by omega)]
  unfold Moved at hm
  rw [Decidable.not_not] at hm
  rw [if_pos hm]
theorem out_down {i n : Nat} (hl : L.length = n + 1) (he : i < n) (hm : Moved (swL d0 L i n) i n) : outL itLt d0 L i = (downL itLt d0 (swL d0 L i n) i n).take n := by
  unfold outL
  rw [hl, Nat.add_sub_cancel, if_neg (by omega), if_neg hm]
set_option maxHeartbeats 4000000 in
theorem hremove (h : Pl w base p v L) (hn : L.length ≤ 1000000) {i n : Nat} (hl : L.length = n + 1) (hi : i ≤ n) :
    Calls Try.prog 39 #[.iface 69 (.pointer (some ⟨p, 0, none⟩)), .int .i64 (i : Int)] w fun e w' => (∃ u, e = .returned u) ∧ (∃ v', Pl w' base p v' (outL itLt d0 L i) ∧ ∀ k, FP p v' k → FP p v k) ∧ Turn (FP p v) w w' := by
  obtain ⟨A, c, rfl, _⟩ := own_slice h.row
  have HP := Lib.hid h
  clear h
  have cp := blk_cell HP.out.hp 0
  simp only [List.getElem?_toArray, List.getElem?_cons_zero] at cp
  have mL := m_len cp
  have mS := m_swap cp
  have mPop := m_pop w p
  clear cp
  have HL := Lib.hid hl
  rw [hl] at mL mS hn HP ⊢
  clear hl
  have n0 : (0 : Int) ≤ (n : Int) := by omega
  by_cases he : n = i
  · subst he
    have HO : Hid (outL itLt d0 L n = L.take n) := by show _ = _; unfold outL; rw [HL.out, if_pos (by omega)]
    have t1 : ((n : Int) != (n : Int)) = false := by simp
    go_enter Try.func39, Try.ntmps39
    go_wp2_with (first | (go_at_call 80; refine (plen _ _ _ _).mono ?_; rintro e w' ⟨rfl, rfl⟩) | (go_at_call 83; refine (ppop HP.out (by rw [HL.out]; omega) HL.out).mono ?_; rintro e w1 ⟨rfl, ⟨v1, h1, hf1⟩, ht1⟩; have HP1 := Lib.hid h1; have HF1 := Lib.hid hf1; have HT1 := Lib.hid ht1; clear h1 hf1 ht1))
    go_ret
    rw [HO.out]
    exact ⟨⟨_, rfl⟩, ⟨v1, HP1.out, HF1.out⟩, HT1.out⟩
  · have hin : i < n := by omega
    have t1 : ((n : Int) != (i : Int)) = true := by simp; omega
    have HM : Hid ((swL d0 L i n).length = n + 1) := by show _ = _; rw [swL_length, HL.out]
    have HIN := Lib.hid hin
    by_cases hmv : Moved (swL d0 L i n) i n
    · have em : decide (Moved (swL d0 L i n) i n) = true := by simpa using hmv
      have HD : Hid ((downL itLt d0 (swL d0 L i n) i n).length = n + 1) := by
        show _ = _; rw [(downL_get itLt d0 n (n - i) i (swL d0 L i n) (Nat.le_refl _) (by rw [HM.out]; omega)).2.length_eq, HM.out]
      have HO2 := Lib.hid (out_down HL.out HIN.out hmv)
      clear he
      go_enter Try.func39, Try.ntmps39
      go_wp2_with (first
        | (go_at_call 80; refine (plen _ _ _ _).mono ?_; rintro e w' ⟨rfl, rfl⟩)
        | (go_at_call 82; refine (swap_any HP.out.row (getD_at (l := L) (i := i) (by rw [HL.out]; omega)) (getD_at (l := L) (i := n) (by rw [HL.out]; omega)) (by rw [HL.out]; omega)).mono ?_; rintro e w1 ⟨rfl, hr1, ht1⟩
           have HT1 : Hid (Turn (FP p (.slice A (n + 1) c)) w w1) := ht1.mono fun _ h => h.fp
           have HP1 : Hid (Pl w1 base p (.slice A (n + 1) c) (swL d0 L i n)) := HP.out.turn ht1 hr1
           clear hr1 ht1)
        | (go_at_call 43; refine (down_any HP1.out (by rw [HM.out]; omega) (i := i) (n := n) (by rw [HM.out]; omega) (by rw [HM.out]; omega)).mono ?_; rintro e w2 ⟨rfl, h2, ht2⟩
           have HT2 : Hid (Turn (FP p (.slice A (n + 1) c)) w w2) := HT1.out.trans (ht2.mono fun _ h => h.fp)
           have HP2 := Lib.hid h2
           have mP2 := m_pop w2 p
           clear h2 ht2)
        | (go_at_call 83; refine (ppop HP2.out (by rw [HD.out]; omega) HD.out).mono ?_; rintro e w4 ⟨rfl, ⟨v1, h1, hf1⟩, ht1⟩; have HP4 := Lib.hid h1; have HF4 := Lib.hid hf1; have HT4 := Lib.hid ht1; clear h1 hf1 ht1))
      go_ret
      rw [HO2.out]
      exact ⟨⟨_, rfl⟩, ⟨v1, HP4.out, HF4.out⟩, HT2.out.trans HT4.out⟩
    · have em : decide (Moved (swL d0 L i n) i n) = false := by simpa using hmv
      have HO2 := Lib.hid (out_up HL.out HIN.out hmv)
      have HD : Hid ((upL itLt d0 (swL d0 L i n) i).length = n + 1) := by
        show _ = _; rw [(upL_get itLt d0 i (swL d0 L i n) (by rw [HM.out]; omega)).2.length_eq, HM.out]
      clear he
      go_enter Try.func39, Try.ntmps39
      go_wp2_with (first
        | (go_at_call 80; refine (plen _ _ _ _).mono ?_; rintro e w' ⟨rfl, rfl⟩)
        | (go_at_call 82; refine (swap_any HP.out.row (getD_at (l := L) (i := i) (by rw [HL.out]; omega)) (getD_at (l := L) (i := n) (by rw [HL.out]; omega)) (by rw [HL.out]; omega)).mono ?_; rintro e w1 ⟨rfl, hr1, ht1⟩
           have HT1 : Hid (Turn (FP p (.slice A (n + 1) c)) w w1) := ht1.mono fun _ h => h.fp
           have HP1 : Hid (Pl w1 base p (.slice A (n + 1) c) (swL d0 L i n)) := HP.out.turn ht1 hr1
           clear hr1 ht1)
        | (go_at_call 43; refine (down_any HP1.out (by rw [HM.out]; omega) (i := i) (n := n) (by rw [HM.out]; omega) (by rw [HM.out]; omega)).mono ?_; rintro e w2 ⟨rfl, h2, ht2⟩
           have HT2 : Hid (Turn (FP p (.slice A (n + 1) c)) w w2) := HT1.out.trans (ht2.mono fun _ h => h.fp)
           rw [downL_stop hmv] at h2
           have HP2 := Lib.hid h2
           clear h2 ht2)
        | (go_at_call 44; refine (up_any HP2.out (by rw [HM.out]; omega) (j := i) (by rw [HM.out]; omega)).mono ?_; rintro e w3 ⟨rfl, h3, ht3⟩
           have HT3 : Hid (Turn (FP p (.slice A (n + 1) c)) w w3) := HT2.out.trans (ht3.mono fun _ h => h.fp)
           have HP3 := Lib.hid h3
           have mP3 := m_pop w3 p
           clear h3 ht3)
        | (go_at_call 83; refine (ppop HP3.out (by rw [HD.out]; omega) HD.out).mono ?_; rintro e w4 ⟨rfl, ⟨v1, h1, hf1⟩, ht1⟩; have HP4 := Lib.hid h1; have HF4 := Lib.hid hf1; have HT4 := Lib.hid ht1; clear h1 hf1 ht1))
      go_ret
      rw [HO2.out]
      exact ⟨⟨_, rfl⟩, ⟨v1, HP4.out, HF4.out⟩, HT3.out.trans HT4.out⟩
theorem swL_self (L : List It) (i : Nat) : swL d0 L i i = L := by
  unfold swL
  apply List.ext_getElem?
  intro k
  rw [List.getElem?_set, List.getElem?_set]
  by_cases h : i = k
  · subst h
    by_cases hi : i < L.length
    · simp [hi]
    · simp [hi]
  · simp [h]
theorem out_zero {L : List It} {n : Nat} (hl : L.length = n + 1) : outL itLt d0 L 0 = (downL itLt d0 (swL d0 L 0 n) 0 n).take n := by
  unfold outL
  rw [hl, Nat.add_sub_cancel]
  by_cases h0 : n = 0
  · subst h0
    rw [if_pos rfl, swL_self, downL, dif_pos (by omega)]
  · rw [if_neg h0]
    by_cases hm : Moved (swL d0 L 0 n) 0 n
    · rw [if_neg hm]
    · unfold Moved at hm
      rw [Decidable.not_not] at hm
      rw [if_pos hm, downL_stop (fun h => h hm), upL, dif_pos rfl]
set_option maxHeartbeats 4000000 in
theorem hpop (h : Pl w base p v L) (hn : L.length ≤ 1000000) {n : Nat} (hl : L.length = n + 1) :
    Calls Try.prog 38 #[.iface 69 (.pointer (some ⟨p, 0, none⟩))] w fun e w' => (∃ u, e = .returned u) ∧ (∃ v', Pl w' base p v' (outL itLt d0 L 0) ∧ ∀ k, FP p v' k → FP p v k) ∧ Turn (FP p v) w w' := by
  obtain ⟨A, c, rfl, _⟩ := own_slice h.row
  have HP := Lib.hid h
  clear h
  have cp := blk_cell HP.out.hp 0
  simp only [List.getElem?_toArray, List.getElem?_cons_zero] at cp
  have mL := m_len cp
  have mS := m_swap cp
  clear cp
  have HL := Lib.hid hl
  rw [hl] at mL mS hn HP ⊢
  clear hl
  have n0 : (0 : Int) ≤ (n : Int) := by omega
  have HO : Hid (outL itLt d0 L 0 = (downL itLt d0 (swL d0 L 0 n) 0 n).take n) := out_zero HL.out
  have HM : Hid ((swL d0 L 0 n).length = n + 1) := by show _ = _; rw [swL_length, HL.out]
  have HD : Hid ((downL itLt d0 (swL d0 L 0 n) 0 n).length = n + 1) := by
    show _ = _; rw [(downL_get itLt d0 n (n - 0) 0 (swL d0 L 0 n) (Nat.le_refl _) (by rw [HM.out]; omega)).2.length_eq, HM.out]
  go_enter Try.func38, Try.ntmps38
  go_wp2_with (first
    | (go_at_call 80; refine (plen _ _ _ _).mono ?_; rintro e w' ⟨rfl, rfl⟩)
    | (go_at_call 82; refine (swap_any HP.out.row (i := 0) (j := n) (getD_at (l := L) (i := 0) (by rw [HL.out]; omega)) (getD_at (l := L) (i := n) (by rw [HL.out]; omega)) (by rw [HL.out]; omega)).mono ?_; rintro e w1 ⟨rfl, hr1, ht1⟩
       have HT1 : Hid (Turn (FP p (.slice A (n + 1) c)) w w1) := ht1.mono fun _ h => h.fp
       have HP1 : Hid (Pl w1 base p (.slice A (n + 1) c) (swL d0 L 0 n)) := HP.out.turn ht1 hr1
       clear hr1 ht1)
    | (go_at_call 43; refine (down_any HP1.out (by rw [HM.out]; omega) (i := 0) (n := n) (by rw [HM.out]; omega) (by rw [HM.out]; omega)).mono ?_; rintro e w2 ⟨rfl, h2, ht2⟩
       have HT2 : Hid (Turn (FP p (.slice A (n + 1) c)) w w2) := HT1.out.trans (ht2.mono fun _ h => h.fp)
       have HP2 := Lib.hid h2
       have mP2 := m_pop w2 p
       clear h2 ht2)
    | (go_at_call 83; refine (ppop HP2.out (by rw [HD.out]; omega) HD.out).mono ?_; rintro e w3 ⟨rfl, ⟨v1, h1, hf1⟩, ht1⟩; have HP3 := Lib.hid h1; have HF3 := Lib.hid hf1; have HT3 := Lib.hid ht1; clear h1 hf1 ht1))
  go_ret
  rw [HO.out]
  exact ⟨⟨_, rfl⟩, ⟨v1, HP3.out, HF3.out⟩, HT2.out.trans HT3.out⟩
end Go.Proofs.Ytdojdhpfhjhmfaa
