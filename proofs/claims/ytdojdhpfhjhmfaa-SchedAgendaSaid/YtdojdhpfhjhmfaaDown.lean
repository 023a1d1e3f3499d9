import Derived.Test.YtdojdhpfhjhmfaaUp
import Derived.Deep.DeepCutAuto
import Derived.Deep.CutBlock
set_option linter.unusedVariables false
namespace Go.Proofs.Ytdojdhpfhjhmfaa
open Go.RowKit Go.Proofs.HeapPlain
variable {w w' : World} {base p : Nat} {v : Value} {L L' : List It}
/-- The first step of going down is done. -/
def Moved (L : List It) (i n : Nat) : Prop := ¬ (n ≤ 2 * i + 1 ∨ ¬ itLt (L.getD (childL itLt d0 L i n) d0) (L.getD i d0))
instance (L : List It) (i n : Nat) : Decidable (Moved L i n) := by unfold Moved; exact inferInstance
theorem downL_stop {L : List It} {i n : Nat} (h : ¬ Moved L i n) : downL itLt d0 L i n = L := by
  rw [downL]
  unfold Moved at h
  by_cases h1 : n ≤ 2 * i + 1
  · rw [dif_pos h1]
  · rw [dif_neg h1, if_neg (fun e => h (fun h2 => h2.elim h1 (fun h3 => h3 e)))]
theorem downL_step {L : List It} {i n : Nat} (h : Moved L i n) : downL itLt d0 L i n = downL itLt d0 (swL d0 L i (childL itLt d0 L i n)) (childL itLt d0 L i n) n := by
  conv => lhs; rw [downL]
  have h1 : ¬ n ≤ 2 * i + 1 := fun e => h (.inl e)
  rw [dif_neg h1, if_pos (Decidable.not_not.1 fun e => h (.inr e))]
set_option maxHeartbeats 8000000 in
theorem down_any (h : Pl w base p v L) (hn : L.length ≤ 1000000) {i n : Nat} (hj : i < L.length) (hnl : n ≤ L.length) :
    Calls Try.prog 43 #[.iface 69 (.pointer (some ⟨p, 0, none⟩)), .int .i64 (i : Int), .int .i64 (n : Int)] w fun e w' => e = .returned (.bool (decide (Moved L i n))) ∧ Pl w' base p v (downL itLt d0 L i n) ∧ Turn (OfRow v) w w' := by
  obtain ⟨A, c, rfl, _⟩ := own_slice h.row
  have HP := Lib.hid h
  clear h
  go_enter Try.func43, Try.ntmps43
  go_wp2_with fail
  go_loopg [7] L.length (fun k v7 wr => ∃ (m : Nat) (M : List It), v7 = .int .i64 (m : Int) ∧ Hid (L.length - m ≤ k ∧ m < L.length ∧ M.length = L.length ∧ downL itLt d0 M m n = downL itLt d0 L i n ∧ ((m = i ∧ M = L) ∨ (i < m ∧ Moved L i n)) ∧ Pl wr base p (.slice A L.length c) M) ∧ Turn (OfRow (.slice A L.length c)) w wr)
  case atStart => exact ⟨i, L, rfl, ⟨by omega, hj, rfl, rfl, .inl ⟨rfl, rfl⟩, HP.out⟩, Turn.refl _ _⟩
  case round =>
    obtain ⟨m, M, rfl, hi, ht⟩ := hrel
    obtain ⟨A', rfl⟩ : ∃ A', A' = A := ⟨A, rfl⟩
    have HT := Lib.hid ht
    clear ht
    have hil := hi.out.2.1
    have hMl := hi.out.2.2.1
    have hw1 : wrap64 (2 * (m : Int)) = 2 * (m : Int) := IntWalk.wrap64_in _ ⟨by omega, by omega⟩
    have hw2 : wrap64 (2 * (m : Int) + 1) = 2 * (m : Int) + 1 := IntWalk.wrap64_in _ ⟨by omega, by omega⟩
    have hw3 : wrap64 (2 * (m : Int) + 1 + 1) = 2 * (m : Int) + 1 + 1 := IntWalk.wrap64_in _ ⟨by omega, by omega⟩
    have cp := blk_cell hi.out.2.2.2.2.2.hp 0
    simp only [List.getElem?_toArray, List.getElem?_cons_zero] at cp
    have mL := m_less cp
    have hlast : ∀ {P : Prop}, (m = i ∧ M = L) ∨ (i < m ∧ Moved L i n) → ¬ Moved M m n → decide (i < m) = decide (Moved L i n) := by
      rintro _ (⟨h1, h2⟩ | ⟨h1, h2⟩) h3
      · subst h1; subst h2; simp [h3]
      · simp [h1, h2]
    have HL := Lib.hid (@hlast True)
    clear hlast
    by_cases h0 : n ≤ 2 * m + 1
    · have t1 : decide (2 * (m : Int) + 1 ≥ (n : Int)) = true := by simp; omega
      have t1' : decide ((n : Int) ≤ 2 * (m : Int) + 1) = true := by simp; omega
      have hmv : ¬ Moved M m n := fun e => e (.inl h0)
      have hb : (decide (i < m)) = decide (Moved L i n) := HL.out hi.out.2.2.2.2.1 hmv
      go_wp2_with fail
      go_ret
      refine ⟨by rw [← hb]; rfl, ?_, HT.out⟩
      rw [← hi.out.2.2.2.1, downL_stop hmv]
      exact hi.out.2.2.2.2.2
    · have t1 : decide (2 * (m : Int) + 1 ≥ (n : Int)) = false := by simp; omega
      have t1' : decide ((n : Int) ≤ 2 * (m : Int) + 1) = false := by simp; omega
      have t2 : decide (2 * (m : Int) + 1 < 0) = false := by simp; omega
      by_cases h1 : 2 * m + 2 < n
      · have t3 : decide (2 * (m : Int) + 1 + 1 < (n : Int)) = true := by simp; omega
        have cL := less_any (hi.out.2.2.2.2.2.row) (getD_at (l := M) (i := 2 * m + 2) (by omega)) (getD_at (l := M) (i := 2 * m + 1) (by omega)) (by omega)
        rw [show (((2 * m + 2 : Nat) : Int)) = 2 * (m : Int) + 1 + 1 by push_cast; omega, show (((2 * m + 1 : Nat) : Int)) = 2 * (m : Int) + 1 by push_cast; omega] at cL
        by_cases h2 : itLt (M.getD (2 * m + 2) d0) (M.getD (2 * m + 1) d0)
        · have e1 : (decide (itLt (M.getD (2 * m + 2) d0) (M.getD (2 * m + 1) d0))) = true := by simpa using h2
          rw [e1] at cL
          have hc : childL itLt d0 M m n = 2 * m + 2 := by unfold childL; rw [if_pos ⟨h1, h2⟩]
          go_upto_region 8 with (go_at_call 81; refine cL.mono ?_; rintro e w2 ⟨rfl, ht2⟩; have HP2 := Lib.hid (hi.out.2.2.2.2.2.nope ht2); have HT2 := Lib.hid (HT.out.trans (ht2.mono fun _ h => h.elim)); clear ht2)
          have hcl : 2 * m + 2 < L.length := by omega
          have cpB := blk_cell (HP2.out.hp) 0
          simp only [List.getElem?_toArray, List.getElem?_cons_zero] at cpB
          have mLB := m_less cpB
          have cLB := less_any (HP2.out.row) (getD_at (l := M) (i := 2 * m + 2) (by omega)) (getD_at (l := M) (i := m) (by omega)) (by omega)
          rw [show (((2 * m + 2 : Nat) : Int)) = 2 * (m : Int) + 1 + 1 by push_cast; omega] at cLB
          clear cpB
          by_cases hs : itLt (M.getD (2 * m + 2) d0) (M.getD m d0)
          · have e2 : (decide (itLt (M.getD (2 * m + 2) d0) (M.getD m d0))) = true := by simpa using hs
            rw [e2] at cLB
            have hmv : Moved M m n := by unfold Moved; rw [hc]; exact fun e => e.elim (by omega) (fun e => e hs)
            go_wp2_with (first
              | (go_at_call 81; refine cLB.mono ?_; rintro e w3 ⟨rfl, ht4⟩
                 have HP4 := Lib.hid (HP2.out.nope ht4)
                 have HT4 := Lib.hid ht4
                 clear ht4
                 have cp4 := blk_cell HP4.out.hp 0
                 simp only [List.getElem?_toArray, List.getElem?_cons_zero] at cp4
                 have mS := m_swap cp4
                 have cS := swap_any HP4.out.row (getD_at (l := M) (i := m) (by omega)) (getD_at (l := M) (i := 2 * m + 2) (by omega)) (by omega)
                 rw [show (((2 * m + 2 : Nat) : Int)) = 2 * (m : Int) + 1 + 1 by push_cast; omega] at cS
                 clear cp4)
              | (go_at_call 82; refine cS.mono ?_; rintro e w5 ⟨rfl, hr5, ht5⟩
                 have HP5 := Lib.hid (HP4.out.turn ht5 hr5)
                 have HT5 := Lib.hid ht5
                 clear ht5 hr5))
            go_roundg (L.length - (2 * m + 2))
            case measure => have := hi.out; omega
            case rel =>
              refine ⟨2 * m + 2, (M.set m (M.getD (2 * m + 2) d0)).set (2 * m + 2) (M.getD m d0), by go_num, ⟨Nat.le_refl _, hcl, by simpa using hMl, ?_, ?_, HP5.out⟩, (HT2.out.trans (HT4.out.mono fun _ h => h.elim)).trans HT5.out⟩
              · rw [← hi.out.2.2.2.1, downL_step hmv, hc]; rfl
              · refine .inr ⟨?_, ?_⟩
                · rcases hi.out.2.2.2.2.1 with ⟨h1, _⟩ | ⟨h1, _⟩ <;> omega
                · rcases hi.out.2.2.2.2.1 with ⟨h1, h2⟩ | ⟨_, h2⟩
                  · rw [← h1, ← h2]; exact hmv
                  · exact h2
          · have e2 : (decide (itLt (M.getD (2 * m + 2) d0) (M.getD m d0))) = false := by simpa using hs
            rw [e2] at cLB
            have hmv : ¬ Moved M m n := by unfold Moved; rw [hc]; exact fun e => e (.inr hs)
            have hb : (decide (i < m)) = decide (Moved L i n) := HL.out hi.out.2.2.2.2.1 hmv
            go_wp2_with (go_at_call 81; refine cLB.mono ?_; rintro e w3 ⟨rfl, ht4⟩
                         have HP4 := Lib.hid (HP2.out.nope ht4)
                         have HT4 := Lib.hid ht4
                         clear ht4)
            go_ret
            refine ⟨by rw [← hb]; rfl, ?_, HT2.out.trans (HT4.out.mono fun _ h => h.elim)⟩
            rw [← hi.out.2.2.2.1, downL_stop hmv]
            exact HP4.out
        · have e1 : (decide (itLt (M.getD (2 * m + 2) d0) (M.getD (2 * m + 1) d0))) = false := by simpa using h2
          rw [e1] at cL
          have hc : childL itLt d0 M m n = 2 * m + 1 := by unfold childL; rw [if_neg (fun e => h2 e.2)]
          go_upto_region 8 with (go_at_call 81; refine cL.mono ?_; rintro e w2 ⟨rfl, ht2⟩; have HP2 := Lib.hid (hi.out.2.2.2.2.2.nope ht2); have HT2 := Lib.hid (HT.out.trans (ht2.mono fun _ h => h.elim)); clear ht2)
          have hcl : 2 * m + 1 < L.length := by omega
          have cpB := blk_cell (HP2.out.hp) 0
          simp only [List.getElem?_toArray, List.getElem?_cons_zero] at cpB
          have mLB := m_less cpB
          have cLB := less_any (HP2.out.row) (getD_at (l := M) (i := 2 * m + 1) (by omega)) (getD_at (l := M) (i := m) (by omega)) (by omega)
          rw [show (((2 * m + 1 : Nat) : Int)) = 2 * (m : Int) + 1 by push_cast; omega] at cLB
          clear cpB
          by_cases hs : itLt (M.getD (2 * m + 1) d0) (M.getD m d0)
          · have e2 : (decide (itLt (M.getD (2 * m + 1) d0) (M.getD m d0))) = true := by simpa using hs
            rw [e2] at cLB
            have hmv : Moved M m n := by unfold Moved; rw [hc]; exact fun e => e.elim (by omega) (fun e => e hs)
            go_wp2_with (first
              | (go_at_call 81; refine cLB.mono ?_; rintro e w3 ⟨rfl, ht4⟩
                 have HP4 := Lib.hid (HP2.out.nope ht4)
                 have HT4 := Lib.hid ht4
                 clear ht4
                 have cp4 := blk_cell HP4.out.hp 0
                 simp only [List.getElem?_toArray, List.getElem?_cons_zero] at cp4
                 have mS := m_swap cp4
                 have cS := swap_any HP4.out.row (getD_at (l := M) (i := m) (by omega)) (getD_at (l := M) (i := 2 * m + 1) (by omega)) (by omega)
                 rw [show (((2 * m + 1 : Nat) : Int)) = 2 * (m : Int) + 1 by push_cast; omega] at cS
                 clear cp4)
              | (go_at_call 82; refine cS.mono ?_; rintro e w5 ⟨rfl, hr5, ht5⟩
                 have HP5 := Lib.hid (HP4.out.turn ht5 hr5)
                 have HT5 := Lib.hid ht5
                 clear ht5 hr5))
            go_roundg (L.length - (2 * m + 1))
            case measure => have := hi.out; omega
            case rel =>
              refine ⟨2 * m + 1, (M.set m (M.getD (2 * m + 1) d0)).set (2 * m + 1) (M.getD m d0), by go_num, ⟨Nat.le_refl _, hcl, by simpa using hMl, ?_, ?_, HP5.out⟩, (HT2.out.trans (HT4.out.mono fun _ h => h.elim)).trans HT5.out⟩
              · rw [← hi.out.2.2.2.1, downL_step hmv, hc]; rfl
              · refine .inr ⟨?_, ?_⟩
                · rcases hi.out.2.2.2.2.1 with ⟨h1, _⟩ | ⟨h1, _⟩ <;> omega
                · rcases hi.out.2.2.2.2.1 with ⟨h1, h2⟩ | ⟨_, h2⟩
                  · rw [← h1, ← h2]; exact hmv
                  · exact h2
          · have e2 : (decide (itLt (M.getD (2 * m + 1) d0) (M.getD m d0))) = false := by simpa using hs
            rw [e2] at cLB
            have hmv : ¬ Moved M m n := by unfold Moved; rw [hc]; exact fun e => e (.inr hs)
            have hb : (decide (i < m)) = decide (Moved L i n) := HL.out hi.out.2.2.2.2.1 hmv
            go_wp2_with (go_at_call 81; refine cLB.mono ?_; rintro e w3 ⟨rfl, ht4⟩
                         have HP4 := Lib.hid (HP2.out.nope ht4)
                         have HT4 := Lib.hid ht4
                         clear ht4)
            go_ret
            refine ⟨by rw [← hb]; rfl, ?_, HT2.out.trans (HT4.out.mono fun _ h => h.elim)⟩
            rw [← hi.out.2.2.2.1, downL_stop hmv]
            exact HP4.out
      · have t3 : decide (2 * (m : Int) + 1 + 1 < (n : Int)) = false := by simp; omega
        have hc : childL itLt d0 M m n = 2 * m + 1 := by unfold childL; rw [if_neg (fun e => h1 e.1)]
        have HP2 := Lib.hid hi.out.2.2.2.2.2
        have hcl : 2 * m + 1 < L.length := by omega
        have cpB := blk_cell (HP2.out.hp) 0
        simp only [List.getElem?_toArray, List.getElem?_cons_zero] at cpB
        have mLB := m_less cpB
        have cLB := less_any (HP2.out.row) (getD_at (l := M) (i := 2 * m + 1) (by omega)) (getD_at (l := M) (i := m) (by omega)) (by omega)
        rw [show (((2 * m + 1 : Nat) : Int)) = 2 * (m : Int) + 1 by push_cast; omega] at cLB
        clear cpB
        by_cases hs : itLt (M.getD (2 * m + 1) d0) (M.getD m d0)
        · have e2 : (decide (itLt (M.getD (2 * m + 1) d0) (M.getD m d0))) = true := by simpa using hs
          rw [e2] at cLB
          have hmv : Moved M m n := by unfold Moved; rw [hc]; exact fun e => e.elim (by omega) (fun e => e hs)
          go_wp2_with (first
            | (go_at_call 81; refine cLB.mono ?_; rintro e w3 ⟨rfl, ht4⟩
               have HP4 := Lib.hid (HP2.out.nope ht4)
               have HT4 := Lib.hid ht4
               clear ht4
               have cp4 := blk_cell HP4.out.hp 0
               simp only [List.getElem?_toArray, List.getElem?_cons_zero] at cp4
               have mS := m_swap cp4
               have cS := swap_any HP4.out.row (getD_at (l := M) (i := m) (by omega)) (getD_at (l := M) (i := 2 * m + 1) (by omega)) (by omega)
               rw [show (((2 * m + 1 : Nat) : Int)) = 2 * (m : Int) + 1 by push_cast; omega] at cS
               clear cp4)
            | (go_at_call 82; refine cS.mono ?_; rintro e w5 ⟨rfl, hr5, ht5⟩
               have HP5 := Lib.hid (HP4.out.turn ht5 hr5)
               have HT5 := Lib.hid ht5
               clear ht5 hr5))
          go_roundg (L.length - (2 * m + 1))
          case measure => have := hi.out; omega
          case rel =>
            refine ⟨2 * m + 1, (M.set m (M.getD (2 * m + 1) d0)).set (2 * m + 1) (M.getD m d0), by go_num, ⟨Nat.le_refl _, hcl, by simpa using hMl, ?_, ?_, HP5.out⟩, (HT.out.trans (HT4.out.mono fun _ h => h.elim)).trans HT5.out⟩
            · rw [← hi.out.2.2.2.1, downL_step hmv, hc]; rfl
            · refine .inr ⟨?_, ?_⟩
              · rcases hi.out.2.2.2.2.1 with ⟨h1, _⟩ | ⟨h1, _⟩ <;> omega
              · rcases hi.out.2.2.2.2.1 with ⟨h1, h2⟩ | ⟨_, h2⟩
                · rw [← h1, ← h2]; exact hmv
                · exact h2
        · have e2 : (decide (itLt (M.getD (2 * m + 1) d0) (M.getD m d0))) = false := by simpa using hs
          rw [e2] at cLB
          have hmv : ¬ Moved M m n := by unfold Moved; rw [hc]; exact fun e => e (.inr hs)
          have hb : (decide (i < m)) = decide (Moved L i n) := HL.out hi.out.2.2.2.2.1 hmv
          go_wp2_with (go_at_call 81; refine cLB.mono ?_; rintro e w3 ⟨rfl, ht4⟩
                       have HP4 := Lib.hid (HP2.out.nope ht4)
                       have HT4 := Lib.hid ht4
                       clear ht4)
          go_ret
          refine ⟨by rw [← hb]; rfl, ?_, HT.out.trans (HT4.out.mono fun _ h => h.elim)⟩
          rw [← hi.out.2.2.2.1, downL_stop hmv]
          exact HP4.out
end Go.Proofs.Ytdojdhpfhjhmfaa
