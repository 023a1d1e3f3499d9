/- Any length about which a block ends. -/
import Derived.Test.YtojfknogdknhkaaPts
import Derived.Laws.OwnMore
set_option maxRecDepth 16000
set_option linter.unusedVariables false
set_option linter.unusedSimpArgs false
namespace Go.Proofs.Ytojfknogdknhkaa
open Go.RowKit
variable {w w' : World}
def edgeV (c : Int) (j : Nat) : Int := IntKind.u8.wrap (c * IntKind.u8.wrap (j : Int))
def edgeL (c : Int) (n i : Nat) : List Int := (List.range n).map fun j => if j < i then edgeV c j else 0
theorem edgeL_len (c : Int) (n i : Nat) : (edgeL c n i).length = n := by simp [edgeL]
theorem edgeL_0 (c : Int) (n : Nat) : u8v (edgeL c n 0) = List.replicate n (Value.int .u8 0) := by
  unfold u8v edgeL
  apply List.ext_getElem
  · simp
  · intro j h1 h2
    simp
theorem edgeL_at (c : Int) (n i j : Nat) (hj : j < n) : (u8v (edgeL c n i))[j]? = some (.int .u8 (if j < i then edgeV c j else 0)) := by
  unfold u8v edgeL
  simp [hj]
theorem edgeL_set (c : Int) (n i : Nat) (hi : i < n) : (u8v (edgeL c n i)).set i (.int .u8 (edgeV c i)) = u8v (edgeL c n (i + 1)) := by
  apply List.ext_getElem?
  intro j
  by_cases hj : j < n
  · rw [List.getElem?_set, edgeL_at c n (i + 1) j hj, edgeL_at c n i j hj]
    by_cases hij : i = j
    · subst hij
      rw [if_pos rfl, if_pos (by simp [u8v, edgeL_len]; exact hi), if_pos (by omega)]
    · rw [if_neg hij]
      by_cases h1 : j < i
      · rw [if_pos h1, if_pos (by omega)]
      · rw [if_neg h1, if_neg (by omega)]
  · rw [List.getElem?_eq_none (by simp [u8v, edgeL_len]; omega), List.getElem?_eq_none (by simp [u8v, edgeL_len]; omega)]
theorem at_far {q g i n : Nat} (h : q < g) : ∀ k, (Value.slice (some ⟨q, 0, none⟩) i n).ownBlock = some k → ¬ At g k := by
  intro k hk he
  have hk : q = k := by simpa [Value.ownBlock] using hk
  have he : k = g := he
  omega
set_option maxHeartbeats 8000000 in
theorem edges_walk (c n0 : Int) (w : World) (hc : (Lit.int .u8 c).wf = true) (hn : (Lit.int .i64 n0).wf = true) :
    Calls Try.prog 5 #[.int .u8 c, .int .i64 n0] w fun e w' => e = .returned (.bool true) ∧ Below w.heap.size w w' := by
  clear hc
  go_enter Try.func5, Try.ntmps5
  by_cases hneg : n0 < 0
  · have b1 : decide (n0 < 0) = true := by simp; omega
    go_wp2_with fail
    refine (awake_any _).mono ?_
    rintro e w1 ⟨rfl, ht⟩
    have H1 := Lib.hid ht
    clear ht
    go_wp2_with fail
    refine (awake_any _).mono ?_
    rintro e w2 ⟨rfl, ht⟩
    have H2 := Lib.hid (H1.out.trans ht)
    clear ht
    go_wp2_with fail
    go_ret
    exact ⟨rfl, H2.out.nopeBelow⟩
  · have b1 : decide (n0 < 0) = false := by simp; omega
    by_cases hgt : 400 < n0
    · have b2 : decide (400 < n0) = true := by simp; omega
      go_wp2_with fail
      refine (awake_any _).mono ?_
      rintro e w1 ⟨rfl, ht⟩
      have H1 := Lib.hid ht
      clear ht
      go_wp2_with fail
      refine (awake_any _).mono ?_
      rintro e w2 ⟨rfl, ht⟩
      have H2 := Lib.hid (H1.out.trans ht)
      clear ht
      go_wp2_with fail
      go_ret
      exact ⟨rfl, H2.out.nopeBelow⟩
    · have b2 : decide (400 < n0) = false := by simp; omega
      obtain ⟨n, rfl⟩ : ∃ n : Nat, n0 = (n : Int) := ⟨n0.toNat, by omega⟩
      have hn4 : n ≤ 400 := by omega
      go_wp2_with fail
      refine (awake_any _).mono ?_
      rintro e w1 ⟨rfl, ht⟩
      have H1 := Lib.hid ht
      clear ht
      obtain ⟨i5, hi5, hz5, hs5, hb5⟩ := info_parts Try.info5
      obtain ⟨w2, hmk, hown, hgr⟩ := run_makeSlice_full (P := Try.prog) w1 w.heap.size 27 5 i5 (.int .u8 0) 1 Try.underlying27 hi5 hz5 hs5 .i64 .i64 n (by omega) (by rw [hb5]; omega) (by unfold maxLen; omega) H1.out.size
      rw [Nat.mul_one, show (Value.int .u8 0).cells = #[Value.int .u8 0] from rfl, toList_madeCells_one] at hown
      obtain ⟨q, hq⟩ : ∃ q, w1.heap.size = q := ⟨_, rfl⟩
      rw [hq] at hmk hown
      have H2 : Hid (w2.ownsRow w.heap.size 5 1 (.slice (some ⟨q, 0, none⟩) n n) n (u8v (edgeL c n 0)) ∧ Turn Nope w w2 ∧ w.heap.size ≤ q) := ⟨by rw [edgeL_0]; exact hown, H1.out.grown hgr (fun k h => by cases h), by rw [← hq]; exact H1.out.size⟩
      clear hi5 hz5 hs5 hb5 hown hgr hq H1 hneg hgt
      go_wp2_with fail
      clear hmk b1 b2
      go_loopg [23] n (fun m v23 wr => ∃ i : Nat, v23 = .int .i64 (i : Int) ∧ Hid (m + i = n) ∧ Hid (wr.ownsRow w.heap.size 5 1 (.slice (some ⟨q, 0, none⟩) n n) n (u8v (edgeL c n i)) ∧ Turn Nope w wr ∧ w.heap.size ≤ q))
      case atStart => exact ⟨0, rfl, rfl, H2.out⟩
      case round =>
        obtain ⟨i, rfl, hi, hS⟩ := hrel
        clear H2
        by_cases hlt : i < n
        · have c1 : decide ((i : Int) < (n : Int)) = true := by simp; omega
          have c1n : decide (i < n) = true := by simp; omega
          have j0 : (0 : Int) ≤ (i : Int) := by omega
          have j1 : (i : Int) < (n : Int) := by omega
          have HWJ : Hid (wrap64 ((i : Int) + 1) = (i : Int) + 1) := IntWalk.wrap64_in _ ⟨by omega, by omega⟩
          have cc := row_at hS.out.1 (edgeL_at c n i i hlt)
          have cf := row_frozen hS.out.1 i
          go_wp2_with fail
          go_roundg (n - (i + 1))
          case measure => have := hi.out; omega
          case rel =>
            refine ⟨i + 1, by go_num, by have := hi.out; show _ = _; omega, ?_, hS.out.2.1.set_new hS.out.2.2 _, hS.out.2.2⟩
            have h1 := own_put hS.out.1 i hlt (.int .u8 (edgeV c i))
            rw [edgeL_set c n i hlt] at h1
            unfold edgeV at h1
            simpa [IntKind.wrap_u8] using h1
        · obtain rfl : i = n := by have := hi.out; omega
          have c1 : decide ((i : Int) < (i : Int)) = false := by simp
          have c1n : decide (i < i) = false := by simp
          clear hlt
          obtain ⟨L, hL⟩ : ∃ L, edgeL c i i = L := ⟨_, rfl⟩
          have hLl : L.length = i := by rw [← hL]; exact edgeL_len c i i
          rw [hL] at hS
          clear hL
          obtain ⟨Y, hY⟩ : ∃ Y, strOfNums L = Y := ⟨_, rfl⟩
          have hYs : Y.size ≤ 400 := by rw [← hY, strOfNums_size, hLl]; exact hn4
          have HCY : Hid (∀ W : World, W.ownsRow w.heap.size 5 1 (.slice (some ⟨q, 0, none⟩) i i) i (u8v L) → (convert 27 9 (.slice (some ⟨q, 0, none⟩) i i)).run Try.prog W = .ok (.string Y) W) := fun W h => by
            rw [← hY]; exact conv32 W _ _ _ _ _ h
          clear hY hLl
          have hcy := HCY.out wr hS.out.1
          go_wp2_with fail
          clear hcy
          refine (of_any Y (by omega) _).mono ?_
          rintro e w5 ⟨rfl, ht⟩
          have H5 : Hid (w5.ownsRow w.heap.size 5 1 (.slice (some ⟨q, 0, none⟩) i i) i (u8v L) ∧ Turn Nope w w5) := ⟨own_nope hS.out.1 ht, hS.out.2.1.trans ht⟩
          clear ht hS
          obtain ⟨s, hs⟩ : ∃ s, sumP Y.data.toList = s := ⟨_, rfl⟩
          have HSS := Lib.hid hs
          rw [hs]
          clear hs
          obtain ⟨O, hO⟩ : ∃ O, outA s = O := ⟨_, rfl⟩
          have HO := Lib.hid hO
          have hos : O.size = 32 := by rw [← hO]; exact outA_size s
          have hoo : ∀ v ∈ O.toList, v.oneCell' = true := by rw [← hO]; exact outA_one s
          rw [hO]
          clear hO
          have HOO := Lib.hid hoo
          clear hoo
          obtain ⟨g, hg⟩ : ∃ g, w5.heap.size = g := ⟨_, rfl⟩
          have hz := blk_new w5 (.cells Z32 24)
          rw [hg] at hz
          have hqg : q < g := by have := (H5.out.1.lt q rfl).2; omega
          have HG : Hid ((World.setRow (w5.alloc (.cells Z32 24)) g O).heap[g]? = some (.cells O 24 (0, 0)) ∧ (World.setRow (w5.alloc (.cells Z32 24)) g O).ownsRow w.heap.size 5 1 (.slice (some ⟨q, 0, none⟩) i i) i (u8v L) ∧ Turn Nope w (World.setRow (w5.alloc (.cells Z32 24)) g O)) :=
            ⟨setRow_heap _ g Z32 O 24 (0, 0) hz, own_turn H5.out.1 (((Turn.refl (At g) w5).alloc (.cells Z32 24)).setRow (.inl rfl) O) (at_far hqg), (H5.out.2.alloc _).setRow (.inr (by rw [← hg]; exact H5.out.2.size)) O⟩
          have HZ := Lib.hid hz
          have HGG := Lib.hid hg
          clear hz hg hqg H5
          obtain ⟨XS, hXS⟩ : ∃ XS, strOfNums (stBytes s) = XS := ⟨_, rfl⟩
          have HCV : Hid (∀ W : World, W.heap[g]? = some (.cells O 24 (0, 0)) → (convert 27 9 (.slice (some ⟨g, 0, none⟩) 32 32)).run Try.prog W = .ok (.string XS) W) := fun W h => by
            rw [← HO.out] at h
            rw [← hXS]
            exact conv24 s h
          have HRO : Hid (∀ W : World, Calls Try.prog 10 #[.string Y] W fun e w' => e = .returned (.string XS) ∧ Turn Nope W w') := fun W => by
            have h := refOf_any Y (by omega) W
            rw [HSS.out, hXS] at h
            exact h
          clear hXS
          go_wp2_with (refine wpList_storeSum rfl _ _ rfl g Z32 O (by rw [← HGG.out]; rfl) rfl HZ.out rfl hos HOO.out ?_)
          generalize hE : World.setRow (World.alloc w5 _) _ O = w6
          have HW : Hid (w6.heap[g]? = some (.cells O 24 (0, 0)) ∧ w6.ownsRow w.heap.size 5 1 (.slice (some ⟨q, 0, none⟩) i i) i (u8v L) ∧ Turn Nope w w6) := by rw [← hE]; exact HG.out
          try rw [HGG.out]
          clear hE HZ HG
          refine wp_region_held_drew (S := fun W => W.heap[g]? = some (.cells O 24 (0, 0)) ∧ W.ownsRow w.heap.size 5 1 (.slice (some ⟨q, 0, none⟩) i i) i (u8v L)) (by kernel_rfl) ⟨HW.out.1, own_nope HW.out.2.1 (Turn.refl _ _).drew⟩ (fun hHeld => ?_)
          refine' wpAnyH_take (i := 0) (v := _) (by simp only [List.getElem?_toArray, List.getElem?_cons_succ, List.getElem?_cons_zero]; rfl) (by kernel_rfl) (by kernel_rfl) (by kernel_rfl) (by intro _ _ _ h; exact h) (Or.inl ⟨by rfl, ?hyz0⟩) hHeld ?restz0
          case hyz0 => (intro w hSw; (try dsimp only at hSw); go_simp; try (with_reducible rfl))
          simp only [Act.put, List.setIfInBounds_toArray, List.set_cons_zero, List.set_cons_succ]
          refine' wpAnyH_take (i := 1) (v := _) (by simp only [List.getElem?_toArray, List.getElem?_cons_succ, List.getElem?_cons_zero]; rfl) (by kernel_rfl) (by kernel_rfl) (by kernel_rfl) (by intro _ _ _ h; exact h) (Or.inl ⟨by rfl, ?hyz1⟩) hHeld ?restz1
          case hyz1 => (intro w hSw; (try dsimp only at hSw); have hcv := HCV.out w hSw.1; go_simp; try (with_reducible rfl))
          simp only [Act.put, List.setIfInBounds_toArray, List.set_cons_zero, List.set_cons_succ]
          refine' wpAnyH_take (i := 2) (v := _) (by simp only [List.getElem?_toArray, List.getElem?_cons_succ, List.getElem?_cons_zero]; rfl) (by kernel_rfl) (by kernel_rfl) (by kernel_rfl) (by intro _ _ _ h; exact h) (Or.inl ⟨by rfl, ?hyz2⟩) hHeld ?restz2
          case hyz2 => (intro w hSw; (try dsimp only at hSw); go_simp; try (with_reducible rfl))
          simp only [Act.put, List.setIfInBounds_toArray, List.set_cons_zero, List.set_cons_succ]
          refine' wpAnyH_take (i := 3) (v := _) (by simp only [List.getElem?_toArray, List.getElem?_cons_succ, List.getElem?_cons_zero]; rfl) (by kernel_rfl) (by kernel_rfl) (by kernel_rfl) (by intro _ _ _ h; exact h) (Or.inl ⟨by rfl, ?hyz3⟩) hHeld ?restz3
          case hyz3 => (intro w hSw; (try dsimp only at hSw); have hcv := HCY.out w hSw.2; go_simp; try (with_reducible rfl))
          simp only [Act.put, List.setIfInBounds_toArray, List.set_cons_zero, List.set_cons_succ]
          refine wpAnyH_ready (rs := [4]) (by kernel_rfl) (by simp) (AllReadyH.cons (by simp only [List.getElem?_toArray, List.getElem?_cons_succ, List.getElem?_cons_zero]; rfl) (fun K hK => ?_) AllReadyH.nil)
          go_simp
          go_at_call 10
          refine (HRO.out _).mono ?_
          rintro e wN1 ⟨rfl, ht1⟩
          have HN1 := Lib.hid ht1
          clear ht1
          try go_wp2_with fail
          refine hK.out _ _ ?_ (fun hHeld => ?_)
          · exact ⟨HN1.out.blk hHeld.1 fun h => h, own_nope hHeld.2 HN1.out⟩
          clear hK K
          try simp only [Act.put, List.setIfInBounds_toArray, List.set_cons_zero, List.set_cons_succ]
          refine' wpAnyH_take (i := 5) (v := _) (by simp only [List.getElem?_toArray, List.getElem?_cons_succ, List.getElem?_cons_zero]; rfl) (by kernel_rfl) (by kernel_rfl) (by kernel_rfl) (by intro _ _ _ h; exact h) (Or.inl ⟨by rfl, ?hyz5⟩) hHeld ?restz5
          case hyz5 => (intro w hSw; (try dsimp only at hSw); go_simp; try (with_reducible rfl))
          simp only [Act.put, List.setIfInBounds_toArray, List.set_cons_zero, List.set_cons_succ]
          refine' wpAnyH_take (i := 6) (v := _) (by simp only [List.getElem?_toArray, List.getElem?_cons_succ, List.getElem?_cons_zero]; rfl) (by kernel_rfl) (by kernel_rfl) (by kernel_rfl) (by intro _ _ _ h; exact h) (Or.inl ⟨by rfl, ?hyz6⟩) hHeld ?restz6
          case hyz6 => (intro w hSw; (try dsimp only at hSw); go_simp; try (with_reducible rfl))
          simp only [Act.put, List.setIfInBounds_toArray, List.set_cons_zero, List.set_cons_succ]
          refine wpAnyH_done (by kernel_rfl) ?_ _
          have HF : Hid (Turn Nope w wN1) := (HW.out.2.2.drew).trans HN1.out
          go_wp2_with fail
          go_ret
          exact ⟨rfl, HF.out.nopeBelow⟩
end Go.Proofs.Ytojfknogdknhkaa
