/- Any bytes: their sum, and its digits. -/
import Derived.Test.YtojfknogdknhkaaMore
set_option maxRecDepth 16000
set_option linter.unusedVariables false
set_option linter.unusedSimpArgs false
namespace Go.Proofs.Ytojfknogdknhkaa
open Go.RowKit
variable {w w' : World}
theorem digs_one (k : Nat) (hk : k < 16) : digs.extract k (k + 1) = ⟨#[dg k]⟩ := by
  have h : k = 0 ∨ k = 1 ∨ k = 2 ∨ k = 3 ∨ k = 4 ∨ k = 5 ∨ k = 6 ∨ k = 7 ∨ k = 8 ∨ k = 9 ∨ k = 10 ∨ k = 11 ∨ k = 12 ∨ k = 13 ∨ k = 14 ∨ k = 15 := by omega
  rcases h with rfl | rfl | rfl | rfl | rfl | rfl | rfl | rfl | rfl | rfl | rfl | rfl | rfl | rfl | rfl | rfl <;> rfl
theorem conv24 {W : World} {g : Nat} (s : St) (h : W.heap[g]? = some (.cells (outA s) 24 (0, 0))) : (convert 27 9 (.slice (some ⟨g, 0, none⟩) 32 32)).run Try.prog W = .ok (.string (strOfNums (stBytes s))) W :=
  run_convert_bytes_arg (P := Try.prog) W 27 5 Try.underlying27 Try.underlying5 g 0 32 32 (stBytes s) (stBytes_length s) (fun i hi => by
    rw [Nat.zero_add, blk_cell h, ← Array.getElem?_toList, outA_list, List.getElem?_map, List.getElem?_eq_getElem (by rw [stBytes_length]; exact hi), List.getD_eq_getElem?_getD, List.getElem?_eq_getElem (by rw [stBytes_length]; exact hi)]
    rfl) 9 Try.underlying9
set_option maxHeartbeats 8000000 in
theorem of_walk (a : ByteArray) (w : World) (_ha : a.size ≤ 140737488351232) :
    Calls Try.prog 3 #[.string a] w fun e w' => e = .returned (.bool true) ∧ Below w.heap.size w w' := by
  go_enter Try.func3, Try.ntmps3
  go_wp2_with fail
  refine (cut_any a 300 (by decide) _).mono ?_
  rintro e w1 ⟨rfl, rfl⟩
  have ha := cutP_size a 300
  generalize cutP a 300 = a at ha ⊢
  go_wp2_with fail
  refine (of_any a (by omega) _).mono ?_
  rintro e w2 ⟨rfl, ht⟩
  have HT2 := Lib.hid ht
  clear ht
  obtain ⟨s, hs⟩ : ∃ s, sumP a.data.toList = s := ⟨_, rfl⟩
  have HSS := Lib.hid hs
  rw [hs]
  clear hs
  obtain ⟨O, hO⟩ : ∃ O, outA s = O := ⟨_, rfl⟩
  have HO := Lib.hid hO
  have hos : O.size = 32 := by rw [← hO]; exact outA_size s
  have hoo : ∀ v ∈ O.toList, v.oneCell' = true := by rw [← hO]; exact outA_one s
  rw [hO]
  clear hO
  have HOO := Lib.hid hoo
  clear hoo
  obtain ⟨g, hg⟩ : ∃ g, w2.heap.size = g := ⟨_, rfl⟩
  have hz := blk_new w2 (.cells Z32 24)
  rw [hg] at hz
  have HG : Hid ((World.setRow (w2.alloc (.cells Z32 24)) g O).heap[g]? = some (.cells O 24 (0, 0)) ∧ Turn Nope w1 (World.setRow (w2.alloc (.cells Z32 24)) g O)) :=
    ⟨setRow_heap _ g Z32 O 24 (0, 0) hz, (HT2.out.alloc _).setRow (.inr (by rw [← hg]; exact HT2.out.size)) O⟩
  have HZ := Lib.hid hz
  have HGG := Lib.hid hg
  clear hz hg
  go_wp2_with (first | (refine wpList_storeSum rfl _ _ rfl g Z32 O (by rw [← HGG.out]; rfl) rfl HZ.out rfl hos HOO.out ?_) | (refine wpList_loadSum rfl _ rfl g O (by rw [← HGG.out]; rfl) HG.out.1 hos ?_))
  generalize hE : World.setRow (World.alloc w2 _) _ O = w3
  have HW : Hid (w3.heap[g]? = some (.cells O 24 (0, 0)) ∧ Turn Nope w1 w3) := by rw [← hE]; exact HG.out
  try rw [HGG.out]
  clear hE HZ HG
  have hOl : O.toList = (stBytes s).map (Value.int .u8) := by rw [← HO.out]; rfl
  have HL := Lib.hid (And.intro hOl (And.intro (stBytes_length s) (stBytes_b s)))
  clear hOl
  obtain ⟨l, hl⟩ : ∃ l, stBytes s = l := ⟨_, rfl⟩
  rw [hl] at HL
  have HLL := Lib.hid hl
  clear hl
  go_loopg [5, 13] 32 (fun m v5 v13 wr => ∃ (j : Nat) (X : ByteArray), v13 = .int .i64 (j : Int) ∧ v5 = .string X ∧ Hid (m + j = 32 ∧ X.data.toList = hexL (l.take j)) ∧ Hid (wr.heap[g]? = some (.cells O 24 (0, 0)) ∧ Turn Nope w1 wr))
  case atStart => exact ⟨0, ⟨#[]⟩, rfl, rfl, ⟨rfl, rfl⟩, HW.out⟩
  case round =>
    obtain ⟨j, X, rfl, rfl, hj, hS⟩ := hrel
    clear HW
    by_cases hlt : j < 32
    · have c1 : decide ((j : Int) < 32) = true := by simp; omega
      have c1n : decide (j < 32) = true := by simp; omega
      have j0 : (0 : Int) ≤ (j : Int) := by omega
      have j1 : (j : Int) < 32 := by omega
      have HWJ : Hid (wrap64 ((j : Int) + 1) = (j : Int) + 1) := IntWalk.wrap64_in _ ⟨by omega, by omega⟩
      obtain ⟨c, hc⟩ : ∃ c, l[j]? = some c := ⟨_, List.getElem?_eq_getElem (show j < l.length by rw [HL.out.2.1]; exact hlt)⟩
      have hoc : O[j]? = some (.int .u8 c) := by rw [← Array.getElem?_toList, HL.out.1, List.getElem?_map, hc]; rfl
      have hcb := HL.out.2.2 c (List.mem_of_getElem? hc)
      have HC := Lib.hid hc
      have hix := run_indexSum wr O j c hlt hoc
      clear hoc hc
      obtain ⟨q, rfl⟩ : ∃ q : Nat, c = (q : Int) := ⟨c.toNat, by omega⟩
      have hXs : X.size ≤ 64 := by
        rw [← data_len X, hj.out.2, hexL_len, List.length_take]; omega
      have q3 : q / 16 < 16 := by omega
      have r3 : q % 16 < 16 := by omega
      have a0 : (0 : Int) ≤ (q : Int) / 16 := by omega
      have a1 : (q : Int) / 16 ≤ (q : Int) / 16 + 1 := by omega
      have a2 : (q : Int) / 16 + 1 ≤ 16 := by omega
      have a3 : q / 16 ≤ q / 16 + 1 := by omega
      have a4 : q / 16 + 1 ≤ 16 := by omega
      have a5 : (0 : Int) ≤ (q : Int) / 16 + 1 := by omega
      have b0 : (0 : Int) ≤ (q : Int) % 16 := by omega
      have b1 : (q : Int) % 16 ≤ (q : Int) % 16 + 1 := by omega
      have b2 : (q : Int) % 16 + 1 ≤ 16 := by omega
      have b3 : q % 16 ≤ q % 16 + 1 := by omega
      have b4 : q % 16 + 1 ≤ 16 := by omega
      have b5 : (0 : Int) ≤ (q : Int) % 16 + 1 := by omega
      have w1 : IntKind.u8.wrap ((q : Int) / 16 + 1) = (q : Int) / 16 + 1 := by rw [IntKind.wrap_u8]; omega
      have w2 : IntKind.u8.wrap ((q : Int) % 16 + 1) = (q : Int) % 16 + 1 := by rw [IntKind.wrap_u8]; omega
      have w4 : IntKind.u8.wrap ((q : Int) / 16) = (q : Int) / 16 := by rw [IntKind.wrap_u8]; omega
      have w5 : IntKind.u8.wrap ((q : Int) % 16) = (q : Int) % 16 := by rw [IntKind.wrap_u8]; omega
      go_wp2_with fail
      go_quiet (fail)
      rw [show (ByteArray.mk #[48, 49, 50, 51, 52, 53, 54, 55, 56, 57, 97, 98, 99, 100, 101, 102]).extract (q / 16) (q / 16 + 1) = ⟨#[dg (q / 16)]⟩ from digs_one _ q3, show (ByteArray.mk #[48, 49, 50, 51, 52, 53, 54, 55, 56, 57, 97, 98, 99, 100, 101, 102]).extract (q % 16) (q % 16 + 1) = ⟨#[dg (q % 16)]⟩ from digs_one _ r3]
      clear a0 a1 a2 a3 a4 a5 b0 b1 b2 b3 b4 b5 w1 w2 w4 w5 hix
      go_wp2_with fail
      go_roundg (32 - (j + 1))
      case measure => have := hj.out; omega
      case rel =>
        refine ⟨j + 1, _, by go_num, rfl, ⟨by have := hj.out; omega, ?_⟩, hS.out.1, hS.out.2.drewN _⟩
        have h2 : l.take (j + 1) = l.take j ++ [(q : Int)] := by rw [List.take_add_one, HC.out]; rfl
        rw [h2, data_app, data_app, hj.out.2]
        unfold hexL
        rw [List.flatMap_append]
        rfl
    · obtain rfl : j = 32 := by have := hj.out; omega
      have c1 : decide (((32 : Nat) : Int) < 32) = false := by decide
      clear hlt
      have hX : X = ⟨(hexL l).toArray⟩ := by
        have h1 := hj.out.2
        rw [List.take_of_length_le (by rw [HL.out.2.1]; exact Nat.le_refl _)] at h1
        have h2 : X.data = (hexL l).toArray := by rw [← h1]
        cases X; cases h2; rfl
      obtain ⟨XS, hXS⟩ : ∃ XS, strOfNums (stBytes s) = XS := ⟨_, rfl⟩
      have HCV : Hid (∀ W : World, W.heap[g]? = some (.cells O 24 (0, 0)) → (convert 27 9 (.slice (some ⟨g, 0, none⟩) 32 32)).run Try.prog W = .ok (.string XS) W) := fun W h => by
        rw [← HO.out] at h
        rw [← hXS]
        exact conv24 s h
      have HRO : Hid (∀ W : World, Calls Try.prog 10 #[.string a] W fun e w' => e = .returned (.string XS) ∧ Turn Nope W w') := fun W => by
        have h := refOf_any a (by omega) W
        rw [HSS.out, hXS] at h
        exact h
      have HHX : Hid (∀ W : World, Calls Try.prog 11 #[.agg O] W fun e w' => e = .returned (.string X) ∧ Turn Nope W w') := fun W => by
        have h := hexof_any s W
        rw [HO.out, HLL.out, ← hX] at h
        exact h
      clear hX hXS hj
      go_wp2_with fail
      refine wp_region_held_drew (S := fun W => W.heap[g]? = some (.cells O 24 (0, 0))) (by kernel_rfl) hS.out.1 (fun hHeld => ?_)
      refine wpAnyH_ready (rs := [0]) (by kernel_rfl) (by simp) (AllReadyH.cons (by simp only [List.getElem?_toArray, List.getElem?_cons_succ, List.getElem?_cons_zero]; rfl) (fun K hK => ?_) AllReadyH.nil)
      go_simp
      go_at_call 9
      refine (awake_any _).mono ?_
      rintro e wN0 ⟨rfl, ht0⟩
      have HN0 := Lib.hid ht0
      clear ht0
      try go_wp2_with fail
      refine hK.out _ _ ?_ (fun hHeld => ?_)
      · exact HN0.out.blk hHeld fun h => h
      clear hK K
      try simp only [Act.put, List.setIfInBounds_toArray, List.set_cons_zero, List.set_cons_succ]
      refine' wpAnyH_take (i := 1) (v := _) (by simp only [List.getElem?_toArray, List.getElem?_cons_succ, List.getElem?_cons_zero]; rfl) (by kernel_rfl) (by kernel_rfl) (by kernel_rfl) (by intro _ _ _ h; exact h) (Or.inl ⟨by rfl, ?hyz1⟩) hHeld ?restz1
      case hyz1 => (intro w hSw; (try dsimp only at hSw); go_simp; try (with_reducible rfl))
      simp only [Act.put, List.setIfInBounds_toArray, List.set_cons_zero, List.set_cons_succ]
      refine' wpAnyH_take (i := 2) (v := _) (by simp only [List.getElem?_toArray, List.getElem?_cons_succ, List.getElem?_cons_zero]; rfl) (by kernel_rfl) (by kernel_rfl) (by kernel_rfl) (by intro _ _ _ h; exact h) (Or.inl ⟨by rfl, ?hyz2⟩) hHeld ?restz2
      case hyz2 => (intro w hSw; (try dsimp only at hSw); go_simp; try (with_reducible rfl))
      simp only [Act.put, List.setIfInBounds_toArray, List.set_cons_zero, List.set_cons_succ]
      refine' wpAnyH_take (i := 3) (v := _) (by simp only [List.getElem?_toArray, List.getElem?_cons_succ, List.getElem?_cons_zero]; rfl) (by kernel_rfl) (by kernel_rfl) (by kernel_rfl) (by intro _ _ _ h; exact h) (Or.inl ⟨by rfl, ?hyz3⟩) hHeld ?restz3
      case hyz3 => (intro w hSw; (try dsimp only at hSw); have hcv := HCV.out w hSw; go_simp; try (with_reducible rfl))
      simp only [Act.put, List.setIfInBounds_toArray, List.set_cons_zero, List.set_cons_succ]
      refine' wpAnyH_take (i := 4) (v := _) (by simp only [List.getElem?_toArray, List.getElem?_cons_succ, List.getElem?_cons_zero]; rfl) (by kernel_rfl) (by kernel_rfl) (by kernel_rfl) (by intro _ _ _ h; exact h) (Or.inl ⟨by rfl, ?hyz4⟩) hHeld ?restz4
      case hyz4 => (intro w hSw; (try dsimp only at hSw); go_simp; try (with_reducible rfl))
      simp only [Act.put, List.setIfInBounds_toArray, List.set_cons_zero, List.set_cons_succ]
      refine wpAnyH_ready (rs := [5]) (by kernel_rfl) (by simp) (AllReadyH.cons (by simp only [List.getElem?_toArray, List.getElem?_cons_succ, List.getElem?_cons_zero]; rfl) (fun K hK => ?_) AllReadyH.nil)
      go_simp
      go_at_call 10
      refine (HRO.out _).mono ?_
      rintro e wN1 ⟨rfl, ht1⟩
      have HN1 := Lib.hid ht1
      clear ht1
      try go_wp2_with fail
      refine hK.out _ _ ?_ (fun hHeld => ?_)
      · exact HN1.out.blk hHeld fun h => h
      clear hK K
      try simp only [Act.put, List.setIfInBounds_toArray, List.set_cons_zero, List.set_cons_succ]
      refine' wpAnyH_take (i := 6) (v := _) (by simp only [List.getElem?_toArray, List.getElem?_cons_succ, List.getElem?_cons_zero]; rfl) (by kernel_rfl) (by kernel_rfl) (by kernel_rfl) (by intro _ _ _ h; exact h) (Or.inl ⟨by rfl, ?hyz6⟩) hHeld ?restz6
      case hyz6 => (intro w hSw; (try dsimp only at hSw); go_simp; try (with_reducible rfl))
      simp only [Act.put, List.setIfInBounds_toArray, List.set_cons_zero, List.set_cons_succ]
      refine' wpAnyH_take (i := 7) (v := _) (by simp only [List.getElem?_toArray, List.getElem?_cons_succ, List.getElem?_cons_zero]; rfl) (by kernel_rfl) (by kernel_rfl) (by kernel_rfl) (by intro _ _ _ h; exact h) (Or.inl ⟨by rfl, ?hyz7⟩) hHeld ?restz7
      case hyz7 => (intro w hSw; (try dsimp only at hSw); go_simp; try (with_reducible rfl))
      simp only [Act.put, List.setIfInBounds_toArray, List.set_cons_zero, List.set_cons_succ]
      refine' wpAnyH_take (i := 8) (v := _) (by simp only [List.getElem?_toArray, List.getElem?_cons_succ, List.getElem?_cons_zero]; rfl) (by kernel_rfl) (by kernel_rfl) (by kernel_rfl) (by intro _ _ _ h; exact h) (Or.inl ⟨by rfl, ?hyz8⟩) hHeld ?restz8
      case hyz8 => (intro w hSw; (try dsimp only at hSw); go_simp; try (with_reducible rfl))
      simp only [Act.put, List.setIfInBounds_toArray, List.set_cons_zero, List.set_cons_succ]
      refine wpAnyH_take (i := 9) (by simp only [List.getElem?_toArray, List.getElem?_cons_succ, List.getElem?_cons_zero]; rfl) (by kernel_rfl) (by kernel_rfl) (by kernel_rfl) (by intro _ _ _ h; exact h) (by exact yieldsIf_load_mid (by rfl) _ _ rfl _ _ rfl O.toList _ (fun w h => fun j v hv => by rw [Nat.zero_add, blk_cell h]; simpa using hv) Try.underlying24 rfl (by rw [Array.length_toList, hos]; exact Try.infoSum)) hHeld ?_
      simp only [Act.put, List.setIfInBounds_toArray, List.set_cons_zero, List.set_cons_succ, Array.toArray_toList]
      refine' wpAnyH_take (i := 11) (v := _) (by simp only [List.getElem?_toArray, List.getElem?_cons_succ, List.getElem?_cons_zero]; rfl) (by kernel_rfl) (by kernel_rfl) (by kernel_rfl) (by intro _ _ _ h; exact h) (Or.inl ⟨by rfl, ?hyz11⟩) hHeld ?restz11
      case hyz11 => (intro w hSw; (try dsimp only at hSw); go_simp; try (with_reducible rfl))
      simp only [Act.put, List.setIfInBounds_toArray, List.set_cons_zero, List.set_cons_succ]
      refine wpAnyH_ready (rs := [10]) (by kernel_rfl) (by simp) (AllReadyH.cons (by simp only [List.getElem?_toArray, List.getElem?_cons_succ, List.getElem?_cons_zero]; rfl) (fun K hK => ?_) AllReadyH.nil)
      go_simp
      go_at_call 11
      refine (HHX.out _).mono ?_
      rintro e wN2 ⟨rfl, ht2⟩
      have HN2 := Lib.hid ht2
      clear ht2
      try go_wp2_with fail
      refine hK.out _ _ ?_ (fun hHeld => ?_)
      · exact HN2.out.blk hHeld fun h => h
      clear hK K
      try simp only [Act.put, List.setIfInBounds_toArray, List.set_cons_zero, List.set_cons_succ]
      refine' wpAnyH_take (i := 12) (v := _) (by simp only [List.getElem?_toArray, List.getElem?_cons_succ, List.getElem?_cons_zero]; rfl) (by kernel_rfl) (by kernel_rfl) (by kernel_rfl) (by intro _ _ _ h; exact h) (Or.inl ⟨by rfl, ?hyz12⟩) hHeld ?restz12
      case hyz12 => (intro w hSw; (try dsimp only at hSw); go_simp; try (with_reducible rfl))
      simp only [Act.put, List.setIfInBounds_toArray, List.set_cons_zero, List.set_cons_succ]
      refine' wpAnyH_take (i := 13) (v := _) (by simp only [List.getElem?_toArray, List.getElem?_cons_succ, List.getElem?_cons_zero]; rfl) (by kernel_rfl) (by kernel_rfl) (by kernel_rfl) (by intro _ _ _ h; exact h) (Or.inl ⟨by rfl, ?hyz13⟩) hHeld ?restz13
      case hyz13 => (intro w hSw; (try dsimp only at hSw); go_simp; try (with_reducible rfl))
      simp only [Act.put, List.setIfInBounds_toArray, List.set_cons_zero, List.set_cons_succ]
      refine' wpAnyH_take (i := 14) (v := _) (by simp only [List.getElem?_toArray, List.getElem?_cons_succ, List.getElem?_cons_zero]; rfl) (by kernel_rfl) (by kernel_rfl) (by kernel_rfl) (by intro _ _ _ h; exact h) (Or.inl ⟨by rfl, ?hyz14⟩) hHeld ?restz14
      case hyz14 => (intro w hSw; (try dsimp only at hSw); go_simp; try (with_reducible rfl))
      simp only [Act.put, List.setIfInBounds_toArray, List.set_cons_zero, List.set_cons_succ]
      refine wpAnyH_done (by kernel_rfl) ?_ _
      have HF : Hid (Turn Nope w1 wN2) := (((hS.out.2.drew).trans HN0.out).trans HN1.out).trans HN2.out
      go_wp2_with fail
      go_ret
      exact ⟨rfl, HF.out.nopeBelow⟩
end Go.Proofs.Ytojfknogdknhkaa
