/- Do, walked. -/
import Derived.Test.YtianagpneoopeaaSck
import Derived.Deep.CutBlock
set_option maxRecDepth 16000
set_option linter.unusedVariables false
set_option linter.unusedSimpArgs false
namespace Go.Proofs.Ytianagpneoopeaa
open Go.RowKit Go.Maps
variable {C : Nm → Int} {K : List Nm} {w0 w w' : World} {s mb n : Nat} {D : Dm} {o : Op3}
theorem CntM.mono (h : CntM w mb n D C K) {n' : Nat} (hn : n ≤ n') : CntM w mb n' D C K := ⟨h.own.mono hn, h.val, h.has, h.len⟩
theorem Sh.none (h : Sh w0 w s mb n C K) (hd : doE C K o ≠ 0) : Sh w0 w s mb (n + 1) (doC C K o) (doK C K o) := by
  unfold doC doK
  rw [if_neg hd, if_neg hd]
  obtain ⟨D, hD⟩ := h.map
  exact ⟨h.hs, h.los, h.lom, ⟨D, hD.mono (Nat.le_succ n)⟩, h.good⟩
theorem Sh.put {w5 : World} (h : Sh w0 w s mb n C K) (hD : CntM w mb n D C K) (hd : doE C K o = 0) (hv : newC C o o.nm ≠ 0) (hown : w5.ownsMap Try.prog 9 (plainElem (H := Unit) Try.prog 3) mb (n + 1) (D.put (.string o.nm) (.lit (.int .i64 (newC C o o.nm))))) (hg : w.grownBy w5 (some mb)) : Sh w0 w5 s mb (n + 1) (doC C K o) (doK C K o) := by
  unfold doC doK
  rw [if_pos hd, if_pos hd]
  have hin : o.nm ∈ K ↔ C o.nm ≠ 0 := h.good.mem _
  have hK : newK C K o = if o.nm ∈ K then K else o.nm :: K := by
    rw [newC_at] at hv
    unfold newK
    have ht := (doE_ok hd).2.2.2.2.2.1
    by_cases hk : o.k = 2
    · rw [if_pos hk] at hv ⊢
      have ht := ht hk
      rw [if_neg (by omega), if_pos (hin.2 ht.1)]
    · rw [if_neg hk]
      by_cases h0 : C o.nm = 0
      · rw [if_pos h0, if_neg fun e => hin.1 e h0]
      · rw [if_neg h0, if_pos (hin.2 h0)]
  have hC : (fun y => if y = o.nm then newC C o o.nm else C y) = newC C o := by
    funext y
    by_cases hy : y = o.nm
    · rw [if_pos hy, hy]
    · rw [if_neg hy, newC_far hy]
  have h1 := hD.put hv hown hK
  rw [hC] at h1
  exact ⟨blk_grown h.hs hg (fun e => by injection e with e; exact h.ne e.symm), h.los, h.lom, ⟨_, h1⟩, h.good.put hd⟩
theorem Sh.del {w5 : World} (h : Sh w0 w s mb n C K) (hD : CntM w mb n D C K) (hd : doE C K o = 0) (hk : o.k = 2) (hv : C o.nm = o.N) (hown : w5.ownsMap Try.prog 9 (plainElem (H := Unit) Try.prog 3) mb n (D.del (.string o.nm))) (hg : w.grownBy w5 (some mb)) : Sh w0 w5 s mb (n + 1) (doC C K o) (doK C K o) := by
  unfold doC doK
  rw [if_pos hd, if_pos hd]
  have hK : newK C K o = K.erase o.nm := by unfold newK; rw [if_pos hk, if_pos hv]
  have hC : (fun y => if y = o.nm then 0 else C y) = newC C o := by
    funext y
    by_cases hy : y = o.nm
    · rw [if_pos hy, hy, newC_at, if_pos hk, hv]; omega
    · rw [if_neg hy, newC_far hy]
  have h1 := hD.del h.good.nd hown
  rw [hC] at h1
  have hgood := h.good.put hd
  rw [hK] at hgood ⊢
  exact ⟨blk_grown h.hs hg (fun e => by injection e with e; exact h.ne e.symm), h.los, h.lom, ⟨_, h1.mono (Nat.le_succ n)⟩, hgood⟩
theorem doE_chk (h : chk o ≠ 0) : doE C K o = chk o := by unfold doE; rw [if_pos h]
theorem wf_small {v : Int} (h0 : 0 ≤ v) (h1 : v ≤ 4398046511104) : (Lit.int .i64 v).wf = true := by
  have a : IntKind.i64.min ≤ v := Int.le_trans (by decide) h0
  have b : v ≤ IntKind.i64.max := Int.le_trans h1 (by decide)
  show (decide (_ ≤ _) && decide (_ ≤ _)) = true
  rw [decide_eq_true a, decide_eq_true b]; rfl
set_option maxHeartbeats 8000000 in
theorem do_any (h : Sh w0 w s mb n C K) (hn : n ≤ 1000000) (kd N : Int) (x : ByteArray) (hx : x.size ≤ maxLen) :
    Calls Try.prog 8 #[.pointer (some ⟨s, 0, none⟩), .agg #[.int .i64 kd, .string x, .int .i64 N]] w fun e w' => e = .returned (.int .i64 (doE C K ⟨kd, nmOf x, N⟩)) ∧ Sh w0 w' s mb (n + 1) (doC C K ⟨kd, nmOf x, N⟩) (doK C K ⟨kd, nmOf x, N⟩) ∧ Turn (At mb) w w' := by
  obtain ⟨R, hR⟩ : ∃ R, doE C K ⟨kd, nmOf x, N⟩ = R := ⟨_, rfl⟩
  rw [hR]
  have HR := Lib.hid hR
  have H0 := Lib.hid h
  have HN := Lib.hid (And.intro hn hx)
  clear hR h hn hx
  go_enter Try.func8, Try.ntmps8
  go_wp2_with fail
  have HB0 := Lib.hid (blk_new w (.cells #[.int .i64 kd, .string x, .int .i64 N] 28))
  obtain ⟨B, hB⟩ : ∃ B, w.heap.size = B := ⟨_, rfl⟩
  refine (check_any kd x N _).mono ?_
  rintro e w1 ⟨rfl, ht⟩
  have HB1 : Hid (w1.heap[B]? = some (.cells #[.int .i64 kd, .string x, .int .i64 N] 28 (0, 0))) := by rw [← hB]; exact ht.blk HB0.out fun h => h
  have HT1 : Hid (Turn Nope w w1) := ((Turn.refl _ _).alloc _).trans ht
  rw [hB]
  clear hB ht HB0
  have H1 := Lib.hid (H0.out.nope HT1.out)
  obtain ⟨c, hc⟩ : ∃ c, chk ⟨kd, nmOf x, N⟩ = c := ⟨_, rfl⟩
  rw [hc]
  have HC := Lib.hid hc
  clear hc
  by_cases hc0 : c = 0
  · obtain ⟨D, hD⟩ := H1.out.map
    have HD := Lib.hid hD
    have z0 : (c != 0) = false := by simp [hc0]
    have HC0 : Hid (chk ⟨kd, nmOf x, N⟩ = 0) := by rw [HC.out]; exact hc0
    have hkd : kd = 1 ∨ kd = 2 := by
      have h1 := HC0.out
      unfold chk at h1
      by_cases h2 : kd ≠ 1 ∧ kd ≠ 2
      · rw [if_pos h2] at h1; cases h1
      · omega
    have HNB : Hid (1 ≤ N ∧ N ≤ 1099511627776) := by
      have h1 := HC0.out
      unfold chk at h1
      by_cases h2 : kd ≠ 1 ∧ kd ≠ 2
      · rw [if_pos h2] at h1; cases h1
      · rw [if_neg h2] at h1
        by_cases h3 : nmOf x = [] ∨ 12 < (nmOf x).length ∨ N < 1 ∨ 1099511627776 < N
        · rw [if_pos h3] at h1; cases h1
        · exact ⟨by omega, by omega⟩
    obtain ⟨T, hT⟩ : ∃ T, Maps.has D (.string (nmOf x)) = T := ⟨_, rfl⟩
    obtain ⟨v0, hv0⟩ : ∃ v0, C (nmOf x) = v0 := ⟨_, rfl⟩
    have HT : Hid (T = true ↔ v0 ≠ 0) := by
      rw [← hT, ← hv0, HD.out.has]
      exact H1.out.good.mem _
    have HV : Hid (0 ≤ v0 ∧ v0 ≤ 1099511627776 ∧ C (nmOf x) = v0) := by
      rw [← hv0]; exact ⟨H1.out.good.lo _, H1.out.good.hi _, rfl⟩
    have lk : (Instr.lookup 43 (.map (some mb)) (.string x) true).run Try.prog w1 = .ok (.tuple #[.int .i64 v0, .bool T]) w1 := by
      rw [← hT, ← hv0]; exact HD.out.look HN.out.2
    have lk2 : (Instr.lookup 43 (.map (some mb)) (.string x) true).run Try.prog w1.drew = .ok (.tuple #[.int .i64 v0, .bool T]) w1.drew := by
      rw [← hT, ← hv0]; exact (HD.out.turn (Turn.refl Nope w1).drew fun h => h).look HN.out.2
    have c0 := H1.out.cell
    have b0 := blk_cell HB1.out 0
    have b1 := blk_cell HB1.out 1
    have b2 := blk_cell HB1.out 2
    simp only [List.getElem?_toArray, List.getElem?_cons_zero, List.getElem?_cons_succ] at b0 b1 b2
    have hkey : keyOf Try.prog 9 (.string x) = some (.string (nmOf x)) := Go.WideMaps.keyOf_string_mk Try.underlying9 HN.out.2
    clear hD hc0 hT hv0
    go_upto_region 4 with (fail)
    refine wp_region_held_drew (S := fun W => W.cell? ⟨s, 0, none⟩ = some (.map (some mb)) ∧ W.cell? ⟨B, 1, none⟩ = some (.string x) ∧ (Instr.lookup 43 (.map (some mb)) (.string x) true).run Try.prog W = .ok (.tuple #[.int .i64 v0, .bool T]) W) (by kernel_rfl) ⟨c0, b1, lk2⟩ (fun hHeld => ?_)
    refine' wpAnyH_take (i := 0) (v := _) (by simp only [List.getElem?_toArray, List.getElem?_cons_succ, List.getElem?_cons_zero]; rfl) (by kernel_rfl) (by kernel_rfl) (by kernel_rfl) (by intro _ _ _ h; exact h) (Or.inl ⟨by rfl, ?hyr40⟩) hHeld ?restr40
    case hyr40 => (intro w hSw; (try dsimp only at hSw); go_simp; try (with_reducible rfl))
    simp only [Act.put, List.setIfInBounds_toArray, List.set_cons_zero, List.set_cons_succ]
    refine' wpAnyH_take (i := 1) (v := _) (by simp only [List.getElem?_toArray, List.getElem?_cons_succ, List.getElem?_cons_zero]; rfl) (by kernel_rfl) (by kernel_rfl) (by kernel_rfl) (by intro _ _ _ h; exact h) (Or.inl ⟨by rfl, ?hyr41⟩) hHeld ?restr41
    case hyr41 => (intro w hSw; (try dsimp only at hSw); go_simp; try (with_reducible rfl))
    simp only [Act.put, List.setIfInBounds_toArray, List.set_cons_zero, List.set_cons_succ]
    refine' wpAnyH_take (i := 2) (v := _) (by simp only [List.getElem?_toArray, List.getElem?_cons_succ, List.getElem?_cons_zero]; rfl) (by kernel_rfl) (by kernel_rfl) (by kernel_rfl) (by intro _ _ _ h; exact h) (Or.inl ⟨by rfl, ?hyr42⟩) hHeld ?restr42
    case hyr42 => (intro w hSw; (try dsimp only at hSw); go_simp; try (with_reducible rfl))
    simp only [Act.put, List.setIfInBounds_toArray, List.set_cons_zero, List.set_cons_succ]
    refine' wpAnyH_take (i := 3) (v := _) (by simp only [List.getElem?_toArray, List.getElem?_cons_succ, List.getElem?_cons_zero]; rfl) (by kernel_rfl) (by kernel_rfl) (by kernel_rfl) (by intro _ _ _ h; exact h) (Or.inl ⟨by rfl, ?hyr43⟩) hHeld ?restr43
    case hyr43 => (intro w hSw; (try dsimp only at hSw); go_simp; try (with_reducible rfl))
    simp only [Act.put, List.setIfInBounds_toArray, List.set_cons_zero, List.set_cons_succ]
    refine' wpAnyH_take (i := 4) (v := _) (by simp only [List.getElem?_toArray, List.getElem?_cons_succ, List.getElem?_cons_zero]; rfl) (by kernel_rfl) (by kernel_rfl) (by kernel_rfl) (by intro _ _ _ h; exact h) (Or.inl ⟨by rfl, ?hyr44⟩) hHeld ?restr44
    case hyr44 => (intro w hSw; (try dsimp only at hSw); go_simp; try (with_reducible rfl))
    simp only [Act.put, List.setIfInBounds_toArray, List.set_cons_zero, List.set_cons_succ]
    refine' wpAnyH_take (i := 5) (v := _) (by simp only [List.getElem?_toArray, List.getElem?_cons_succ, List.getElem?_cons_zero]; rfl) (by kernel_rfl) (by kernel_rfl) (by kernel_rfl) (by intro _ _ _ h; exact h) (Or.inl ⟨by rfl, ?hyr45⟩) hHeld ?restr45
    case hyr45 => (intro w hSw; (try dsimp only at hSw); go_simp; try (with_reducible rfl))
    simp only [Act.put, List.setIfInBounds_toArray, List.set_cons_zero, List.set_cons_succ]
    refine' wpAnyH_take (i := 6) (v := _) (by simp only [List.getElem?_toArray, List.getElem?_cons_succ, List.getElem?_cons_zero]; rfl) (by kernel_rfl) (by kernel_rfl) (by kernel_rfl) (by intro _ _ _ h; exact h) (Or.inl ⟨by rfl, ?hyr46⟩) hHeld ?restr46
    case hyr46 => (intro w hSw; (try dsimp only at hSw); go_simp; try (with_reducible rfl))
    simp only [Act.put, List.setIfInBounds_toArray, List.set_cons_zero, List.set_cons_succ]
    refine' wpAnyH_take (i := 7) (v := _) (by simp only [List.getElem?_toArray, List.getElem?_cons_succ, List.getElem?_cons_zero]; rfl) (by kernel_rfl) (by kernel_rfl) (by kernel_rfl) (by intro _ _ _ h; exact h) (Or.inl ⟨by rfl, ?hyr47⟩) hHeld ?restr47
    case hyr47 => (intro w hSw; (try dsimp only at hSw); go_simp; try (with_reducible rfl))
    simp only [Act.put, List.setIfInBounds_toArray, List.set_cons_zero, List.set_cons_succ]
    refine' wpAnyH_take (i := 8) (v := _) (by simp only [List.getElem?_toArray, List.getElem?_cons_succ, List.getElem?_cons_zero]; rfl) (by kernel_rfl) (by kernel_rfl) (by kernel_rfl) (by intro _ _ _ h; exact h) (Or.inl ⟨by rfl, ?hyr48⟩) hHeld ?restr48
    case hyr48 => (intro w hSw; (try dsimp only at hSw); go_simp; try (with_reducible rfl))
    simp only [Act.put, List.setIfInBounds_toArray, List.set_cons_zero, List.set_cons_succ]
    refine' wpAnyH_take (i := 9) (v := _) (by simp only [List.getElem?_toArray, List.getElem?_cons_succ, List.getElem?_cons_zero]; rfl) (by kernel_rfl) (by kernel_rfl) (by kernel_rfl) (by intro _ _ _ h; exact h) (Or.inl ⟨by rfl, ?hyr49⟩) hHeld ?restr49
    case hyr49 => (intro w hSw; (try dsimp only at hSw); go_simp; try (with_reducible rfl))
    simp only [Act.put, List.setIfInBounds_toArray, List.set_cons_zero, List.set_cons_succ]
    refine' wpAnyH_take (i := 10) (v := _) (by simp only [List.getElem?_toArray, List.getElem?_cons_succ, List.getElem?_cons_zero]; rfl) (by kernel_rfl) (by kernel_rfl) (by kernel_rfl) (by intro _ _ _ h; exact h) (Or.inl ⟨by rfl, ?hyr410⟩) hHeld ?restr410
    case hyr410 => (intro w hSw; (try dsimp only at hSw); go_simp; try (with_reducible rfl))
    simp only [Act.put, List.setIfInBounds_toArray, List.set_cons_zero, List.set_cons_succ]
    refine' wpAnyH_take (i := 11) (v := _) (by simp only [List.getElem?_toArray, List.getElem?_cons_succ, List.getElem?_cons_zero]; rfl) (by kernel_rfl) (by kernel_rfl) (by kernel_rfl) (by intro _ _ _ h; exact h) (Or.inl ⟨by rfl, ?hyr411⟩) hHeld ?restr411
    case hyr411 => (intro w hSw; (try dsimp only at hSw); go_simp; try (with_reducible rfl))
    simp only [Act.put, List.setIfInBounds_toArray, List.set_cons_zero, List.set_cons_succ]
    refine wpAnyH_done (by kernel_rfl) ?_ _
    clear hHeld lk lk2
    have H2 := Lib.hid (H1.out.nope (Turn.refl Nope w1).drew)
    have HT2 := Lib.hid (HT1.out.trans (Turn.refl Nope w1).drew)
    have HD2 := Lib.hid (HD.out.turn (Turn.refl Nope w1).drew fun h => h)
    have c0 : w1.drew.cell? ⟨s, 0, none⟩ = some (.map (some mb)) := c0
    have b0 : w1.drew.cell? ⟨B, 0, none⟩ = _ := b0
    have b1 : w1.drew.cell? ⟨B, 1, none⟩ = _ := b1
    have b2 : w1.drew.cell? ⟨B, 2, none⟩ = _ := b2
    clear H1 HT1 HD HB1
    generalize w1.drew = w2 at *
    rcases hkd with rfl | rfl
    · have k2 : ((1 : Int) == 2) = false := by decide
      have hlen : (Builtin.len_ #[43] 3 #[.map (some mb)]).run Try.prog w2 = .ok (.int .i64 (K.length : Int)) w2 := by rw [← HD2.out.len]; exact HD2.out.own.len Try.underlying43 3
      have hlen2 : (Builtin.len_ #[43] 3 #[.map (some mb)]).run Try.prog w2.drew = .ok (.int .i64 (K.length : Int)) w2.drew := by rw [← HD2.out.len]; exact (HD2.out.turn (Turn.refl Nope w2).drew fun h => h).own.len Try.underlying43 3
      by_cases h0 : v0 = 0
      · have hTf : T = false := by cases T with | false => rfl | true => exact absurd h0 (HT.out.1 rfl)
        subst hTf
        by_cases h1 : 16 ≤ K.length
        · have e1 : decide ((16 : Int) ≤ (K.length : Int)) = true := by simp; omega
          have e1n : decide (16 ≤ K.length) = true := by simp; omega
          have HE : Hid (R = 7 ∧ doE C K ⟨1, nmOf x, N⟩ ≠ 0) := by
            have h2 : doE C K ⟨1, nmOf x, N⟩ = 7 := by unfold doE; rw [if_neg (by rw [HC0.out]; simp), if_neg (show ¬ (1 : Int) = 2 by decide)]; simp only [HV.out.2.2]; rw [if_pos ⟨h0, h1⟩]
            rw [← HR.out, h2]; exact ⟨rfl, by decide⟩
          clear h0 h1
          go_wp2_with (go_quiet (fail))
          all_goals
            go_ret
            exact ⟨by rw [HE.out.1]; rfl, (H2.out.nope (by repeat (first | exact Turn.refl _ _ | apply Turn.drewN | apply Turn.drew))).none HE.out.2, (HT2.out.trans (by repeat (first | exact Turn.refl _ _ | apply Turn.drewN | apply Turn.drew))).mono fun _ h => h.elim⟩
        · have e1 : decide ((16 : Int) ≤ (K.length : Int)) = false := by simp; omega
          have e1n : decide (16 ≤ K.length) = false := by simp; omega
          have e2 : decide (1099511627776 < v0 + N) = false := by have := HNB.out; simp; omega
          have HE : Hid (R = 0 ∧ doE C K ⟨1, nmOf x, N⟩ = 0) := by
            have h2 : doE C K ⟨1, nmOf x, N⟩ = 0 := by unfold doE; rw [if_neg (by rw [HC0.out]; simp), if_neg (show ¬ (1 : Int) = 2 by decide)]; simp only [HV.out.2.2]; rw [if_neg (fun h => h1 h.2), if_neg (by have := HNB.out; omega)]
            rw [← HR.out]; exact ⟨h2, h2⟩
          obtain ⟨v, hv⟩ : ∃ v, v0 + N = v := ⟨_, rfl⟩
          have hvr : 1 ≤ v ∧ v ≤ 4398046511104 := by have := HV.out; have := HNB.out; omega
          have hw : wrap64 (v0 + N) = v := by rw [hv]; exact IntWalk.wrap64_in _ ⟨by omega, by omega⟩
          have hw' : IntKind.i64.wrap (v0 + N) = v := by rw [hv]; exact IntWalk.i64_in _ ⟨by omega, by omega⟩
          have HVV : Hid (newC C ⟨1, nmOf x, N⟩ (nmOf x) = v ∧ v ≠ 0) := ⟨by rw [← hv, ← HV.out.2.2]; exact newC_at (o := ⟨1, nmOf x, N⟩), by omega⟩
          have HVW := Lib.hid (wf_small (v := v) (by omega) (by omega))
          have e2v : decide (1099511627776 < v) = false := by rw [← hv]; exact e2
          clear h0 h1 hv
          go_wp2_with (first | (refine still_tail (id := 19) 10 (by kernel_rfl) (by kernel_rfl) ?_; simp only [List.take_succ_cons, List.take_zero, List.drop_succ_cons, List.drop_zero]; (repeat still_step); refine wpStill_nil ?_) | (at_mapUpdate; go_loud (refine wpList_mapUpdate_own _ rfl _ _ _ 43 rfl 9 3 law9 Try.underlying43 (plainElem (H := Unit) Try.prog 3) mb n D rfl (show _ from HD2.out.own) (by have := HN.out.1; show n < maxLen; unfold maxLen; omega) _ _ (.string (nmOf x)) rfl rfl hkey (.lit (.int .i64 v)) [] (plainElem_int Try.underlying3 HVW.out) ?_; intro w5 hown1 hgrow1; have HO5 := Lib.hid hown1; have HG5 : Hid (w2.grownBy w5 (some mb)) := ⟨hgrow1.os, hgrow1.tape, hgrow1.output, hgrow1.size, hgrow1.block⟩; clear hown1 hgrow1)) | (go_quiet (fail)))
          all_goals
            go_ret
            exact ⟨by rw [HE.out.1]; rfl, H2.out.put HD2.out HE.out.2 (by rw [HVV.out.1]; exact HVV.out.2) (by rw [HVV.out.1]; exact HO5.out) HG5.out, (HT2.out.mono (S' := At mb) fun _ h => h.elim).grown HG5.out (fun k hk => .inl (by injection hk with hk; exact hk.symm))⟩
      · have hTt : T = true := HT.out.2 h0
        subst hTt
        by_cases h1 : 1099511627776 < v0 + N
        · have hs : wrap64 (v0 + N) = v0 + N := IntWalk.wrap64_in _ ⟨by have := HV.out; have := HNB.out; omega, by have := HV.out; have := HNB.out; omega⟩
          have hs' : IntKind.i64.wrap (v0 + N) = v0 + N := IntWalk.i64_in _ ⟨by have := HV.out; have := HNB.out; omega, by have := HV.out; have := HNB.out; omega⟩
          have e2 : decide (1099511627776 < v0 + N) = true := by simpa using h1
          have HE : Hid (R = 10 ∧ doE C K ⟨1, nmOf x, N⟩ ≠ 0) := by
            have h2 : doE C K ⟨1, nmOf x, N⟩ = 10 := by unfold doE; rw [if_neg (by rw [HC0.out]; simp), if_neg (show ¬ (1 : Int) = 2 by decide)]; simp only [HV.out.2.2]; rw [if_neg (fun h => h0 h.1), if_pos h1]
            rw [← HR.out, h2]; exact ⟨rfl, by decide⟩
          clear h0 h1
          go_wp2_with (go_quiet (fail))
          all_goals
            go_ret
            exact ⟨by rw [HE.out.1]; rfl, (H2.out.nope (by repeat (first | exact Turn.refl _ _ | apply Turn.drewN | apply Turn.drew))).none HE.out.2, (HT2.out.trans (by repeat (first | exact Turn.refl _ _ | apply Turn.drewN | apply Turn.drew))).mono fun _ h => h.elim⟩
        · have e2 : decide (1099511627776 < v0 + N) = false := by simpa using h1
          have HE : Hid (R = 0 ∧ doE C K ⟨1, nmOf x, N⟩ = 0) := by
            have h2 : doE C K ⟨1, nmOf x, N⟩ = 0 := by unfold doE; rw [if_neg (by rw [HC0.out]; simp), if_neg (show ¬ (1 : Int) = 2 by decide)]; simp only [HV.out.2.2]; rw [if_neg (fun h => h0 h.1), if_neg h1]
            rw [← HR.out]; exact ⟨h2, h2⟩
          obtain ⟨v, hv⟩ : ∃ v, v0 + N = v := ⟨_, rfl⟩
          have hvr : 1 ≤ v ∧ v ≤ 4398046511104 := by have := HV.out; have := HNB.out; omega
          have hw : wrap64 (v0 + N) = v := by rw [hv]; exact IntWalk.wrap64_in _ ⟨by omega, by omega⟩
          have hw' : IntKind.i64.wrap (v0 + N) = v := by rw [hv]; exact IntWalk.i64_in _ ⟨by omega, by omega⟩
          have HVV : Hid (newC C ⟨1, nmOf x, N⟩ (nmOf x) = v ∧ v ≠ 0) := ⟨by rw [← hv, ← HV.out.2.2]; exact newC_at (o := ⟨1, nmOf x, N⟩), by omega⟩
          have HVW := Lib.hid (wf_small (v := v) (by omega) (by omega))
          have e2v : decide (1099511627776 < v) = false := by rw [← hv]; exact e2
          clear h0 h1 hv
          go_wp2_with (first | (refine still_tail (id := 19) 10 (by kernel_rfl) (by kernel_rfl) ?_; simp only [List.take_succ_cons, List.take_zero, List.drop_succ_cons, List.drop_zero]; (repeat still_step); refine wpStill_nil ?_) | (at_mapUpdate; go_loud (refine wpList_mapUpdate_own _ rfl _ _ _ 43 rfl 9 3 law9 Try.underlying43 (plainElem (H := Unit) Try.prog 3) mb n D rfl (show _ from HD2.out.own) (by have := HN.out.1; show n < maxLen; unfold maxLen; omega) _ _ (.string (nmOf x)) rfl rfl hkey (.lit (.int .i64 v)) [] (plainElem_int Try.underlying3 HVW.out) ?_; intro w5 hown1 hgrow1; have HO5 := Lib.hid hown1; have HG5 : Hid (w2.grownBy w5 (some mb)) := ⟨hgrow1.os, hgrow1.tape, hgrow1.output, hgrow1.size, hgrow1.block⟩; clear hown1 hgrow1)) | (go_quiet (fail)))
          all_goals
            go_ret
            exact ⟨by rw [HE.out.1]; rfl, H2.out.put HD2.out HE.out.2 (by rw [HVV.out.1]; exact HVV.out.2) (by rw [HVV.out.1]; exact HO5.out) HG5.out, (HT2.out.mono (S' := At mb) fun _ h => h.elim).grown HG5.out (fun k hk => .inl (by injection hk with hk; exact hk.symm))⟩
    · have k2 : ((2 : Int) == 2) = true := by decide
      by_cases h0 : v0 = 0
      · have hTf : T = false := by cases T with | false => rfl | true => exact absurd h0 (HT.out.1 rfl)
        subst hTf
        have HE : Hid (R = 8 ∧ doE C K ⟨2, nmOf x, N⟩ ≠ 0) := by
          have h2 : doE C K ⟨2, nmOf x, N⟩ = 8 := by unfold doE; rw [if_neg (by rw [HC0.out]; simp), if_pos rfl]; simp only [HV.out.2.2]; rw [if_pos h0]
          rw [← HR.out, h2]; exact ⟨rfl, by decide⟩
        clear h0
        go_wp2_with (go_quiet (fail))
        all_goals
          go_ret
          exact ⟨by rw [HE.out.1]; rfl, (H2.out.nope (by repeat (first | exact Turn.refl _ _ | apply Turn.drewN | apply Turn.drew))).none HE.out.2, (HT2.out.trans (by repeat (first | exact Turn.refl _ _ | apply Turn.drewN | apply Turn.drew))).mono fun _ h => h.elim⟩
      · have hTt : T = true := HT.out.2 h0
        subst hTt
        by_cases h1 : v0 < N
        · have e1 : decide (v0 < N) = true := by simpa using h1
          have HE : Hid (R = 11 ∧ doE C K ⟨2, nmOf x, N⟩ ≠ 0) := by
            have h2 : doE C K ⟨2, nmOf x, N⟩ = 11 := by unfold doE; rw [if_neg (by rw [HC0.out]; simp), if_pos rfl]; simp only [HV.out.2.2]; rw [if_neg h0, if_pos h1]
            rw [← HR.out, h2]; exact ⟨rfl, by decide⟩
          clear h0 h1
          go_wp2_with (go_quiet (fail))
          all_goals
            go_ret
            exact ⟨by rw [HE.out.1]; rfl, (H2.out.nope (by repeat (first | exact Turn.refl _ _ | apply Turn.drewN | apply Turn.drew))).none HE.out.2, (HT2.out.trans (by repeat (first | exact Turn.refl _ _ | apply Turn.drewN | apply Turn.drew))).mono fun _ h => h.elim⟩
        · have e1 : decide (v0 < N) = false := by simpa using h1
          by_cases h2 : v0 = N
          · have e2 : (v0 == N) = true := by simpa using h2
            have HE : Hid (R = 0 ∧ doE C K ⟨2, nmOf x, N⟩ = 0) := by
              have h2 : doE C K ⟨2, nmOf x, N⟩ = 0 := by unfold doE; rw [if_neg (by rw [HC0.out]; simp), if_pos rfl]; simp only [HV.out.2.2]; rw [if_neg h0, if_neg h1]
              rw [← HR.out]; exact ⟨h2, h2⟩
            have HVN : Hid (C (nmOf x) = N) := by rw [HV.out.2.2]; exact h2
            clear h0 h1 h2
            go_wp2_with (first | (refine still_tail (id := 10) 6 (by kernel_rfl) (by kernel_rfl) ?_; simp only [List.take_succ_cons, List.take_zero, List.drop_succ_cons, List.drop_zero]; (repeat still_step); refine wpStill_nil ?_) | (at_delete; refine wpList_delete_own _ rfl _ _ 43 9 rfl 3 law9 Try.underlying43 (plainElem (H := Unit) Try.prog 3) mb n D rfl (show _ from HD2.out.own) _ _ rfl hkey ?_; intro w5 hown1 hturn1; have HO5 := Lib.hid hown1; have HG5 : Hid (w2.grownBy w5 (some mb)) := ⟨hturn1.grown.os, hturn1.grown.tape, hturn1.grown.output, hturn1.grown.size, hturn1.grown.block⟩; clear hown1 hturn1) | (go_quiet (fail)))
            all_goals
              go_ret
              exact ⟨by rw [HE.out.1]; rfl, H2.out.del HD2.out HE.out.2 rfl HVN.out HO5.out HG5.out, (HT2.out.mono (S' := At mb) fun _ h => h.elim).grown HG5.out (fun k hk => .inl (by injection hk with hk; exact hk.symm))⟩
          · have e2 : (v0 == N) = false := by simpa using h2
            have HE : Hid (R = 0 ∧ doE C K ⟨2, nmOf x, N⟩ = 0) := by
              have h2 : doE C K ⟨2, nmOf x, N⟩ = 0 := by unfold doE; rw [if_neg (by rw [HC0.out]; simp), if_pos rfl]; simp only [HV.out.2.2]; rw [if_neg h0, if_neg h1]
              rw [← HR.out]; exact ⟨h2, h2⟩
            obtain ⟨v, hv⟩ : ∃ v, v0 - N = v := ⟨_, rfl⟩
            have hvr : 1 ≤ v ∧ v ≤ 4398046511104 := by have := HV.out; have := HNB.out; omega
            have hw : wrap64 (v0 - N) = v := by rw [hv]; exact IntWalk.wrap64_in _ ⟨by omega, by omega⟩
            have hw' : IntKind.i64.wrap (v0 - N) = v := by rw [hv]; exact IntWalk.i64_in _ ⟨by omega, by omega⟩
            have HVV : Hid (newC C ⟨2, nmOf x, N⟩ (nmOf x) = v ∧ v ≠ 0) := ⟨by rw [← hv, ← HV.out.2.2]; exact newC_at (o := ⟨2, nmOf x, N⟩), by omega⟩
            have HVW := Lib.hid (wf_small (v := v) (by omega) (by omega))
            clear h0 h1 h2 hv
            go_wp2_with (first | (refine still_tail (id := 13) 10 (by kernel_rfl) (by kernel_rfl) ?_; simp only [List.take_succ_cons, List.take_zero, List.drop_succ_cons, List.drop_zero]; (repeat still_step); refine wpStill_nil ?_) | (at_mapUpdate; go_loud (refine wpList_mapUpdate_own _ rfl _ _ _ 43 rfl 9 3 law9 Try.underlying43 (plainElem (H := Unit) Try.prog 3) mb n D rfl (show _ from HD2.out.own) (by have := HN.out.1; show n < maxLen; unfold maxLen; omega) _ _ (.string (nmOf x)) rfl rfl hkey (.lit (.int .i64 v)) [] (plainElem_int Try.underlying3 HVW.out) ?_; intro w5 hown1 hgrow1; have HO5 := Lib.hid hown1; have HG5 : Hid (w2.grownBy w5 (some mb)) := ⟨hgrow1.os, hgrow1.tape, hgrow1.output, hgrow1.size, hgrow1.block⟩; clear hown1 hgrow1)) | (go_quiet (fail)))
            all_goals
              go_ret
              exact ⟨by rw [HE.out.1]; rfl, H2.out.put HD2.out HE.out.2 (by rw [HVV.out.1]; exact HVV.out.2) (by rw [HVV.out.1]; exact HO5.out) HG5.out, (HT2.out.mono (S' := At mb) fun _ h => h.elim).grown HG5.out (fun k hk => .inl (by injection hk with hk; exact hk.symm))⟩
  · have z0 : (c != 0) = true := by simpa using hc0
    have HE : Hid (R = c ∧ doE C K ⟨kd, nmOf x, N⟩ ≠ 0) := by
      have h1 : chk ⟨kd, nmOf x, N⟩ ≠ 0 := by rw [HC.out]; exact hc0
      have h2 := doE_chk (C := C) (K := K) h1
      rw [← HR.out, h2, HC.out]
      exact ⟨rfl, hc0⟩
    clear hc0
    go_wp2_with fail
    go_ret
    exact ⟨by rw [HE.out.1]; rfl, H1.out.none HE.out.2, HT1.out.mono fun _ h => h.elim⟩
end Go.Proofs.Ytianagpneoopeaa
