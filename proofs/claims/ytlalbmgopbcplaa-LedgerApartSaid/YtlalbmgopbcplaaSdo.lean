/- Do, walked. -/
import Derived.Test.YtlalbmgopbcplaaSdm
import Derived.Test.YtlalbmgopbcplaaSchk
set_option maxRecDepth 16000
set_option linter.unusedVariables false
set_option linter.unusedSimpArgs false
namespace Go.Proofs.Ytlalbmgopbcplaa
open Go.RowKit Go.Maps
variable {C : Nm → Int} {K : List Nm} {w0 w w' : World} {s mb n : Nat} {D : Dm} {o : Op4}
theorem val_bound (h : Sh w0 w s mb n C K) (hn : n ≤ 1000) (x : Nm) : -1200000000000000 ≤ C x ∧ C x ≤ 1200000000000000 := by
  by_cases hx : x = []
  · subst hx
    have := h.house
    omega
  · have h1 := h.good.lo x hx
    have h2 := h.good.hi x hx
    omega
set_option maxHeartbeats 32000000 in
theorem do_any (h : Sh w0 w s mb n C K) (hn : n ≤ 1000) (kd N : Int) (x y : ByteArray) (hx : x.size ≤ maxLen) (hy : y.size ≤ maxLen) :
    Calls Try.prog 10 #[.pointer (some ⟨s, 0, none⟩), .agg #[.int .i64 kd, .string x, .string y, .int .i64 N]] w fun e w' => e = .returned (.int .i64 (doE C K ⟨kd, nmOf x, nmOf y, N⟩)) ∧ Sh w0 w' s mb (n + 2) (doC C K ⟨kd, nmOf x, nmOf y, N⟩) (doK C K ⟨kd, nmOf x, nmOf y, N⟩) ∧ Turn (At mb) w w' := by
  obtain ⟨R, hR⟩ : ∃ R, doE C K ⟨kd, nmOf x, nmOf y, N⟩ = R := ⟨_, rfl⟩
  rw [hR]
  have HR := Lib.hid hR
  have H0 := Lib.hid h
  have HN := Lib.hid (And.intro hn (And.intro hx hy))
  clear hR h hn hx hy
  go_enter Try.func10, Try.ntmps10
  go_wp2_with fail
  have HB0 := Lib.hid (blk_new w (.cells #[.int .i64 kd, .string x, .string y, .int .i64 N] 29))
  obtain ⟨B, hB⟩ : ∃ B, w.heap.size = B := ⟨_, rfl⟩
  refine (check_any kd x y N _).mono ?_
  rintro e w1 ⟨rfl, ht⟩
  have HB1 : Hid (w1.heap[B]? = some (.cells #[.int .i64 kd, .string x, .string y, .int .i64 N] 29 (0, 0))) := by rw [← hB]; exact ht.blk HB0.out fun h => h
  have HT1 : Hid (Turn Nope w w1) := ((Turn.refl _ _).alloc _).trans ht
  rw [hB]
  clear hB ht HB0
  have H1 := Lib.hid (H0.out.nope HT1.out)
  obtain ⟨c, hc⟩ : ∃ c, chk ⟨kd, nmOf x, nmOf y, N⟩ = c := ⟨_, rfl⟩
  rw [hc]
  have HC := Lib.hid hc
  clear hc
  by_cases hc0 : c = 0
  · obtain ⟨D, hD⟩ := H1.out.map
    have HD := Lib.hid hD
    have z0 : (c != 0) = false := by simp [hc0]
    have HC0 : Hid (chk ⟨kd, nmOf x, nmOf y, N⟩ = 0) := by show _ = _; rw [HC.out]; exact hc0
    obtain ⟨c1, c2, c3, c4, c5, c6⟩ := chk_ok HC0.out
    have HMV : Hid (N ≤ 1099511627776 ∧ 0 ≤ N) := by
      by_cases h3 : kd = 3
      · have h4 : 1 ≤ N := (c5 h3).2.1
        exact ⟨(c5 h3).2.2, (by omega : 0 ≤ N)⟩
      · have h4 : N = 0 := (c6 h3).2.2
        exact ⟨by omega, by omega⟩
    have hkd : kd = 1 ∨ kd = 2 ∨ kd = 3 := by have c1 : 1 ≤ kd := c1; have c2 : kd ≤ 3 := c2; omega
    obtain ⟨T, hT⟩ : ∃ T, Maps.has D (.string (nmOf x)) = T := ⟨_, rfl⟩
    obtain ⟨v0, hv0⟩ : ∃ v0, C (nmOf x) = v0 := ⟨_, rfl⟩
    have HT : Hid (T = true ↔ nmOf x ∈ K) := by rw [← hT]; exact HD.out.has _
    have HV : Hid (-1200000000000000 ≤ v0 ∧ v0 ≤ 1200000000000000 ∧ C (nmOf x) = v0) := by
      rw [← hv0]; exact ⟨(val_bound H1.out (by have := HN.out.1; omega) _).1, (val_bound H1.out (by have := HN.out.1; omega) _).2, rfl⟩
    have lk2 : (Instr.lookup 44 (.map (some mb)) (.string x) true).run Try.prog w1.drew = .ok (.tuple #[.int .i64 v0, .bool T]) w1.drew := by
      rw [← hT, ← hv0]; exact (HD.out.turn (Turn.refl Nope w1).drew fun h => h).look HN.out.2.1
    have c0 := H1.out.cell
    have b0 := blk_cell HB1.out 0
    have b1 := blk_cell HB1.out 1
    have b2 := blk_cell HB1.out 2
    have b3 := blk_cell HB1.out 3
    simp only [List.getElem?_toArray, List.getElem?_cons_zero, List.getElem?_cons_succ] at b0 b1 b2 b3
    have hkey : keyOf Try.prog 9 (.string x) = some (.string (nmOf x)) := Go.WideMaps.keyOf_string_mk Try.underlying9 HN.out.2.1
    clear hD hc0 hT hv0 c1 c2 c3 c4 c5 c6
    go_upto_region 4 with (fail)
    refine wp_region_held_drew (S := fun W => W.cell? ⟨s, 0, none⟩ = some (.map (some mb)) ∧ W.cell? ⟨B, 1, none⟩ = some (.string x) ∧ (Instr.lookup 44 (.map (some mb)) (.string x) true).run Try.prog W = .ok (.tuple #[.int .i64 v0, .bool T]) W) (by kernel_rfl) ⟨c0, b1, lk2⟩ (fun hHeld => ?_)
    refine' wpAnyH_take (i := 0) (v := _) (by simp only [List.getElem?_toArray, List.getElem?_cons_succ, List.getElem?_cons_zero]; rfl) (by kernel_rfl) (by kernel_rfl) (by kernel_rfl) (by intro _ _ _ h; exact h) (Or.inl ⟨by rfl, ?hyr40⟩) hHeld ?restr40
    case hyr40 => (intro w hSw; (try dsimp only at hSw); go_simp; try (with_reducible rfl))
    simp only [Act.put, List.setIfInBounds_toArray, List.set_cons_zero, List.set_cons_succ]
    refine' wpAnyH_take (i := 1) (v := _) (by simp only [List.getElem?_toArray, List.getElem?_cons_succ, List.getElem?_cons_zero]; rfl) (by kernel_rfl) (by kernel_rfl) (by kernel_rfl) (by intro _ _ _ h; exact h) (Or.inl ⟨by rfl, ?hyr41⟩) hHeld ?restr41
    case hyr41 => (intro w hSw; (try dsimp only at hSw); go_simp; try (with_reducible rfl))
    simp only [Act.put, List.setIfInBounds_toArray, List.set_cons_zero, List.set_cons_succ]
    refine' wpAnyH_take (i := 2) (v := _) (by simp only [List.getElem?_toArray, List.getElem?_cons_succ, List.getElem?_cons_zero]; rfl) (by kernel_rfl) (by kernel_rfl) (by kernel_rfl) (by intro _ _ _ h; exact h) (Or.inl ⟨by rfl, ?hyr42⟩) hHeld ?restr42
    case hyr42 => (intro w hSw; (try dsimp only at hSw); go_simp; try (with_reducible rfl))
    simp only [Act.put, List.setIfInBounds_toArray, List.set_cons_zero, List.set_cons_succ]
    refine' wpAnyH_take (i := 3) (v := _) (by simp only [List.getElem?_toArray, List.getElem?_cons_succ, List.getElem?_cons_zero]; rfl) (by kernel_rfl) (by kernel_rfl) (by kernel_rfl) (by intro _ _ _ h; exact h) (Or.inl ⟨by rfl, ?hyr43⟩) hHeld ?restr43
    case hyr43 => (intro w hSw; (try dsimp only at hSw); go_simp; try (with_reducible rfl))
    simp only [Act.put, List.setIfInBounds_toArray, List.set_cons_zero, List.set_cons_succ]
    refine' wpAnyH_take (i := 4) (v := _) (by simp only [List.getElem?_toArray, List.getElem?_cons_succ, List.getElem?_cons_zero]; rfl) (by kernel_rfl) (by kernel_rfl) (by kernel_rfl) (by intro _ _ _ h; exact h) (Or.inl ⟨by rfl, ?hyr44⟩) hHeld ?restr44
    case hyr44 => (intro w hSw; (try dsimp only at hSw); go_simp; try (with_reducible rfl))
    simp only [Act.put, List.setIfInBounds_toArray, List.set_cons_zero, List.set_cons_succ]
    refine' wpAnyH_take (i := 5) (v := _) (by simp only [List.getElem?_toArray, List.getElem?_cons_succ, List.getElem?_cons_zero]; rfl) (by kernel_rfl) (by kernel_rfl) (by kernel_rfl) (by intro _ _ _ h; exact h) (Or.inl ⟨by rfl, ?hyr45⟩) hHeld ?restr45
    case hyr45 => (intro w hSw; (try dsimp only at hSw); go_simp; try (with_reducible rfl))
    simp only [Act.put, List.setIfInBounds_toArray, List.set_cons_zero, List.set_cons_succ]
    refine' wpAnyH_take (i := 6) (v := _) (by simp only [List.getElem?_toArray, List.getElem?_cons_succ, List.getElem?_cons_zero]; rfl) (by kernel_rfl) (by kernel_rfl) (by kernel_rfl) (by intro _ _ _ h; exact h) (Or.inl ⟨by rfl, ?hyr46⟩) hHeld ?restr46
    case hyr46 => (intro w hSw; (try dsimp only at hSw); go_simp; try (with_reducible rfl))
    simp only [Act.put, List.setIfInBounds_toArray, List.set_cons_zero, List.set_cons_succ]
    refine' wpAnyH_take (i := 7) (v := _) (by simp only [List.getElem?_toArray, List.getElem?_cons_succ, List.getElem?_cons_zero]; rfl) (by kernel_rfl) (by kernel_rfl) (by kernel_rfl) (by intro _ _ _ h; exact h) (Or.inl ⟨by rfl, ?hyr47⟩) hHeld ?restr47
    case hyr47 => (intro w hSw; (try dsimp only at hSw); go_simp; try (with_reducible rfl))
    simp only [Act.put, List.setIfInBounds_toArray, List.set_cons_zero, List.set_cons_succ]
    refine' wpAnyH_take (i := 8) (v := _) (by simp only [List.getElem?_toArray, List.getElem?_cons_succ, List.getElem?_cons_zero]; rfl) (by kernel_rfl) (by kernel_rfl) (by kernel_rfl) (by intro _ _ _ h; exact h) (Or.inl ⟨by rfl, ?hyr48⟩) hHeld ?restr48
    case hyr48 => (intro w hSw; (try dsimp only at hSw); go_simp; try (with_reducible rfl))
    simp only [Act.put, List.setIfInBounds_toArray, List.set_cons_zero, List.set_cons_succ]
    refine' wpAnyH_take (i := 9) (v := _) (by simp only [List.getElem?_toArray, List.getElem?_cons_succ, List.getElem?_cons_zero]; rfl) (by kernel_rfl) (by kernel_rfl) (by kernel_rfl) (by intro _ _ _ h; exact h) (Or.inl ⟨by rfl, ?hyr49⟩) hHeld ?restr49
    case hyr49 => (intro w hSw; (try dsimp only at hSw); go_simp; try (with_reducible rfl))
    simp only [Act.put, List.setIfInBounds_toArray, List.set_cons_zero, List.set_cons_succ]
    refine' wpAnyH_take (i := 10) (v := _) (by simp only [List.getElem?_toArray, List.getElem?_cons_succ, List.getElem?_cons_zero]; rfl) (by kernel_rfl) (by kernel_rfl) (by kernel_rfl) (by intro _ _ _ h; exact h) (Or.inl ⟨by rfl, ?hyr410⟩) hHeld ?restr410
    case hyr410 => (intro w hSw; (try dsimp only at hSw); go_simp; try (with_reducible rfl))
    simp only [Act.put, List.setIfInBounds_toArray, List.set_cons_zero, List.set_cons_succ]
    refine' wpAnyH_take (i := 11) (v := _) (by simp only [List.getElem?_toArray, List.getElem?_cons_succ, List.getElem?_cons_zero]; rfl) (by kernel_rfl) (by kernel_rfl) (by kernel_rfl) (by intro _ _ _ h; exact h) (Or.inl ⟨by rfl, ?hyr411⟩) hHeld ?restr411
    case hyr411 => (intro w hSw; (try dsimp only at hSw); go_simp; try (with_reducible rfl))
    simp only [Act.put, List.setIfInBounds_toArray, List.set_cons_zero, List.set_cons_succ]
    refine wpAnyH_done (by kernel_rfl) ?_ _
    clear hHeld lk2
    have H2 := Lib.hid (H1.out.nope (Turn.refl Nope w1).drew)
    have HT2 := Lib.hid (HT1.out.trans (Turn.refl Nope w1).drew)
    have HD2 := Lib.hid (HD.out.turn (Turn.refl Nope w1).drew fun h => h)
    have HB2 : Hid (w1.drew.heap[B]? = some (.cells #[.int .i64 kd, .string x, .string y, .int .i64 N] 29 (0, 0))) := HB1.out
    have c0 : w1.drew.cell? ⟨s, 0, none⟩ = some (.map (some mb)) := c0
    have b0 : w1.drew.cell? ⟨B, 0, none⟩ = _ := b0
    have b1 : w1.drew.cell? ⟨B, 1, none⟩ = _ := b1
    have b2 : w1.drew.cell? ⟨B, 2, none⟩ = _ := b2
    have b3 : w1.drew.cell? ⟨B, 3, none⟩ = _ := b3
    clear H1 HT1 HD HB1
    generalize w1.drew = w2 at *
    rcases hkd with rfl | rfl | rfl
    · have k1 : ((1 : Int) == 1) = true := by decide
      have k2 : ((1 : Int) == 2) = false := by decide
      have hlen : (Builtin.len_ #[44] 3 #[.map (some mb)]).run Try.prog w2 = .ok (.int .i64 (K.length : Int)) w2 := by rw [← HD2.out.len]; exact HD2.out.own.len Try.underlying44 3
      by_cases h0 : nmOf x ∈ K
      · have hTt : T = true := HT.out.2 h0
        subst hTt
        have HE : Hid (R = 9 ∧ doE C K ⟨1, nmOf x, nmOf y, N⟩ ≠ 0) := by
          have h2 : doE C K ⟨1, nmOf x, nmOf y, N⟩ = 9 := by unfold doE; rw [if_neg (by rw [HC0.out]; simp), if_pos rfl]; rw [if_pos h0]
          rw [← HR.out, h2]; exact ⟨rfl, by decide⟩
        clear h0
        go_wp2_with (go_quiet (fail))
        all_goals
          go_ret
          exact ⟨by rw [HE.out.1]; rfl, (H2.out.nope (by repeat (first | exact Turn.refl _ _ | apply Turn.drewN | apply Turn.drew))).none HE.out.2, (HT2.out.trans (by repeat (first | exact Turn.refl _ _ | apply Turn.drewN | apply Turn.drew))).mono fun _ h => h.elim⟩
      · have hTf : T = false := by cases T with | false => rfl | true => exact absurd (HT.out.1 rfl) h0
        subst hTf
        by_cases h1 : 16 < K.length
        · have e1 : decide ((16 : Int) < (K.length : Int)) = true := by simp; omega
          have e1n : decide (16 < K.length) = true := by simp; omega
          have HE : Hid (R = 7 ∧ doE C K ⟨1, nmOf x, nmOf y, N⟩ ≠ 0) := by
            have h2 : doE C K ⟨1, nmOf x, nmOf y, N⟩ = 7 := by unfold doE; rw [if_neg (by rw [HC0.out]; simp), if_pos rfl]; rw [if_neg h0, if_pos h1]
            rw [← HR.out, h2]; exact ⟨rfl, by decide⟩
          clear h0 h1
          go_wp2_with (go_quiet (fail))
          all_goals
            go_ret
            exact ⟨by rw [HE.out.1]; rfl, (H2.out.nope (by repeat (first | exact Turn.refl _ _ | apply Turn.drewN | apply Turn.drew))).none HE.out.2, (HT2.out.trans (by repeat (first | exact Turn.refl _ _ | apply Turn.drewN | apply Turn.drew))).mono fun _ h => h.elim⟩
        · have e1 : decide ((16 : Int) < (K.length : Int)) = false := by simp; omega
          have e1n : decide (16 < K.length) = false := by simp; omega
          have HE : Hid (R = 0 ∧ doE C K ⟨1, nmOf x, nmOf y, N⟩ = 0) := by
            have h2 : doE C K ⟨1, nmOf x, nmOf y, N⟩ = 0 := by unfold doE; rw [if_neg (by rw [HC0.out]; simp), if_pos rfl]; rw [if_neg h0, if_neg h1]
            rw [← HR.out]; exact ⟨h2, h2⟩
          have HNI := Lib.hid h0
          clear h0 h1
          go_wp2_with (first | (refine still_tail (id := 10) 6 (by kernel_rfl) (by kernel_rfl) ?_; simp only [List.take_succ_cons, List.take_zero, List.drop_succ_cons, List.drop_zero]; (repeat still_step); refine wpStill_nil ?_) | (at_mapUpdate; refine wpList_mapUpdate_own _ rfl _ _ _ 44 rfl 9 3 law9 Try.underlying44 (plainElem (H := Unit) Try.prog 3) mb n D rfl (show _ from HD2.out.own) (by have := HN.out.1; show n < maxLen; unfold maxLen; omega) _ _ (.string (nmOf x)) rfl rfl hkey (.lit (.int .i64 0)) [] (plainElem_int Try.underlying3 (by decide)) ?_; intro w5 hown1 hgrow1; have HO5 := Lib.hid hown1; have HG5 : Hid (w2.grownBy w5 (some mb)) := ⟨hgrow1.os, hgrow1.tape, hgrow1.output, hgrow1.size, hgrow1.block⟩; clear hown1 hgrow1) | (go_quiet (fail)))
          all_goals
            go_ret
            refine ⟨by rw [HE.out.1]; rfl, H2.out.same HE.out.2 HG5.out (D' := D.put (.string (nmOf x)) (.lit (.int .i64 0))) ?_, (HT2.out.mono (S' := At mb) fun _ h => h.elim).grown HG5.out (fun k hk => .inl (by injection hk with hk; exact hk.symm))⟩
            have h1 := (HD2.out.put HO5.out rfl).mono (Nat.le_succ _)
            have e2 : (fun z => if z = nmOf x then (0 : Int) else C z) = newC C ⟨1, nmOf x, nmOf y, N⟩ := by
              rw [newC_stay (o := ⟨1, nmOf x, nmOf y, N⟩) (show ¬ (1 : Int) = 3 by decide)]; funext z; by_cases hz : z = nmOf x
              · rw [if_pos hz, hz]; exact (H2.out.good.out _ HNI.out).symm
              · rw [if_neg hz]
            rw [e2, if_neg HNI.out] at h1
            exact h1
    · have k1 : ((2 : Int) == 1) = false := by decide
      have k2 : ((2 : Int) == 2) = true := by decide
      by_cases h0 : nmOf x ∈ K
      · have hTt : T = true := HT.out.2 h0
        subst hTt
        by_cases h1 : v0 = 0
        · subst h1
          have HE : Hid (R = 0 ∧ doE C K ⟨2, nmOf x, nmOf y, N⟩ = 0) := by
            have h2 : doE C K ⟨2, nmOf x, nmOf y, N⟩ = 0 := by unfold doE; rw [if_neg (by rw [HC0.out]; simp), if_neg (show ¬ (2 : Int) = 1 by decide)]; rw [if_neg (fun e => e h0), if_pos rfl, if_neg (fun e => e HV.out.2.2)]
            rw [← HR.out]; exact ⟨h2, h2⟩
          clear h0
          go_wp2_with (first | (refine still_tail (id := 17) 6 (by kernel_rfl) (by kernel_rfl) ?_; simp only [List.take_succ_cons, List.take_zero, List.drop_succ_cons, List.drop_zero]; (repeat still_step); refine wpStill_nil ?_) | (at_delete; refine wpList_delete_own _ rfl _ _ 44 9 rfl 3 law9 Try.underlying44 (plainElem (H := Unit) Try.prog 3) mb n D rfl (show _ from HD2.out.own) _ _ rfl hkey ?_; intro w5 hown1 hturn1; have HO5 := Lib.hid hown1; have HG5 : Hid (w2.grownBy w5 (some mb)) := ⟨hturn1.grown.os, hturn1.grown.tape, hturn1.grown.output, hturn1.grown.size, hturn1.grown.block⟩; clear hown1 hturn1) | (go_quiet (fail)))
          all_goals
            go_ret
            refine ⟨by rw [HE.out.1]; rfl, H2.out.same HE.out.2 HG5.out (D' := D.del (.string (nmOf x))) ?_, (HT2.out.mono (S' := At mb) fun _ h => h.elim).grown HG5.out (fun k hk => .inl (by injection hk with hk; exact hk.symm))⟩
            have h1 := (HD2.out.del H2.out.good.nd HO5.out).mono (n' := n + 2) (by omega)
            have e2 : (fun z => if z = nmOf x then (0 : Int) else C z) = newC C ⟨2, nmOf x, nmOf y, N⟩ := by
              rw [newC_stay (o := ⟨2, nmOf x, nmOf y, N⟩) (show ¬ (2 : Int) = 3 by decide)]; funext z; by_cases hz : z = nmOf x
              · rw [if_pos hz, hz]; exact HV.out.2.2.symm
              · rw [if_neg hz]
            rw [e2] at h1
            exact h1
        · have e1 : (v0 != 0) = true := by simpa using h1
          have HE : Hid (R = 11 ∧ doE C K ⟨2, nmOf x, nmOf y, N⟩ ≠ 0) := by
            have h2 : doE C K ⟨2, nmOf x, nmOf y, N⟩ = 11 := by unfold doE; rw [if_neg (by rw [HC0.out]; simp), if_neg (show ¬ (2 : Int) = 1 by decide)]; rw [if_neg (fun e => e h0), if_pos rfl, if_pos (by show C (nmOf x) ≠ 0; rw [HV.out.2.2]; exact h1)]
            rw [← HR.out, h2]; exact ⟨rfl, by decide⟩
          clear h0 h1
          go_wp2_with (go_quiet (fail))
          all_goals
            go_ret
            exact ⟨by rw [HE.out.1]; rfl, (H2.out.nope (by repeat (first | exact Turn.refl _ _ | apply Turn.drewN | apply Turn.drew))).none HE.out.2, (HT2.out.trans (by repeat (first | exact Turn.refl _ _ | apply Turn.drewN | apply Turn.drew))).mono fun _ h => h.elim⟩
      · have hTf : T = false := by cases T with | false => rfl | true => exact absurd (HT.out.1 rfl) h0
        subst hTf
        have HE : Hid (R = 8 ∧ doE C K ⟨2, nmOf x, nmOf y, N⟩ ≠ 0) := by
          have h2 : doE C K ⟨2, nmOf x, nmOf y, N⟩ = 8 := by unfold doE; rw [if_neg (by rw [HC0.out]; simp), if_neg (show ¬ (2 : Int) = 1 by decide)]; rw [if_pos h0]
          rw [← HR.out, h2]; exact ⟨rfl, by decide⟩
        clear h0
        go_wp2_with (go_quiet (fail))
        all_goals
          go_ret
          exact ⟨by rw [HE.out.1]; rfl, (H2.out.nope (by repeat (first | exact Turn.refl _ _ | apply Turn.drewN | apply Turn.drew))).none HE.out.2, (HT2.out.trans (by repeat (first | exact Turn.refl _ _ | apply Turn.drewN | apply Turn.drew))).mono fun _ h => h.elim⟩
    · have k1 : ((3 : Int) == 1) = false := by decide
      have k2 : ((3 : Int) == 2) = false := by decide
      by_cases h0 : nmOf x ∈ K
      · have hTt : T = true := HT.out.2 h0
        subst hTt
        have HX0 := Lib.hid h0
        obtain ⟨T1, hT1⟩ : ∃ T1, Maps.has D (.string (nmOf y)) = T1 := ⟨_, rfl⟩
        obtain ⟨v1, hv1⟩ : ∃ v1, C (nmOf y) = v1 := ⟨_, rfl⟩
        have HT1' : Hid (T1 = true ↔ nmOf y ∈ K) := by rw [← hT1]; exact HD2.out.has _
        have HV1 : Hid (-1200000000000000 ≤ v1 ∧ v1 ≤ 1200000000000000 ∧ C (nmOf y) = v1) := by
          rw [← hv1]; exact ⟨(val_bound H2.out (by have := HN.out.1; omega) _).1, (val_bound H2.out (by have := HN.out.1; omega) _).2, rfl⟩
        have lk2 : (Instr.lookup 44 (.map (some mb)) (.string y) true).run Try.prog w2.drew = .ok (.tuple #[.int .i64 v1, .bool T1]) w2.drew := by
          rw [← hT1, ← hv1]; exact (HD2.out.turn (Turn.refl Nope w2).drew fun h => h).look HN.out.2.2
        clear hT1 hv1 h0
        go_upto_region 19 with (fail)
        refine wp_region_held_drew (S := fun W => W.cell? ⟨s, 0, none⟩ = some (.map (some mb)) ∧ W.cell? ⟨B, 2, none⟩ = some (.string y) ∧ (Instr.lookup 44 (.map (some mb)) (.string y) true).run Try.prog W = .ok (.tuple #[.int .i64 v1, .bool T1]) W) (by kernel_rfl) ⟨c0, b2, lk2⟩ (fun hHeld => ?_)
        refine' wpAnyH_take (i := 0) (v := _) (by simp only [List.getElem?_toArray, List.getElem?_cons_succ, List.getElem?_cons_zero]; rfl) (by kernel_rfl) (by kernel_rfl) (by kernel_rfl) (by intro _ _ _ h; exact h) (Or.inl ⟨by rfl, ?hyr190⟩) hHeld ?restr190
        case hyr190 => (intro w hSw; (try dsimp only at hSw); go_simp; try (with_reducible rfl))
        simp only [Act.put, List.setIfInBounds_toArray, List.set_cons_zero, List.set_cons_succ]
        refine' wpAnyH_take (i := 1) (v := _) (by simp only [List.getElem?_toArray, List.getElem?_cons_succ, List.getElem?_cons_zero]; rfl) (by kernel_rfl) (by kernel_rfl) (by kernel_rfl) (by intro _ _ _ h; exact h) (Or.inl ⟨by rfl, ?hyr191⟩) hHeld ?restr191
        case hyr191 => (intro w hSw; (try dsimp only at hSw); go_simp; try (with_reducible rfl))
        simp only [Act.put, List.setIfInBounds_toArray, List.set_cons_zero, List.set_cons_succ]
        refine' wpAnyH_take (i := 2) (v := _) (by simp only [List.getElem?_toArray, List.getElem?_cons_succ, List.getElem?_cons_zero]; rfl) (by kernel_rfl) (by kernel_rfl) (by kernel_rfl) (by intro _ _ _ h; exact h) (Or.inl ⟨by rfl, ?hyr192⟩) hHeld ?restr192
        case hyr192 => (intro w hSw; (try dsimp only at hSw); go_simp; try (with_reducible rfl))
        simp only [Act.put, List.setIfInBounds_toArray, List.set_cons_zero, List.set_cons_succ]
        refine' wpAnyH_take (i := 3) (v := _) (by simp only [List.getElem?_toArray, List.getElem?_cons_succ, List.getElem?_cons_zero]; rfl) (by kernel_rfl) (by kernel_rfl) (by kernel_rfl) (by intro _ _ _ h; exact h) (Or.inl ⟨by rfl, ?hyr193⟩) hHeld ?restr193
        case hyr193 => (intro w hSw; (try dsimp only at hSw); go_simp; try (with_reducible rfl))
        simp only [Act.put, List.setIfInBounds_toArray, List.set_cons_zero, List.set_cons_succ]
        refine' wpAnyH_take (i := 4) (v := _) (by simp only [List.getElem?_toArray, List.getElem?_cons_succ, List.getElem?_cons_zero]; rfl) (by kernel_rfl) (by kernel_rfl) (by kernel_rfl) (by intro _ _ _ h; exact h) (Or.inl ⟨by rfl, ?hyr194⟩) hHeld ?restr194
        case hyr194 => (intro w hSw; (try dsimp only at hSw); go_simp; try (with_reducible rfl))
        simp only [Act.put, List.setIfInBounds_toArray, List.set_cons_zero, List.set_cons_succ]
        refine' wpAnyH_take (i := 5) (v := _) (by simp only [List.getElem?_toArray, List.getElem?_cons_succ, List.getElem?_cons_zero]; rfl) (by kernel_rfl) (by kernel_rfl) (by kernel_rfl) (by intro _ _ _ h; exact h) (Or.inl ⟨by rfl, ?hyr195⟩) hHeld ?restr195
        case hyr195 => (intro w hSw; (try dsimp only at hSw); go_simp; try (with_reducible rfl))
        simp only [Act.put, List.setIfInBounds_toArray, List.set_cons_zero, List.set_cons_succ]
        refine' wpAnyH_take (i := 6) (v := _) (by simp only [List.getElem?_toArray, List.getElem?_cons_succ, List.getElem?_cons_zero]; rfl) (by kernel_rfl) (by kernel_rfl) (by kernel_rfl) (by intro _ _ _ h; exact h) (Or.inl ⟨by rfl, ?hyr196⟩) hHeld ?restr196
        case hyr196 => (intro w hSw; (try dsimp only at hSw); go_simp; try (with_reducible rfl))
        simp only [Act.put, List.setIfInBounds_toArray, List.set_cons_zero, List.set_cons_succ]
        refine' wpAnyH_take (i := 7) (v := _) (by simp only [List.getElem?_toArray, List.getElem?_cons_succ, List.getElem?_cons_zero]; rfl) (by kernel_rfl) (by kernel_rfl) (by kernel_rfl) (by intro _ _ _ h; exact h) (Or.inl ⟨by rfl, ?hyr197⟩) hHeld ?restr197
        case hyr197 => (intro w hSw; (try dsimp only at hSw); go_simp; try (with_reducible rfl))
        simp only [Act.put, List.setIfInBounds_toArray, List.set_cons_zero, List.set_cons_succ]
        refine' wpAnyH_take (i := 8) (v := _) (by simp only [List.getElem?_toArray, List.getElem?_cons_succ, List.getElem?_cons_zero]; rfl) (by kernel_rfl) (by kernel_rfl) (by kernel_rfl) (by intro _ _ _ h; exact h) (Or.inl ⟨by rfl, ?hyr198⟩) hHeld ?restr198
        case hyr198 => (intro w hSw; (try dsimp only at hSw); go_simp; try (with_reducible rfl))
        simp only [Act.put, List.setIfInBounds_toArray, List.set_cons_zero, List.set_cons_succ]
        refine' wpAnyH_take (i := 9) (v := _) (by simp only [List.getElem?_toArray, List.getElem?_cons_succ, List.getElem?_cons_zero]; rfl) (by kernel_rfl) (by kernel_rfl) (by kernel_rfl) (by intro _ _ _ h; exact h) (Or.inl ⟨by rfl, ?hyr199⟩) hHeld ?restr199
        case hyr199 => (intro w hSw; (try dsimp only at hSw); go_simp; try (with_reducible rfl))
        simp only [Act.put, List.setIfInBounds_toArray, List.set_cons_zero, List.set_cons_succ]
        refine' wpAnyH_take (i := 10) (v := _) (by simp only [List.getElem?_toArray, List.getElem?_cons_succ, List.getElem?_cons_zero]; rfl) (by kernel_rfl) (by kernel_rfl) (by kernel_rfl) (by intro _ _ _ h; exact h) (Or.inl ⟨by rfl, ?hyr1910⟩) hHeld ?restr1910
        case hyr1910 => (intro w hSw; (try dsimp only at hSw); go_simp; try (with_reducible rfl))
        simp only [Act.put, List.setIfInBounds_toArray, List.set_cons_zero, List.set_cons_succ]
        refine' wpAnyH_take (i := 11) (v := _) (by simp only [List.getElem?_toArray, List.getElem?_cons_succ, List.getElem?_cons_zero]; rfl) (by kernel_rfl) (by kernel_rfl) (by kernel_rfl) (by intro _ _ _ h; exact h) (Or.inl ⟨by rfl, ?hyr1911⟩) hHeld ?restr1911
        case hyr1911 => (intro w hSw; (try dsimp only at hSw); go_simp; try (with_reducible rfl))
        simp only [Act.put, List.setIfInBounds_toArray, List.set_cons_zero, List.set_cons_succ]
        refine wpAnyH_done (by kernel_rfl) ?_ _
        clear hHeld lk2
        have H3 := Lib.hid (H2.out.nope (Turn.refl Nope w2).drew)
        have HT3 := Lib.hid (HT2.out.trans (Turn.refl Nope w2).drew)
        have HD3 := Lib.hid (HD2.out.turn (Turn.refl Nope w2).drew fun h => h)
        have HB3 : Hid (w2.drew.heap[B]? = some (.cells #[.int .i64 3, .string x, .string y, .int .i64 N] 29 (0, 0))) := HB2.out
        have c0 : w2.drew.cell? ⟨s, 0, none⟩ = some (.map (some mb)) := c0
        have b0 : w2.drew.cell? ⟨B, 0, none⟩ = _ := b0
        have b1 : w2.drew.cell? ⟨B, 1, none⟩ = _ := b1
        have b2 : w2.drew.cell? ⟨B, 2, none⟩ = _ := b2
        have b3 : w2.drew.cell? ⟨B, 3, none⟩ = _ := b3
        clear H2 HT2 HD2 HB2
        generalize w2.drew = w3 at *
        by_cases h1 : nmOf y ∈ K
        · have hT1 : T1 = true := HT1'.out.2 h1
          subst hT1
          have HY0 := Lib.hid h1
          clear h1
          by_cases hx0 : nmOf x = []
          · have g1 : x.toList.isEmpty = true := by rw [tl, hx0]; rfl
            by_cases hy0 : nmOf y = []
            · have g2 : y.toList.isEmpty = true := by rw [tl, hy0]; rfl
              have HE : Hid (R = 0 ∧ doE C K ⟨3, nmOf x, nmOf y, N⟩ = 0) := by
                have h2 : doE C K ⟨3, nmOf x, nmOf y, N⟩ = 0 := by unfold doE; rw [if_neg (by rw [HC0.out]; simp), if_neg (show ¬ (3 : Int) = 1 by decide)]; rw [if_neg (fun e => e HX0.out), if_neg (show ¬ (3 : Int) = 2 by decide), if_neg (fun e => e HY0.out), if_neg (fun e => e.1 hx0), if_neg (fun e => e.1 hy0)]
                rw [← HR.out]; exact ⟨h2, h2⟩
              obtain ⟨a1, ha1⟩ : ∃ a1, v0 - N = a1 := ⟨_, rfl⟩
              obtain ⟨a2, ha2⟩ : ∃ a2, v1 + N = a2 := ⟨_, rfl⟩
              have hr1 : -4611686018427387904 ≤ a1 ∧ a1 ≤ 4611686018427387904 := by have := HV.out; have := HMV.out; omega
              have hr2 : -4611686018427387904 ≤ a2 ∧ a2 ≤ 4611686018427387904 := by have := HV1.out; have := HMV.out; omega
              have hw1 : wrap64 (v0 - N) = a1 := by rw [ha1]; exact IntWalk.wrap64_in _ ⟨by omega, by omega⟩
              have hw1' : IntKind.i64.wrap (v0 - N) = a1 := by rw [ha1]; exact IntWalk.i64_in _ ⟨by omega, by omega⟩
              have hw2 : wrap64 (v1 + N) = a2 := by rw [ha2]; exact IntWalk.wrap64_in _ ⟨by omega, by omega⟩
              have hw2' : IntKind.i64.wrap (v1 + N) = a2 := by rw [ha2]; exact IntWalk.i64_in _ ⟨by omega, by omega⟩
              have hDd := HD3.out.turn (Turn.refl Nope w3).drew fun h => h
              obtain ⟨p1, st1, u1, u2, hent1, hst1, hown1, hg1, hg1'⟩ := hDd.entry (x := x) HN.out.2.1 (by have := HN.out.1; unfold maxLen; omega) (wf_small hr1.1 hr1.2)
              have hC1 := hDd.put hown1 rfl
              rw [if_pos HX0.out] at hC1
              obtain ⟨p2, st2, u3, u4, hent2, hst2, hown2, hg2, hg2'⟩ := hC1.entry (x := y) HN.out.2.2 (by have := HN.out.1; unfold maxLen; omega) (wf_small hr2.1 hr2.2)
              have hC2 := hC1.put hown2 rfl
              rw [if_pos HY0.out] at hC2
              obtain ⟨DD, hDD⟩ : ∃ DD, (D.put (.string (nmOf x)) (.lit (.int .i64 a1))).put (.string (nmOf y)) (.lit (.int .i64 a2)) = DD := ⟨_, rfl⟩
              rw [hDD] at hC2
              clear hDD
              have HO1 := Lib.hid (And.intro hg1' (And.intro hg1 trivial))
              have HO2 := Lib.hid (And.intro (hg1.andThen hg2' fun j hj => .inr hj) (And.intro (hg1.andThen hg2 fun j hj => .inr hj) hC2))
              have HA := Lib.hid (And.intro ha1 ha2)
              have KEEP : Hid (∀ W, (w3.drew).grownBy W (some mb) → W.cell? ⟨s, 0, none⟩ = some (.map (some mb)) ∧ W.cell? ⟨B, 1, none⟩ = some (.string x) ∧ W.cell? ⟨B, 2, none⟩ = some (.string y) ∧ W.cell? ⟨B, 3, none⟩ = some (.int .i64 N)) := fun W hg => by
                have h1 := blk_grown (w := w3.drew) H3.out.hs hg (fun e => by injection e with e; exact H3.out.ne e.symm)
                have h2 := blk_grown (w := w3.drew) HB3.out hg (fun e => by injection e with e; obtain ⟨es, clock, hb⟩ := HD3.out.blk; rw [e, HB3.out] at hb; cases hb)
                exact ⟨by rw [blk_cell h1]; rfl, by rw [blk_cell h2]; rfl, by rw [blk_cell h2]; rfl, by rw [blk_cell h2]; rfl⟩
              clear hr1 hr2 ha1 ha2 hDd hown1 hg1 hg1' hC1 hown2 hg2 hg2' hC2 hx0 hy0
              go_upto_region 26 with (fail)
              refine wp_region_held_drew (S := fun W => W.cell? ⟨s, 0, none⟩ = some (.map (some mb)) ∧ W.cell? ⟨B, 1, none⟩ = some (.string x) ∧ W.cell? ⟨B, 2, none⟩ = some (.string y) ∧ W.cell? ⟨B, 3, none⟩ = some (.int .i64 N)) (by kernel_rfl) ⟨c0, b1, b2, b3⟩ (fun hHeld => ?_)
              refine' wpAnyH_take (i := 0) (v := _) (by simp only [List.getElem?_toArray, List.getElem?_cons_succ, List.getElem?_cons_zero]; rfl) (by kernel_rfl) (by kernel_rfl) (by kernel_rfl) (by intro _ _ _ h; exact h) (Or.inl ⟨by rfl, ?hyzz1_0⟩) hHeld ?restzz1_0
              case hyzz1_0 => (intro w hSw; (try dsimp only at hSw); go_simp; try (with_reducible rfl))
              simp only [Act.put, List.setIfInBounds_toArray, List.set_cons_zero, List.set_cons_succ]
              refine' wpAnyH_take (i := 1) (v := _) (by simp only [List.getElem?_toArray, List.getElem?_cons_succ, List.getElem?_cons_zero]; rfl) (by kernel_rfl) (by kernel_rfl) (by kernel_rfl) (by intro _ _ _ h; exact h) (Or.inl ⟨by rfl, ?hyzz1_1⟩) hHeld ?restzz1_1
              case hyzz1_1 => (intro w hSw; (try dsimp only at hSw); go_simp; try (with_reducible rfl))
              simp only [Act.put, List.setIfInBounds_toArray, List.set_cons_zero, List.set_cons_succ]
              refine' wpAnyH_take (i := 2) (v := _) (by simp only [List.getElem?_toArray, List.getElem?_cons_succ, List.getElem?_cons_zero]; rfl) (by kernel_rfl) (by kernel_rfl) (by kernel_rfl) (by intro _ _ _ h; exact h) (Or.inl ⟨by rfl, ?hyzz1_2⟩) hHeld ?restzz1_2
              case hyzz1_2 => (intro w hSw; (try dsimp only at hSw); go_simp; try (with_reducible rfl))
              simp only [Act.put, List.setIfInBounds_toArray, List.set_cons_zero, List.set_cons_succ]
              refine' wpAnyH_take (i := 3) (v := _) (by simp only [List.getElem?_toArray, List.getElem?_cons_succ, List.getElem?_cons_zero]; rfl) (by kernel_rfl) (by kernel_rfl) (by kernel_rfl) (by intro _ _ _ h; exact h) (Or.inl ⟨by rfl, ?hyzz1_3⟩) hHeld ?restzz1_3
              case hyzz1_3 => (intro w hSw; (try dsimp only at hSw); go_simp; try (with_reducible rfl))
              simp only [Act.put, List.setIfInBounds_toArray, List.set_cons_zero, List.set_cons_succ]
              refine' wpAnyH_take (i := 4) (v := _) (by simp only [List.getElem?_toArray, List.getElem?_cons_succ, List.getElem?_cons_zero]; rfl) (by kernel_rfl) (by kernel_rfl) (by kernel_rfl) (by intro _ _ _ h; exact h) (Or.inl ⟨by rfl, ?hyzz1_4⟩) hHeld ?restzz1_4
              case hyzz1_4 => (intro w hSw; (try dsimp only at hSw); go_simp; try (with_reducible rfl))
              simp only [Act.put, List.setIfInBounds_toArray, List.set_cons_zero, List.set_cons_succ]
              refine' wpAnyH_take (i := 5) (v := _) (by simp only [List.getElem?_toArray, List.getElem?_cons_succ, List.getElem?_cons_zero]; rfl) (by kernel_rfl) (by kernel_rfl) (by kernel_rfl) (by intro _ _ _ h; exact h) (Or.inl ⟨by rfl, ?hyzz1_5⟩) hHeld ?restzz1_5
              case hyzz1_5 => (intro w hSw; (try dsimp only at hSw); go_simp; try (with_reducible rfl))
              simp only [Act.put, List.setIfInBounds_toArray, List.set_cons_zero, List.set_cons_succ]
              refine' wpAnyH_take (i := 6) (v := _) (by simp only [List.getElem?_toArray, List.getElem?_cons_succ, List.getElem?_cons_zero]; rfl) (by kernel_rfl) (by kernel_rfl) (by kernel_rfl) (by intro _ _ _ h; exact h) (Or.inl ⟨by rfl, ?hyzz1_6⟩) hHeld ?restzz1_6
              case hyzz1_6 => (intro w hSw; (try dsimp only at hSw); go_simp; try (with_reducible rfl))
              simp only [Act.put, List.setIfInBounds_toArray, List.set_cons_zero, List.set_cons_succ]
              refine' wpAnyH_take (i := 7) (v := _) (by simp only [List.getElem?_toArray, List.getElem?_cons_succ, List.getElem?_cons_zero]; rfl) (by kernel_rfl) (by kernel_rfl) (by kernel_rfl) (by intro _ _ _ h; exact h) (Or.inl ⟨by rfl, ?hyzz1_7⟩) hHeld ?restzz1_7
              case hyzz1_7 => (intro w hSw; (try dsimp only at hSw); go_simp; try (with_reducible rfl))
              simp only [Act.put, List.setIfInBounds_toArray, List.set_cons_zero, List.set_cons_succ]
              refine' wpAnyH_take (i := 8) (v := _) (by simp only [List.getElem?_toArray, List.getElem?_cons_succ, List.getElem?_cons_zero]; rfl) (by kernel_rfl) (by kernel_rfl) (by kernel_rfl) (by intro _ _ _ h; exact h) (Or.inl ⟨by rfl, ?hyzz1_8⟩) hHeld ?restzz1_8
              case hyzz1_8 => (intro w hSw; (try dsimp only at hSw); go_simp; try (with_reducible rfl))
              simp only [Act.put, List.setIfInBounds_toArray, List.set_cons_zero, List.set_cons_succ]
              refine' wpAnyH_take (i := 9) (v := _) (by simp only [List.getElem?_toArray, List.getElem?_cons_succ, List.getElem?_cons_zero]; rfl) (by kernel_rfl) (by kernel_rfl) (by kernel_rfl) (by intro _ _ _ h; exact h) (Or.inl ⟨by rfl, ?hyzz1_9⟩) hHeld ?restzz1_9
              case hyzz1_9 => (intro w hSw; (try dsimp only at hSw); go_simp; try (with_reducible rfl))
              simp only [Act.put, List.setIfInBounds_toArray, List.set_cons_zero, List.set_cons_succ]
              refine' wpAnyH_take (i := 10) (v := _) (by simp only [List.getElem?_toArray, List.getElem?_cons_succ, List.getElem?_cons_zero]; rfl) (by kernel_rfl) (by kernel_rfl) (by kernel_rfl) (by intro _ _ _ h; exact h) (Or.inl ⟨by rfl, ?hyzz1_10⟩) hHeld ?restzz1_10
              case hyzz1_10 => (intro w hSw; (try dsimp only at hSw); go_simp; try (with_reducible rfl))
              simp only [Act.put, List.setIfInBounds_toArray, List.set_cons_zero, List.set_cons_succ]
              refine' wpAnyH_take (i := 11) (v := _) (by simp only [List.getElem?_toArray, List.getElem?_cons_succ, List.getElem?_cons_zero]; rfl) (by kernel_rfl) (by kernel_rfl) (by kernel_rfl) (by intro _ _ _ h; exact h) (Or.inl ⟨by rfl, ?hyzz1_11⟩) hHeld ?restzz1_11
              case hyzz1_11 => (intro w hSw; (try dsimp only at hSw); go_simp; try (with_reducible rfl))
              simp only [Act.put, List.setIfInBounds_toArray, List.set_cons_zero, List.set_cons_succ]
              refine' wpAnyH_take (i := 12) (v := _) (by simp only [List.getElem?_toArray, List.getElem?_cons_succ, List.getElem?_cons_zero]; rfl) (by kernel_rfl) (by kernel_rfl) (by kernel_rfl) (by intro _ _ _ h; exact h) (Or.inl ⟨by rfl, ?hyzz1_12⟩) hHeld ?restzz1_12
              case hyzz1_12 => (intro w hSw; (try dsimp only at hSw); go_simp; try (with_reducible rfl))
              simp only [Act.put, List.setIfInBounds_toArray, List.set_cons_zero, List.set_cons_succ]
              refine' wpAnyH_take (i := 13) (v := _) (by simp only [List.getElem?_toArray, List.getElem?_cons_succ, List.getElem?_cons_zero]; rfl) (by kernel_rfl) (by kernel_rfl) (by kernel_rfl) (by intro _ _ _ h; exact h) (Or.inl ⟨by rfl, ?hyzz1_13⟩) hHeld ?restzz1_13
              case hyzz1_13 => (intro w hSw; (try dsimp only at hSw); go_simp; try (with_reducible rfl))
              simp only [Act.put, List.setIfInBounds_toArray, List.set_cons_zero, List.set_cons_succ]
              refine' wpAnyH_take (i := 14) (v := _) (by simp only [List.getElem?_toArray, List.getElem?_cons_succ, List.getElem?_cons_zero]; rfl) (by kernel_rfl) (by kernel_rfl) (by kernel_rfl) (by intro _ _ _ h; exact h) (Or.inl ⟨by rfl, ?hyzz1_14⟩) hHeld ?restzz1_14
              case hyzz1_14 => (intro w hSw; (try dsimp only at hSw); go_simp; try (with_reducible rfl))
              simp only [Act.put, List.setIfInBounds_toArray, List.set_cons_zero, List.set_cons_succ]
              refine' wpAnyH_take (i := 15) (v := _) (by simp only [List.getElem?_toArray, List.getElem?_cons_succ, List.getElem?_cons_zero]; rfl) (by kernel_rfl) (by kernel_rfl) (by kernel_rfl) (by intro _ _ _ h; exact h) (Or.inl ⟨by rfl, ?hyzz1_15⟩) hHeld ?restzz1_15
              case hyzz1_15 => (intro w hSw; (try dsimp only at hSw); go_simp; try (with_reducible rfl))
              simp only [Act.put, List.setIfInBounds_toArray, List.set_cons_zero, List.set_cons_succ]
              refine' wpAnyH_take (i := 16) (v := _) (by simp only [List.getElem?_toArray, List.getElem?_cons_succ, List.getElem?_cons_zero]; rfl) (by kernel_rfl) (by kernel_rfl) (by kernel_rfl) (by intro _ _ _ h; exact h) (Or.inl ⟨by rfl, ?hyzz1_16⟩) hHeld ?restzz1_16
              case hyzz1_16 => (intro w hSw; (try dsimp only at hSw); go_simp; try (with_reducible rfl))
              simp only [Act.put, List.setIfInBounds_toArray, List.set_cons_zero, List.set_cons_succ]
              refine' wpAnyH_take (i := 17) (v := _) (by simp only [List.getElem?_toArray, List.getElem?_cons_succ, List.getElem?_cons_zero]; rfl) (by kernel_rfl) (by kernel_rfl) (by kernel_rfl) (by intro _ _ _ h; exact h) (Or.inl ⟨by rfl, ?hyzz1_17⟩) hHeld ?restzz1_17
              case hyzz1_17 => (intro w hSw; (try dsimp only at hSw); go_simp; try (with_reducible rfl))
              simp only [Act.put, List.setIfInBounds_toArray, List.set_cons_zero, List.set_cons_succ]
              refine' wpAnyH_take (i := 18) (v := _) (by simp only [List.getElem?_toArray, List.getElem?_cons_succ, List.getElem?_cons_zero]; rfl) (by kernel_rfl) (by kernel_rfl) (by kernel_rfl) (by intro _ _ _ h; exact h) (Or.inl ⟨by rfl, ?hyzz1_18⟩) hHeld ?restzz1_18
              case hyzz1_18 => (intro w hSw; (try dsimp only at hSw); go_simp; try (with_reducible rfl))
              simp only [Act.put, List.setIfInBounds_toArray, List.set_cons_zero, List.set_cons_succ]
              refine' wpAnyH_take (i := 19) (v := _) (by simp only [List.getElem?_toArray, List.getElem?_cons_succ, List.getElem?_cons_zero]; rfl) (by kernel_rfl) (by kernel_rfl) (by kernel_rfl) (by intro _ _ _ h; exact h) (Or.inl ⟨by rfl, ?hyzz1_19⟩) hHeld ?restzz1_19
              case hyzz1_19 => (intro w hSw; (try dsimp only at hSw); go_simp; try (with_reducible rfl))
              simp only [Act.put, List.setIfInBounds_toArray, List.set_cons_zero, List.set_cons_succ]
              refine wpAnyH_ready (rs := [20]) (by kernel_rfl) (by simp) (AllReadyH.cons (by simp only [List.getElem?_toArray, List.getElem?_cons_succ, List.getElem?_cons_zero]; rfl) (fun KK hKK => ?_) AllReadyH.nil)
              go_simp
              refine hKK.out _ _ ?_ (fun hHeld => ?_)
              · exact KEEP.out _ HO1.out.1
              clear hKK KK
              try simp only [Act.put, List.setIfInBounds_toArray, List.set_cons_zero, List.set_cons_succ]
              refine' wpAnyH_take (i := 21) (v := _) (by simp only [List.getElem?_toArray, List.getElem?_cons_succ, List.getElem?_cons_zero]; rfl) (by kernel_rfl) (by kernel_rfl) (by kernel_rfl) (by intro _ _ _ h; exact h) (Or.inl ⟨by rfl, ?hyzz1_21⟩) hHeld ?restzz1_21
              case hyzz1_21 => (intro w hSw; (try dsimp only at hSw); go_simp; try (with_reducible rfl))
              simp only [Act.put, List.setIfInBounds_toArray, List.set_cons_zero, List.set_cons_succ]
              refine wpAnyH_ready (rs := [22]) (by kernel_rfl) (by simp) (AllReadyH.cons (by simp only [List.getElem?_toArray, List.getElem?_cons_succ, List.getElem?_cons_zero]; rfl) (fun KK hKK => ?_) AllReadyH.nil)
              go_simp
              refine hKK.out _ _ ?_ (fun hHeld => ?_)
              · exact KEEP.out _ HO1.out.2.1
              clear hKK KK
              try simp only [Act.put, List.setIfInBounds_toArray, List.set_cons_zero, List.set_cons_succ]
              refine wpAnyH_ready (rs := [23]) (by kernel_rfl) (by simp) (AllReadyH.cons (by simp only [List.getElem?_toArray, List.getElem?_cons_succ, List.getElem?_cons_zero]; rfl) (fun KK hKK => ?_) AllReadyH.nil)
              go_simp
              refine hKK.out _ _ ?_ (fun hHeld => ?_)
              · exact KEEP.out _ HO2.out.1
              clear hKK KK
              try simp only [Act.put, List.setIfInBounds_toArray, List.set_cons_zero, List.set_cons_succ]
              refine' wpAnyH_take (i := 24) (v := _) (by simp only [List.getElem?_toArray, List.getElem?_cons_succ, List.getElem?_cons_zero]; rfl) (by kernel_rfl) (by kernel_rfl) (by kernel_rfl) (by intro _ _ _ h; exact h) (Or.inl ⟨by rfl, ?hyzz1_24⟩) hHeld ?restzz1_24
              case hyzz1_24 => (intro w hSw; (try dsimp only at hSw); go_simp; try (with_reducible rfl))
              simp only [Act.put, List.setIfInBounds_toArray, List.set_cons_zero, List.set_cons_succ]
              refine wpAnyH_ready (rs := [25]) (by kernel_rfl) (by simp) (AllReadyH.cons (by simp only [List.getElem?_toArray, List.getElem?_cons_succ, List.getElem?_cons_zero]; rfl) (fun KK hKK => ?_) AllReadyH.nil)
              go_simp
              refine hKK.out _ _ ?_ (fun hHeld => ?_)
              · exact KEEP.out _ HO2.out.2.1
              clear hKK KK
              try simp only [Act.put, List.setIfInBounds_toArray, List.set_cons_zero, List.set_cons_succ]
              refine wpAnyH_done (by kernel_rfl) ?_ _
              clear hHeld
              go_wp2_with fail
              go_ret
              refine ⟨by rw [HE.out.1]; rfl, H3.out.same HE.out.2 (D' := DD) ⟨HO2.out.2.1.os, HO2.out.2.1.tape, HO2.out.2.1.output, HO2.out.2.1.size, HO2.out.2.1.block⟩ ?_, (HT3.out.mono (S' := At mb) fun _ h => h.elim).grown (w := w3) ⟨HO2.out.2.1.os, HO2.out.2.1.tape, HO2.out.2.1.output, HO2.out.2.1.size, HO2.out.2.1.block⟩ (fun k hk => .inl (by injection hk with hk; exact hk.symm))⟩
              have h1 := HO2.out.2.2
              have e2 : (fun z => if z = nmOf y then a2 else if z = nmOf x then a1 else C z) = newC C ⟨3, nmOf x, nmOf y, N⟩ := by
                rw [newC_move (o := ⟨3, nmOf x, nmOf y, N⟩) rfl]; funext z; show _ = (if z = nmOf y then C (nmOf y) + N else if z = nmOf x then C (nmOf x) - N else C z); rw [HV.out.2.2, HV1.out.2.2, HA.out.1, HA.out.2]
              rw [e2] at h1
              exact h1
            · have g2 : y.toList.isEmpty = false := by rw [tl, List.isEmpty_eq_false_iff]; exact hy0
              have s1 : wrap64 (v1 + N) = v1 + N := IntWalk.wrap64_in _ ⟨by have := HV1.out; have := HMV.out; omega, by have := HV1.out; have := HMV.out; omega⟩
              by_cases hov : 1099511627776 < v1 + N
              · have e5 : decide (1099511627776 < v1 + N) = true := by simpa using hov
                have HE : Hid (R = 10 ∧ doE C K ⟨3, nmOf x, nmOf y, N⟩ ≠ 0) := by
                  have h2 : doE C K ⟨3, nmOf x, nmOf y, N⟩ = 10 := by unfold doE; rw [if_neg (by rw [HC0.out]; simp), if_neg (show ¬ (3 : Int) = 1 by decide)]; rw [if_neg (fun e => e HX0.out), if_neg (show ¬ (3 : Int) = 2 by decide), if_neg (fun e => e HY0.out), if_neg (fun e => e.1 hx0), if_pos ⟨hy0, by show 1099511627776 < C (nmOf y) + N; rw [HV1.out.2.2]; exact hov⟩]
                  rw [← HR.out, h2]; exact ⟨rfl, by decide⟩
                clear hov hx0 hy0
                go_wp2_with (go_quiet (fail))
                all_goals
                  go_ret
                  exact ⟨by rw [HE.out.1]; rfl, (H3.out.nope (by repeat (first | exact Turn.refl _ _ | apply Turn.drewN | apply Turn.drew))).none HE.out.2, (HT3.out.trans (by repeat (first | exact Turn.refl _ _ | apply Turn.drewN | apply Turn.drew))).mono fun _ h => h.elim⟩
              · have e5 : decide (1099511627776 < v1 + N) = false := by simpa using hov
                have HOV := Lib.hid hov
                clear hov
                have e5v : ∀ a2, v1 + N = a2 → decide (1099511627776 < a2) = false := fun a2 h => by rw [← h]; exact e5
                have HE : Hid (R = 0 ∧ doE C K ⟨3, nmOf x, nmOf y, N⟩ = 0) := by
                  have h2 : doE C K ⟨3, nmOf x, nmOf y, N⟩ = 0 := by unfold doE; rw [if_neg (by rw [HC0.out]; simp), if_neg (show ¬ (3 : Int) = 1 by decide)]; rw [if_neg (fun e => e HX0.out), if_neg (show ¬ (3 : Int) = 2 by decide), if_neg (fun e => e HY0.out), if_neg (fun e => e.1 hx0), if_neg (fun e => HOV.out (by have h9 : 1099511627776 < C (nmOf y) + N := e.2; rw [HV1.out.2.2] at h9; exact h9))]
                  rw [← HR.out]; exact ⟨h2, h2⟩
                obtain ⟨a1, ha1⟩ : ∃ a1, v0 - N = a1 := ⟨_, rfl⟩
                obtain ⟨a2, ha2⟩ : ∃ a2, v1 + N = a2 := ⟨_, rfl⟩
                have e5w := e5v a2 ha2
                have hr1 : -4611686018427387904 ≤ a1 ∧ a1 ≤ 4611686018427387904 := by have := HV.out; have := HMV.out; omega
                have hr2 : -4611686018427387904 ≤ a2 ∧ a2 ≤ 4611686018427387904 := by have := HV1.out; have := HMV.out; omega
                have hw1 : wrap64 (v0 - N) = a1 := by rw [ha1]; exact IntWalk.wrap64_in _ ⟨by omega, by omega⟩
                have hw1' : IntKind.i64.wrap (v0 - N) = a1 := by rw [ha1]; exact IntWalk.i64_in _ ⟨by omega, by omega⟩
                have hw2 : wrap64 (v1 + N) = a2 := by rw [ha2]; exact IntWalk.wrap64_in _ ⟨by omega, by omega⟩
                have hw2' : IntKind.i64.wrap (v1 + N) = a2 := by rw [ha2]; exact IntWalk.i64_in _ ⟨by omega, by omega⟩
                have hDd := HD3.out.turn (Turn.refl Nope w3).drew fun h => h
                obtain ⟨p1, st1, u1, u2, hent1, hst1, hown1, hg1, hg1'⟩ := hDd.entry (x := x) HN.out.2.1 (by have := HN.out.1; unfold maxLen; omega) (wf_small hr1.1 hr1.2)
                have hC1 := hDd.put hown1 rfl
                rw [if_pos HX0.out] at hC1
                obtain ⟨p2, st2, u3, u4, hent2, hst2, hown2, hg2, hg2'⟩ := hC1.entry (x := y) HN.out.2.2 (by have := HN.out.1; unfold maxLen; omega) (wf_small hr2.1 hr2.2)
                have hC2 := hC1.put hown2 rfl
                rw [if_pos HY0.out] at hC2
                obtain ⟨DD, hDD⟩ : ∃ DD, (D.put (.string (nmOf x)) (.lit (.int .i64 a1))).put (.string (nmOf y)) (.lit (.int .i64 a2)) = DD := ⟨_, rfl⟩
                rw [hDD] at hC2
                clear hDD
                have HO1 := Lib.hid (And.intro hg1' (And.intro hg1 trivial))
                have HO2 := Lib.hid (And.intro (hg1.andThen hg2' fun j hj => .inr hj) (And.intro (hg1.andThen hg2 fun j hj => .inr hj) hC2))
                have HA := Lib.hid (And.intro ha1 ha2)
                have KEEP : Hid (∀ W, (w3.drew).grownBy W (some mb) → W.cell? ⟨s, 0, none⟩ = some (.map (some mb)) ∧ W.cell? ⟨B, 1, none⟩ = some (.string x) ∧ W.cell? ⟨B, 2, none⟩ = some (.string y) ∧ W.cell? ⟨B, 3, none⟩ = some (.int .i64 N)) := fun W hg => by
                  have h1 := blk_grown (w := w3.drew) H3.out.hs hg (fun e => by injection e with e; exact H3.out.ne e.symm)
                  have h2 := blk_grown (w := w3.drew) HB3.out hg (fun e => by injection e with e; obtain ⟨es, clock, hb⟩ := HD3.out.blk; rw [e, HB3.out] at hb; cases hb)
                  exact ⟨by rw [blk_cell h1]; rfl, by rw [blk_cell h2]; rfl, by rw [blk_cell h2]; rfl, by rw [blk_cell h2]; rfl⟩
                clear hr1 hr2 ha1 ha2 hDd hown1 hg1 hg1' hC1 hown2 hg2 hg2' hC2 hx0 hy0
                clear e5v s1
                go_upto_region 26 with (fail)
                refine wp_region_held_drew (S := fun W => W.cell? ⟨s, 0, none⟩ = some (.map (some mb)) ∧ W.cell? ⟨B, 1, none⟩ = some (.string x) ∧ W.cell? ⟨B, 2, none⟩ = some (.string y) ∧ W.cell? ⟨B, 3, none⟩ = some (.int .i64 N)) (by kernel_rfl) ⟨c0, b1, b2, b3⟩ (fun hHeld => ?_)
                refine' wpAnyH_take (i := 0) (v := _) (by simp only [List.getElem?_toArray, List.getElem?_cons_succ, List.getElem?_cons_zero]; rfl) (by kernel_rfl) (by kernel_rfl) (by kernel_rfl) (by intro _ _ _ h; exact h) (Or.inl ⟨by rfl, ?hyzz2_0⟩) hHeld ?restzz2_0
                case hyzz2_0 => (intro w hSw; (try dsimp only at hSw); go_simp; try (with_reducible rfl))
                simp only [Act.put, List.setIfInBounds_toArray, List.set_cons_zero, List.set_cons_succ]
                refine' wpAnyH_take (i := 1) (v := _) (by simp only [List.getElem?_toArray, List.getElem?_cons_succ, List.getElem?_cons_zero]; rfl) (by kernel_rfl) (by kernel_rfl) (by kernel_rfl) (by intro _ _ _ h; exact h) (Or.inl ⟨by rfl, ?hyzz2_1⟩) hHeld ?restzz2_1
                case hyzz2_1 => (intro w hSw; (try dsimp only at hSw); go_simp; try (with_reducible rfl))
                simp only [Act.put, List.setIfInBounds_toArray, List.set_cons_zero, List.set_cons_succ]
                refine' wpAnyH_take (i := 2) (v := _) (by simp only [List.getElem?_toArray, List.getElem?_cons_succ, List.getElem?_cons_zero]; rfl) (by kernel_rfl) (by kernel_rfl) (by kernel_rfl) (by intro _ _ _ h; exact h) (Or.inl ⟨by rfl, ?hyzz2_2⟩) hHeld ?restzz2_2
                case hyzz2_2 => (intro w hSw; (try dsimp only at hSw); go_simp; try (with_reducible rfl))
                simp only [Act.put, List.setIfInBounds_toArray, List.set_cons_zero, List.set_cons_succ]
                refine' wpAnyH_take (i := 3) (v := _) (by simp only [List.getElem?_toArray, List.getElem?_cons_succ, List.getElem?_cons_zero]; rfl) (by kernel_rfl) (by kernel_rfl) (by kernel_rfl) (by intro _ _ _ h; exact h) (Or.inl ⟨by rfl, ?hyzz2_3⟩) hHeld ?restzz2_3
                case hyzz2_3 => (intro w hSw; (try dsimp only at hSw); go_simp; try (with_reducible rfl))
                simp only [Act.put, List.setIfInBounds_toArray, List.set_cons_zero, List.set_cons_succ]
                refine' wpAnyH_take (i := 4) (v := _) (by simp only [List.getElem?_toArray, List.getElem?_cons_succ, List.getElem?_cons_zero]; rfl) (by kernel_rfl) (by kernel_rfl) (by kernel_rfl) (by intro _ _ _ h; exact h) (Or.inl ⟨by rfl, ?hyzz2_4⟩) hHeld ?restzz2_4
                case hyzz2_4 => (intro w hSw; (try dsimp only at hSw); go_simp; try (with_reducible rfl))
                simp only [Act.put, List.setIfInBounds_toArray, List.set_cons_zero, List.set_cons_succ]
                refine' wpAnyH_take (i := 5) (v := _) (by simp only [List.getElem?_toArray, List.getElem?_cons_succ, List.getElem?_cons_zero]; rfl) (by kernel_rfl) (by kernel_rfl) (by kernel_rfl) (by intro _ _ _ h; exact h) (Or.inl ⟨by rfl, ?hyzz2_5⟩) hHeld ?restzz2_5
                case hyzz2_5 => (intro w hSw; (try dsimp only at hSw); go_simp; try (with_reducible rfl))
                simp only [Act.put, List.setIfInBounds_toArray, List.set_cons_zero, List.set_cons_succ]
                refine' wpAnyH_take (i := 6) (v := _) (by simp only [List.getElem?_toArray, List.getElem?_cons_succ, List.getElem?_cons_zero]; rfl) (by kernel_rfl) (by kernel_rfl) (by kernel_rfl) (by intro _ _ _ h; exact h) (Or.inl ⟨by rfl, ?hyzz2_6⟩) hHeld ?restzz2_6
                case hyzz2_6 => (intro w hSw; (try dsimp only at hSw); go_simp; try (with_reducible rfl))
                simp only [Act.put, List.setIfInBounds_toArray, List.set_cons_zero, List.set_cons_succ]
                refine' wpAnyH_take (i := 7) (v := _) (by simp only [List.getElem?_toArray, List.getElem?_cons_succ, List.getElem?_cons_zero]; rfl) (by kernel_rfl) (by kernel_rfl) (by kernel_rfl) (by intro _ _ _ h; exact h) (Or.inl ⟨by rfl, ?hyzz2_7⟩) hHeld ?restzz2_7
                case hyzz2_7 => (intro w hSw; (try dsimp only at hSw); go_simp; try (with_reducible rfl))
                simp only [Act.put, List.setIfInBounds_toArray, List.set_cons_zero, List.set_cons_succ]
                refine' wpAnyH_take (i := 8) (v := _) (by simp only [List.getElem?_toArray, List.getElem?_cons_succ, List.getElem?_cons_zero]; rfl) (by kernel_rfl) (by kernel_rfl) (by kernel_rfl) (by intro _ _ _ h; exact h) (Or.inl ⟨by rfl, ?hyzz2_8⟩) hHeld ?restzz2_8
                case hyzz2_8 => (intro w hSw; (try dsimp only at hSw); go_simp; try (with_reducible rfl))
                simp only [Act.put, List.setIfInBounds_toArray, List.set_cons_zero, List.set_cons_succ]
                refine' wpAnyH_take (i := 9) (v := _) (by simp only [List.getElem?_toArray, List.getElem?_cons_succ, List.getElem?_cons_zero]; rfl) (by kernel_rfl) (by kernel_rfl) (by kernel_rfl) (by intro _ _ _ h; exact h) (Or.inl ⟨by rfl, ?hyzz2_9⟩) hHeld ?restzz2_9
                case hyzz2_9 => (intro w hSw; (try dsimp only at hSw); go_simp; try (with_reducible rfl))
                simp only [Act.put, List.setIfInBounds_toArray, List.set_cons_zero, List.set_cons_succ]
                refine' wpAnyH_take (i := 10) (v := _) (by simp only [List.getElem?_toArray, List.getElem?_cons_succ, List.getElem?_cons_zero]; rfl) (by kernel_rfl) (by kernel_rfl) (by kernel_rfl) (by intro _ _ _ h; exact h) (Or.inl ⟨by rfl, ?hyzz2_10⟩) hHeld ?restzz2_10
                case hyzz2_10 => (intro w hSw; (try dsimp only at hSw); go_simp; try (with_reducible rfl))
                simp only [Act.put, List.setIfInBounds_toArray, List.set_cons_zero, List.set_cons_succ]
                refine' wpAnyH_take (i := 11) (v := _) (by simp only [List.getElem?_toArray, List.getElem?_cons_succ, List.getElem?_cons_zero]; rfl) (by kernel_rfl) (by kernel_rfl) (by kernel_rfl) (by intro _ _ _ h; exact h) (Or.inl ⟨by rfl, ?hyzz2_11⟩) hHeld ?restzz2_11
                case hyzz2_11 => (intro w hSw; (try dsimp only at hSw); go_simp; try (with_reducible rfl))
                simp only [Act.put, List.setIfInBounds_toArray, List.set_cons_zero, List.set_cons_succ]
                refine' wpAnyH_take (i := 12) (v := _) (by simp only [List.getElem?_toArray, List.getElem?_cons_succ, List.getElem?_cons_zero]; rfl) (by kernel_rfl) (by kernel_rfl) (by kernel_rfl) (by intro _ _ _ h; exact h) (Or.inl ⟨by rfl, ?hyzz2_12⟩) hHeld ?restzz2_12
                case hyzz2_12 => (intro w hSw; (try dsimp only at hSw); go_simp; try (with_reducible rfl))
                simp only [Act.put, List.setIfInBounds_toArray, List.set_cons_zero, List.set_cons_succ]
                refine' wpAnyH_take (i := 13) (v := _) (by simp only [List.getElem?_toArray, List.getElem?_cons_succ, List.getElem?_cons_zero]; rfl) (by kernel_rfl) (by kernel_rfl) (by kernel_rfl) (by intro _ _ _ h; exact h) (Or.inl ⟨by rfl, ?hyzz2_13⟩) hHeld ?restzz2_13
                case hyzz2_13 => (intro w hSw; (try dsimp only at hSw); go_simp; try (with_reducible rfl))
                simp only [Act.put, List.setIfInBounds_toArray, List.set_cons_zero, List.set_cons_succ]
                refine' wpAnyH_take (i := 14) (v := _) (by simp only [List.getElem?_toArray, List.getElem?_cons_succ, List.getElem?_cons_zero]; rfl) (by kernel_rfl) (by kernel_rfl) (by kernel_rfl) (by intro _ _ _ h; exact h) (Or.inl ⟨by rfl, ?hyzz2_14⟩) hHeld ?restzz2_14
                case hyzz2_14 => (intro w hSw; (try dsimp only at hSw); go_simp; try (with_reducible rfl))
                simp only [Act.put, List.setIfInBounds_toArray, List.set_cons_zero, List.set_cons_succ]
                refine' wpAnyH_take (i := 15) (v := _) (by simp only [List.getElem?_toArray, List.getElem?_cons_succ, List.getElem?_cons_zero]; rfl) (by kernel_rfl) (by kernel_rfl) (by kernel_rfl) (by intro _ _ _ h; exact h) (Or.inl ⟨by rfl, ?hyzz2_15⟩) hHeld ?restzz2_15
                case hyzz2_15 => (intro w hSw; (try dsimp only at hSw); go_simp; try (with_reducible rfl))
                simp only [Act.put, List.setIfInBounds_toArray, List.set_cons_zero, List.set_cons_succ]
                refine' wpAnyH_take (i := 16) (v := _) (by simp only [List.getElem?_toArray, List.getElem?_cons_succ, List.getElem?_cons_zero]; rfl) (by kernel_rfl) (by kernel_rfl) (by kernel_rfl) (by intro _ _ _ h; exact h) (Or.inl ⟨by rfl, ?hyzz2_16⟩) hHeld ?restzz2_16
                case hyzz2_16 => (intro w hSw; (try dsimp only at hSw); go_simp; try (with_reducible rfl))
                simp only [Act.put, List.setIfInBounds_toArray, List.set_cons_zero, List.set_cons_succ]
                refine' wpAnyH_take (i := 17) (v := _) (by simp only [List.getElem?_toArray, List.getElem?_cons_succ, List.getElem?_cons_zero]; rfl) (by kernel_rfl) (by kernel_rfl) (by kernel_rfl) (by intro _ _ _ h; exact h) (Or.inl ⟨by rfl, ?hyzz2_17⟩) hHeld ?restzz2_17
                case hyzz2_17 => (intro w hSw; (try dsimp only at hSw); go_simp; try (with_reducible rfl))
                simp only [Act.put, List.setIfInBounds_toArray, List.set_cons_zero, List.set_cons_succ]
                refine' wpAnyH_take (i := 18) (v := _) (by simp only [List.getElem?_toArray, List.getElem?_cons_succ, List.getElem?_cons_zero]; rfl) (by kernel_rfl) (by kernel_rfl) (by kernel_rfl) (by intro _ _ _ h; exact h) (Or.inl ⟨by rfl, ?hyzz2_18⟩) hHeld ?restzz2_18
                case hyzz2_18 => (intro w hSw; (try dsimp only at hSw); go_simp; try (with_reducible rfl))
                simp only [Act.put, List.setIfInBounds_toArray, List.set_cons_zero, List.set_cons_succ]
                refine' wpAnyH_take (i := 19) (v := _) (by simp only [List.getElem?_toArray, List.getElem?_cons_succ, List.getElem?_cons_zero]; rfl) (by kernel_rfl) (by kernel_rfl) (by kernel_rfl) (by intro _ _ _ h; exact h) (Or.inl ⟨by rfl, ?hyzz2_19⟩) hHeld ?restzz2_19
                case hyzz2_19 => (intro w hSw; (try dsimp only at hSw); go_simp; try (with_reducible rfl))
                simp only [Act.put, List.setIfInBounds_toArray, List.set_cons_zero, List.set_cons_succ]
                refine wpAnyH_ready (rs := [20]) (by kernel_rfl) (by simp) (AllReadyH.cons (by simp only [List.getElem?_toArray, List.getElem?_cons_succ, List.getElem?_cons_zero]; rfl) (fun KK hKK => ?_) AllReadyH.nil)
                go_simp
                refine hKK.out _ _ ?_ (fun hHeld => ?_)
                · exact KEEP.out _ HO1.out.1
                clear hKK KK
                try simp only [Act.put, List.setIfInBounds_toArray, List.set_cons_zero, List.set_cons_succ]
                refine' wpAnyH_take (i := 21) (v := _) (by simp only [List.getElem?_toArray, List.getElem?_cons_succ, List.getElem?_cons_zero]; rfl) (by kernel_rfl) (by kernel_rfl) (by kernel_rfl) (by intro _ _ _ h; exact h) (Or.inl ⟨by rfl, ?hyzz2_21⟩) hHeld ?restzz2_21
                case hyzz2_21 => (intro w hSw; (try dsimp only at hSw); go_simp; try (with_reducible rfl))
                simp only [Act.put, List.setIfInBounds_toArray, List.set_cons_zero, List.set_cons_succ]
                refine wpAnyH_ready (rs := [22]) (by kernel_rfl) (by simp) (AllReadyH.cons (by simp only [List.getElem?_toArray, List.getElem?_cons_succ, List.getElem?_cons_zero]; rfl) (fun KK hKK => ?_) AllReadyH.nil)
                go_simp
                refine hKK.out _ _ ?_ (fun hHeld => ?_)
                · exact KEEP.out _ HO1.out.2.1
                clear hKK KK
                try simp only [Act.put, List.setIfInBounds_toArray, List.set_cons_zero, List.set_cons_succ]
                refine wpAnyH_ready (rs := [23]) (by kernel_rfl) (by simp) (AllReadyH.cons (by simp only [List.getElem?_toArray, List.getElem?_cons_succ, List.getElem?_cons_zero]; rfl) (fun KK hKK => ?_) AllReadyH.nil)
                go_simp
                refine hKK.out _ _ ?_ (fun hHeld => ?_)
                · exact KEEP.out _ HO2.out.1
                clear hKK KK
                try simp only [Act.put, List.setIfInBounds_toArray, List.set_cons_zero, List.set_cons_succ]
                refine' wpAnyH_take (i := 24) (v := _) (by simp only [List.getElem?_toArray, List.getElem?_cons_succ, List.getElem?_cons_zero]; rfl) (by kernel_rfl) (by kernel_rfl) (by kernel_rfl) (by intro _ _ _ h; exact h) (Or.inl ⟨by rfl, ?hyzz2_24⟩) hHeld ?restzz2_24
                case hyzz2_24 => (intro w hSw; (try dsimp only at hSw); go_simp; try (with_reducible rfl))
                simp only [Act.put, List.setIfInBounds_toArray, List.set_cons_zero, List.set_cons_succ]
                refine wpAnyH_ready (rs := [25]) (by kernel_rfl) (by simp) (AllReadyH.cons (by simp only [List.getElem?_toArray, List.getElem?_cons_succ, List.getElem?_cons_zero]; rfl) (fun KK hKK => ?_) AllReadyH.nil)
                go_simp
                refine hKK.out _ _ ?_ (fun hHeld => ?_)
                · exact KEEP.out _ HO2.out.2.1
                clear hKK KK
                try simp only [Act.put, List.setIfInBounds_toArray, List.set_cons_zero, List.set_cons_succ]
                refine wpAnyH_done (by kernel_rfl) ?_ _
                clear hHeld
                go_wp2_with fail
                go_ret
                refine ⟨by rw [HE.out.1]; rfl, H3.out.same HE.out.2 (D' := DD) ⟨HO2.out.2.1.os, HO2.out.2.1.tape, HO2.out.2.1.output, HO2.out.2.1.size, HO2.out.2.1.block⟩ ?_, (HT3.out.mono (S' := At mb) fun _ h => h.elim).grown (w := w3) ⟨HO2.out.2.1.os, HO2.out.2.1.tape, HO2.out.2.1.output, HO2.out.2.1.size, HO2.out.2.1.block⟩ (fun k hk => .inl (by injection hk with hk; exact hk.symm))⟩
                have h1 := HO2.out.2.2
                have e2 : (fun z => if z = nmOf y then a2 else if z = nmOf x then a1 else C z) = newC C ⟨3, nmOf x, nmOf y, N⟩ := by
                  rw [newC_move (o := ⟨3, nmOf x, nmOf y, N⟩) rfl]; funext z; show _ = (if z = nmOf y then C (nmOf y) + N else if z = nmOf x then C (nmOf x) - N else C z); rw [HV.out.2.2, HV1.out.2.2, HA.out.1, HA.out.2]
                rw [e2] at h1
                exact h1
          · have g1 : x.toList.isEmpty = false := by rw [tl, List.isEmpty_eq_false_iff]; exact hx0
            by_cases hsh : v0 < N
            · have e4 : decide (v0 < N) = true := by simpa using hsh
              have HE : Hid (R = 11 ∧ doE C K ⟨3, nmOf x, nmOf y, N⟩ ≠ 0) := by
                have h2 : doE C K ⟨3, nmOf x, nmOf y, N⟩ = 11 := by unfold doE; rw [if_neg (by rw [HC0.out]; simp), if_neg (show ¬ (3 : Int) = 1 by decide)]; rw [if_neg (fun e => e HX0.out), if_neg (show ¬ (3 : Int) = 2 by decide), if_neg (fun e => e HY0.out), if_pos ⟨hx0, by show C (nmOf x) < N; rw [HV.out.2.2]; exact hsh⟩]
                rw [← HR.out, h2]; exact ⟨rfl, by decide⟩
              clear hsh hx0
              go_wp2_with (go_quiet (fail))
              all_goals
                go_ret
                exact ⟨by rw [HE.out.1]; rfl, (H3.out.nope (by repeat (first | exact Turn.refl _ _ | apply Turn.drewN | apply Turn.drew))).none HE.out.2, (HT3.out.trans (by repeat (first | exact Turn.refl _ _ | apply Turn.drewN | apply Turn.drew))).mono fun _ h => h.elim⟩
            · have e4 : decide (v0 < N) = false := by simpa using hsh
              have HSH := Lib.hid hsh
              clear hsh
              by_cases hy0 : nmOf y = []
              · have g2 : y.toList.isEmpty = true := by rw [tl, hy0]; rfl
                have HE : Hid (R = 0 ∧ doE C K ⟨3, nmOf x, nmOf y, N⟩ = 0) := by
                  have h2 : doE C K ⟨3, nmOf x, nmOf y, N⟩ = 0 := by unfold doE; rw [if_neg (by rw [HC0.out]; simp), if_neg (show ¬ (3 : Int) = 1 by decide)]; rw [if_neg (fun e => e HX0.out), if_neg (show ¬ (3 : Int) = 2 by decide), if_neg (fun e => e HY0.out), if_neg (fun e => HSH.out (by have h9 : C (nmOf x) < N := e.2; rw [HV.out.2.2] at h9; exact h9)), if_neg (fun e => e.1 hy0)]
                  rw [← HR.out]; exact ⟨h2, h2⟩
                obtain ⟨a1, ha1⟩ : ∃ a1, v0 - N = a1 := ⟨_, rfl⟩
                obtain ⟨a2, ha2⟩ : ∃ a2, v1 + N = a2 := ⟨_, rfl⟩
                have hr1 : -4611686018427387904 ≤ a1 ∧ a1 ≤ 4611686018427387904 := by have := HV.out; have := HMV.out; omega
                have hr2 : -4611686018427387904 ≤ a2 ∧ a2 ≤ 4611686018427387904 := by have := HV1.out; have := HMV.out; omega
                have hw1 : wrap64 (v0 - N) = a1 := by rw [ha1]; exact IntWalk.wrap64_in _ ⟨by omega, by omega⟩
                have hw1' : IntKind.i64.wrap (v0 - N) = a1 := by rw [ha1]; exact IntWalk.i64_in _ ⟨by omega, by omega⟩
                have hw2 : wrap64 (v1 + N) = a2 := by rw [ha2]; exact IntWalk.wrap64_in _ ⟨by omega, by omega⟩
                have hw2' : IntKind.i64.wrap (v1 + N) = a2 := by rw [ha2]; exact IntWalk.i64_in _ ⟨by omega, by omega⟩
                have hDd := HD3.out.turn (Turn.refl Nope w3).drew fun h => h
                obtain ⟨p1, st1, u1, u2, hent1, hst1, hown1, hg1, hg1'⟩ := hDd.entry (x := x) HN.out.2.1 (by have := HN.out.1; unfold maxLen; omega) (wf_small hr1.1 hr1.2)
                have hC1 := hDd.put hown1 rfl
                rw [if_pos HX0.out] at hC1
                obtain ⟨p2, st2, u3, u4, hent2, hst2, hown2, hg2, hg2'⟩ := hC1.entry (x := y) HN.out.2.2 (by have := HN.out.1; unfold maxLen; omega) (wf_small hr2.1 hr2.2)
                have hC2 := hC1.put hown2 rfl
                rw [if_pos HY0.out] at hC2
                obtain ⟨DD, hDD⟩ : ∃ DD, (D.put (.string (nmOf x)) (.lit (.int .i64 a1))).put (.string (nmOf y)) (.lit (.int .i64 a2)) = DD := ⟨_, rfl⟩
                rw [hDD] at hC2
                clear hDD
                have HO1 := Lib.hid (And.intro hg1' (And.intro hg1 trivial))
                have HO2 := Lib.hid (And.intro (hg1.andThen hg2' fun j hj => .inr hj) (And.intro (hg1.andThen hg2 fun j hj => .inr hj) hC2))
                have HA := Lib.hid (And.intro ha1 ha2)
                have KEEP : Hid (∀ W, (w3.drew).grownBy W (some mb) → W.cell? ⟨s, 0, none⟩ = some (.map (some mb)) ∧ W.cell? ⟨B, 1, none⟩ = some (.string x) ∧ W.cell? ⟨B, 2, none⟩ = some (.string y) ∧ W.cell? ⟨B, 3, none⟩ = some (.int .i64 N)) := fun W hg => by
                  have h1 := blk_grown (w := w3.drew) H3.out.hs hg (fun e => by injection e with e; exact H3.out.ne e.symm)
                  have h2 := blk_grown (w := w3.drew) HB3.out hg (fun e => by injection e with e; obtain ⟨es, clock, hb⟩ := HD3.out.blk; rw [e, HB3.out] at hb; cases hb)
                  exact ⟨by rw [blk_cell h1]; rfl, by rw [blk_cell h2]; rfl, by rw [blk_cell h2]; rfl, by rw [blk_cell h2]; rfl⟩
                clear hr1 hr2 ha1 ha2 hDd hown1 hg1 hg1' hC1 hown2 hg2 hg2' hC2 hx0 hy0
                go_upto_region 26 with (fail)
                refine wp_region_held_drew (S := fun W => W.cell? ⟨s, 0, none⟩ = some (.map (some mb)) ∧ W.cell? ⟨B, 1, none⟩ = some (.string x) ∧ W.cell? ⟨B, 2, none⟩ = some (.string y) ∧ W.cell? ⟨B, 3, none⟩ = some (.int .i64 N)) (by kernel_rfl) ⟨c0, b1, b2, b3⟩ (fun hHeld => ?_)
                refine' wpAnyH_take (i := 0) (v := _) (by simp only [List.getElem?_toArray, List.getElem?_cons_succ, List.getElem?_cons_zero]; rfl) (by kernel_rfl) (by kernel_rfl) (by kernel_rfl) (by intro _ _ _ h; exact h) (Or.inl ⟨by rfl, ?hyzz3_0⟩) hHeld ?restzz3_0
                case hyzz3_0 => (intro w hSw; (try dsimp only at hSw); go_simp; try (with_reducible rfl))
                simp only [Act.put, List.setIfInBounds_toArray, List.set_cons_zero, List.set_cons_succ]
                refine' wpAnyH_take (i := 1) (v := _) (by simp only [List.getElem?_toArray, List.getElem?_cons_succ, List.getElem?_cons_zero]; rfl) (by kernel_rfl) (by kernel_rfl) (by kernel_rfl) (by intro _ _ _ h; exact h) (Or.inl ⟨by rfl, ?hyzz3_1⟩) hHeld ?restzz3_1
                case hyzz3_1 => (intro w hSw; (try dsimp only at hSw); go_simp; try (with_reducible rfl))
                simp only [Act.put, List.setIfInBounds_toArray, List.set_cons_zero, List.set_cons_succ]
                refine' wpAnyH_take (i := 2) (v := _) (by simp only [List.getElem?_toArray, List.getElem?_cons_succ, List.getElem?_cons_zero]; rfl) (by kernel_rfl) (by kernel_rfl) (by kernel_rfl) (by intro _ _ _ h; exact h) (Or.inl ⟨by rfl, ?hyzz3_2⟩) hHeld ?restzz3_2
                case hyzz3_2 => (intro w hSw; (try dsimp only at hSw); go_simp; try (with_reducible rfl))
                simp only [Act.put, List.setIfInBounds_toArray, List.set_cons_zero, List.set_cons_succ]
                refine' wpAnyH_take (i := 3) (v := _) (by simp only [List.getElem?_toArray, List.getElem?_cons_succ, List.getElem?_cons_zero]; rfl) (by kernel_rfl) (by kernel_rfl) (by kernel_rfl) (by intro _ _ _ h; exact h) (Or.inl ⟨by rfl, ?hyzz3_3⟩) hHeld ?restzz3_3
                case hyzz3_3 => (intro w hSw; (try dsimp only at hSw); go_simp; try (with_reducible rfl))
                simp only [Act.put, List.setIfInBounds_toArray, List.set_cons_zero, List.set_cons_succ]
                refine' wpAnyH_take (i := 4) (v := _) (by simp only [List.getElem?_toArray, List.getElem?_cons_succ, List.getElem?_cons_zero]; rfl) (by kernel_rfl) (by kernel_rfl) (by kernel_rfl) (by intro _ _ _ h; exact h) (Or.inl ⟨by rfl, ?hyzz3_4⟩) hHeld ?restzz3_4
                case hyzz3_4 => (intro w hSw; (try dsimp only at hSw); go_simp; try (with_reducible rfl))
                simp only [Act.put, List.setIfInBounds_toArray, List.set_cons_zero, List.set_cons_succ]
                refine' wpAnyH_take (i := 5) (v := _) (by simp only [List.getElem?_toArray, List.getElem?_cons_succ, List.getElem?_cons_zero]; rfl) (by kernel_rfl) (by kernel_rfl) (by kernel_rfl) (by intro _ _ _ h; exact h) (Or.inl ⟨by rfl, ?hyzz3_5⟩) hHeld ?restzz3_5
                case hyzz3_5 => (intro w hSw; (try dsimp only at hSw); go_simp; try (with_reducible rfl))
                simp only [Act.put, List.setIfInBounds_toArray, List.set_cons_zero, List.set_cons_succ]
                refine' wpAnyH_take (i := 6) (v := _) (by simp only [List.getElem?_toArray, List.getElem?_cons_succ, List.getElem?_cons_zero]; rfl) (by kernel_rfl) (by kernel_rfl) (by kernel_rfl) (by intro _ _ _ h; exact h) (Or.inl ⟨by rfl, ?hyzz3_6⟩) hHeld ?restzz3_6
                case hyzz3_6 => (intro w hSw; (try dsimp only at hSw); go_simp; try (with_reducible rfl))
                simp only [Act.put, List.setIfInBounds_toArray, List.set_cons_zero, List.set_cons_succ]
                refine' wpAnyH_take (i := 7) (v := _) (by simp only [List.getElem?_toArray, List.getElem?_cons_succ, List.getElem?_cons_zero]; rfl) (by kernel_rfl) (by kernel_rfl) (by kernel_rfl) (by intro _ _ _ h; exact h) (Or.inl ⟨by rfl, ?hyzz3_7⟩) hHeld ?restzz3_7
                case hyzz3_7 => (intro w hSw; (try dsimp only at hSw); go_simp; try (with_reducible rfl))
                simp only [Act.put, List.setIfInBounds_toArray, List.set_cons_zero, List.set_cons_succ]
                refine' wpAnyH_take (i := 8) (v := _) (by simp only [List.getElem?_toArray, List.getElem?_cons_succ, List.getElem?_cons_zero]; rfl) (by kernel_rfl) (by kernel_rfl) (by kernel_rfl) (by intro _ _ _ h; exact h) (Or.inl ⟨by rfl, ?hyzz3_8⟩) hHeld ?restzz3_8
                case hyzz3_8 => (intro w hSw; (try dsimp only at hSw); go_simp; try (with_reducible rfl))
                simp only [Act.put, List.setIfInBounds_toArray, List.set_cons_zero, List.set_cons_succ]
                refine' wpAnyH_take (i := 9) (v := _) (by simp only [List.getElem?_toArray, List.getElem?_cons_succ, List.getElem?_cons_zero]; rfl) (by kernel_rfl) (by kernel_rfl) (by kernel_rfl) (by intro _ _ _ h; exact h) (Or.inl ⟨by rfl, ?hyzz3_9⟩) hHeld ?restzz3_9
                case hyzz3_9 => (intro w hSw; (try dsimp only at hSw); go_simp; try (with_reducible rfl))
                simp only [Act.put, List.setIfInBounds_toArray, List.set_cons_zero, List.set_cons_succ]
                refine' wpAnyH_take (i := 10) (v := _) (by simp only [List.getElem?_toArray, List.getElem?_cons_succ, List.getElem?_cons_zero]; rfl) (by kernel_rfl) (by kernel_rfl) (by kernel_rfl) (by intro _ _ _ h; exact h) (Or.inl ⟨by rfl, ?hyzz3_10⟩) hHeld ?restzz3_10
                case hyzz3_10 => (intro w hSw; (try dsimp only at hSw); go_simp; try (with_reducible rfl))
                simp only [Act.put, List.setIfInBounds_toArray, List.set_cons_zero, List.set_cons_succ]
                refine' wpAnyH_take (i := 11) (v := _) (by simp only [List.getElem?_toArray, List.getElem?_cons_succ, List.getElem?_cons_zero]; rfl) (by kernel_rfl) (by kernel_rfl) (by kernel_rfl) (by intro _ _ _ h; exact h) (Or.inl ⟨by rfl, ?hyzz3_11⟩) hHeld ?restzz3_11
                case hyzz3_11 => (intro w hSw; (try dsimp only at hSw); go_simp; try (with_reducible rfl))
                simp only [Act.put, List.setIfInBounds_toArray, List.set_cons_zero, List.set_cons_succ]
                refine' wpAnyH_take (i := 12) (v := _) (by simp only [List.getElem?_toArray, List.getElem?_cons_succ, List.getElem?_cons_zero]; rfl) (by kernel_rfl) (by kernel_rfl) (by kernel_rfl) (by intro _ _ _ h; exact h) (Or.inl ⟨by rfl, ?hyzz3_12⟩) hHeld ?restzz3_12
                case hyzz3_12 => (intro w hSw; (try dsimp only at hSw); go_simp; try (with_reducible rfl))
                simp only [Act.put, List.setIfInBounds_toArray, List.set_cons_zero, List.set_cons_succ]
                refine' wpAnyH_take (i := 13) (v := _) (by simp only [List.getElem?_toArray, List.getElem?_cons_succ, List.getElem?_cons_zero]; rfl) (by kernel_rfl) (by kernel_rfl) (by kernel_rfl) (by intro _ _ _ h; exact h) (Or.inl ⟨by rfl, ?hyzz3_13⟩) hHeld ?restzz3_13
                case hyzz3_13 => (intro w hSw; (try dsimp only at hSw); go_simp; try (with_reducible rfl))
                simp only [Act.put, List.setIfInBounds_toArray, List.set_cons_zero, List.set_cons_succ]
                refine' wpAnyH_take (i := 14) (v := _) (by simp only [List.getElem?_toArray, List.getElem?_cons_succ, List.getElem?_cons_zero]; rfl) (by kernel_rfl) (by kernel_rfl) (by kernel_rfl) (by intro _ _ _ h; exact h) (Or.inl ⟨by rfl, ?hyzz3_14⟩) hHeld ?restzz3_14
                case hyzz3_14 => (intro w hSw; (try dsimp only at hSw); go_simp; try (with_reducible rfl))
                simp only [Act.put, List.setIfInBounds_toArray, List.set_cons_zero, List.set_cons_succ]
                refine' wpAnyH_take (i := 15) (v := _) (by simp only [List.getElem?_toArray, List.getElem?_cons_succ, List.getElem?_cons_zero]; rfl) (by kernel_rfl) (by kernel_rfl) (by kernel_rfl) (by intro _ _ _ h; exact h) (Or.inl ⟨by rfl, ?hyzz3_15⟩) hHeld ?restzz3_15
                case hyzz3_15 => (intro w hSw; (try dsimp only at hSw); go_simp; try (with_reducible rfl))
                simp only [Act.put, List.setIfInBounds_toArray, List.set_cons_zero, List.set_cons_succ]
                refine' wpAnyH_take (i := 16) (v := _) (by simp only [List.getElem?_toArray, List.getElem?_cons_succ, List.getElem?_cons_zero]; rfl) (by kernel_rfl) (by kernel_rfl) (by kernel_rfl) (by intro _ _ _ h; exact h) (Or.inl ⟨by rfl, ?hyzz3_16⟩) hHeld ?restzz3_16
                case hyzz3_16 => (intro w hSw; (try dsimp only at hSw); go_simp; try (with_reducible rfl))
                simp only [Act.put, List.setIfInBounds_toArray, List.set_cons_zero, List.set_cons_succ]
                refine' wpAnyH_take (i := 17) (v := _) (by simp only [List.getElem?_toArray, List.getElem?_cons_succ, List.getElem?_cons_zero]; rfl) (by kernel_rfl) (by kernel_rfl) (by kernel_rfl) (by intro _ _ _ h; exact h) (Or.inl ⟨by rfl, ?hyzz3_17⟩) hHeld ?restzz3_17
                case hyzz3_17 => (intro w hSw; (try dsimp only at hSw); go_simp; try (with_reducible rfl))
                simp only [Act.put, List.setIfInBounds_toArray, List.set_cons_zero, List.set_cons_succ]
                refine' wpAnyH_take (i := 18) (v := _) (by simp only [List.getElem?_toArray, List.getElem?_cons_succ, List.getElem?_cons_zero]; rfl) (by kernel_rfl) (by kernel_rfl) (by kernel_rfl) (by intro _ _ _ h; exact h) (Or.inl ⟨by rfl, ?hyzz3_18⟩) hHeld ?restzz3_18
                case hyzz3_18 => (intro w hSw; (try dsimp only at hSw); go_simp; try (with_reducible rfl))
                simp only [Act.put, List.setIfInBounds_toArray, List.set_cons_zero, List.set_cons_succ]
                refine' wpAnyH_take (i := 19) (v := _) (by simp only [List.getElem?_toArray, List.getElem?_cons_succ, List.getElem?_cons_zero]; rfl) (by kernel_rfl) (by kernel_rfl) (by kernel_rfl) (by intro _ _ _ h; exact h) (Or.inl ⟨by rfl, ?hyzz3_19⟩) hHeld ?restzz3_19
                case hyzz3_19 => (intro w hSw; (try dsimp only at hSw); go_simp; try (with_reducible rfl))
                simp only [Act.put, List.setIfInBounds_toArray, List.set_cons_zero, List.set_cons_succ]
                refine wpAnyH_ready (rs := [20]) (by kernel_rfl) (by simp) (AllReadyH.cons (by simp only [List.getElem?_toArray, List.getElem?_cons_succ, List.getElem?_cons_zero]; rfl) (fun KK hKK => ?_) AllReadyH.nil)
                go_simp
                refine hKK.out _ _ ?_ (fun hHeld => ?_)
                · exact KEEP.out _ HO1.out.1
                clear hKK KK
                try simp only [Act.put, List.setIfInBounds_toArray, List.set_cons_zero, List.set_cons_succ]
                refine' wpAnyH_take (i := 21) (v := _) (by simp only [List.getElem?_toArray, List.getElem?_cons_succ, List.getElem?_cons_zero]; rfl) (by kernel_rfl) (by kernel_rfl) (by kernel_rfl) (by intro _ _ _ h; exact h) (Or.inl ⟨by rfl, ?hyzz3_21⟩) hHeld ?restzz3_21
                case hyzz3_21 => (intro w hSw; (try dsimp only at hSw); go_simp; try (with_reducible rfl))
                simp only [Act.put, List.setIfInBounds_toArray, List.set_cons_zero, List.set_cons_succ]
                refine wpAnyH_ready (rs := [22]) (by kernel_rfl) (by simp) (AllReadyH.cons (by simp only [List.getElem?_toArray, List.getElem?_cons_succ, List.getElem?_cons_zero]; rfl) (fun KK hKK => ?_) AllReadyH.nil)
                go_simp
                refine hKK.out _ _ ?_ (fun hHeld => ?_)
                · exact KEEP.out _ HO1.out.2.1
                clear hKK KK
                try simp only [Act.put, List.setIfInBounds_toArray, List.set_cons_zero, List.set_cons_succ]
                refine wpAnyH_ready (rs := [23]) (by kernel_rfl) (by simp) (AllReadyH.cons (by simp only [List.getElem?_toArray, List.getElem?_cons_succ, List.getElem?_cons_zero]; rfl) (fun KK hKK => ?_) AllReadyH.nil)
                go_simp
                refine hKK.out _ _ ?_ (fun hHeld => ?_)
                · exact KEEP.out _ HO2.out.1
                clear hKK KK
                try simp only [Act.put, List.setIfInBounds_toArray, List.set_cons_zero, List.set_cons_succ]
                refine' wpAnyH_take (i := 24) (v := _) (by simp only [List.getElem?_toArray, List.getElem?_cons_succ, List.getElem?_cons_zero]; rfl) (by kernel_rfl) (by kernel_rfl) (by kernel_rfl) (by intro _ _ _ h; exact h) (Or.inl ⟨by rfl, ?hyzz3_24⟩) hHeld ?restzz3_24
                case hyzz3_24 => (intro w hSw; (try dsimp only at hSw); go_simp; try (with_reducible rfl))
                simp only [Act.put, List.setIfInBounds_toArray, List.set_cons_zero, List.set_cons_succ]
                refine wpAnyH_ready (rs := [25]) (by kernel_rfl) (by simp) (AllReadyH.cons (by simp only [List.getElem?_toArray, List.getElem?_cons_succ, List.getElem?_cons_zero]; rfl) (fun KK hKK => ?_) AllReadyH.nil)
                go_simp
                refine hKK.out _ _ ?_ (fun hHeld => ?_)
                · exact KEEP.out _ HO2.out.2.1
                clear hKK KK
                try simp only [Act.put, List.setIfInBounds_toArray, List.set_cons_zero, List.set_cons_succ]
                refine wpAnyH_done (by kernel_rfl) ?_ _
                clear hHeld
                go_wp2_with fail
                go_ret
                refine ⟨by rw [HE.out.1]; rfl, H3.out.same HE.out.2 (D' := DD) ⟨HO2.out.2.1.os, HO2.out.2.1.tape, HO2.out.2.1.output, HO2.out.2.1.size, HO2.out.2.1.block⟩ ?_, (HT3.out.mono (S' := At mb) fun _ h => h.elim).grown (w := w3) ⟨HO2.out.2.1.os, HO2.out.2.1.tape, HO2.out.2.1.output, HO2.out.2.1.size, HO2.out.2.1.block⟩ (fun k hk => .inl (by injection hk with hk; exact hk.symm))⟩
                have h1 := HO2.out.2.2
                have e2 : (fun z => if z = nmOf y then a2 else if z = nmOf x then a1 else C z) = newC C ⟨3, nmOf x, nmOf y, N⟩ := by
                  rw [newC_move (o := ⟨3, nmOf x, nmOf y, N⟩) rfl]; funext z; show _ = (if z = nmOf y then C (nmOf y) + N else if z = nmOf x then C (nmOf x) - N else C z); rw [HV.out.2.2, HV1.out.2.2, HA.out.1, HA.out.2]
                rw [e2] at h1
                exact h1
              · have g2 : y.toList.isEmpty = false := by rw [tl, List.isEmpty_eq_false_iff]; exact hy0
                have s1 : wrap64 (v1 + N) = v1 + N := IntWalk.wrap64_in _ ⟨by have := HV1.out; have := HMV.out; omega, by have := HV1.out; have := HMV.out; omega⟩
                by_cases hov : 1099511627776 < v1 + N
                · have e5 : decide (1099511627776 < v1 + N) = true := by simpa using hov
                  have HE : Hid (R = 10 ∧ doE C K ⟨3, nmOf x, nmOf y, N⟩ ≠ 0) := by
                    have h2 : doE C K ⟨3, nmOf x, nmOf y, N⟩ = 10 := by unfold doE; rw [if_neg (by rw [HC0.out]; simp), if_neg (show ¬ (3 : Int) = 1 by decide)]; rw [if_neg (fun e => e HX0.out), if_neg (show ¬ (3 : Int) = 2 by decide), if_neg (fun e => e HY0.out), if_neg (fun e => HSH.out (by have h9 : C (nmOf x) < N := e.2; rw [HV.out.2.2] at h9; exact h9)), if_pos ⟨hy0, by show 1099511627776 < C (nmOf y) + N; rw [HV1.out.2.2]; exact hov⟩]
                    rw [← HR.out, h2]; exact ⟨rfl, by decide⟩
                  clear hov hx0 hy0
                  go_wp2_with (go_quiet (fail))
                  all_goals
                    go_ret
                    exact ⟨by rw [HE.out.1]; rfl, (H3.out.nope (by repeat (first | exact Turn.refl _ _ | apply Turn.drewN | apply Turn.drew))).none HE.out.2, (HT3.out.trans (by repeat (first | exact Turn.refl _ _ | apply Turn.drewN | apply Turn.drew))).mono fun _ h => h.elim⟩
                · have e5 : decide (1099511627776 < v1 + N) = false := by simpa using hov
                  have HOV := Lib.hid hov
                  clear hov
                  have e5v : ∀ a2, v1 + N = a2 → decide (1099511627776 < a2) = false := fun a2 h => by rw [← h]; exact e5
                  have HE : Hid (R = 0 ∧ doE C K ⟨3, nmOf x, nmOf y, N⟩ = 0) := by
                    have h2 : doE C K ⟨3, nmOf x, nmOf y, N⟩ = 0 := by unfold doE; rw [if_neg (by rw [HC0.out]; simp), if_neg (show ¬ (3 : Int) = 1 by decide)]; rw [if_neg (fun e => e HX0.out), if_neg (show ¬ (3 : Int) = 2 by decide), if_neg (fun e => e HY0.out), if_neg (fun e => HSH.out (by have h9 : C (nmOf x) < N := e.2; rw [HV.out.2.2] at h9; exact h9)), if_neg (fun e => HOV.out (by have h9 : 1099511627776 < C (nmOf y) + N := e.2; rw [HV1.out.2.2] at h9; exact h9))]
                    rw [← HR.out]; exact ⟨h2, h2⟩
                  obtain ⟨a1, ha1⟩ : ∃ a1, v0 - N = a1 := ⟨_, rfl⟩
                  obtain ⟨a2, ha2⟩ : ∃ a2, v1 + N = a2 := ⟨_, rfl⟩
                  have e5w := e5v a2 ha2
                  have hr1 : -4611686018427387904 ≤ a1 ∧ a1 ≤ 4611686018427387904 := by have := HV.out; have := HMV.out; omega
                  have hr2 : -4611686018427387904 ≤ a2 ∧ a2 ≤ 4611686018427387904 := by have := HV1.out; have := HMV.out; omega
                  have hw1 : wrap64 (v0 - N) = a1 := by rw [ha1]; exact IntWalk.wrap64_in _ ⟨by omega, by omega⟩
                  have hw1' : IntKind.i64.wrap (v0 - N) = a1 := by rw [ha1]; exact IntWalk.i64_in _ ⟨by omega, by omega⟩
                  have hw2 : wrap64 (v1 + N) = a2 := by rw [ha2]; exact IntWalk.wrap64_in _ ⟨by omega, by omega⟩
                  have hw2' : IntKind.i64.wrap (v1 + N) = a2 := by rw [ha2]; exact IntWalk.i64_in _ ⟨by omega, by omega⟩
                  have hDd := HD3.out.turn (Turn.refl Nope w3).drew fun h => h
                  obtain ⟨p1, st1, u1, u2, hent1, hst1, hown1, hg1, hg1'⟩ := hDd.entry (x := x) HN.out.2.1 (by have := HN.out.1; unfold maxLen; omega) (wf_small hr1.1 hr1.2)
                  have hC1 := hDd.put hown1 rfl
                  rw [if_pos HX0.out] at hC1
                  obtain ⟨p2, st2, u3, u4, hent2, hst2, hown2, hg2, hg2'⟩ := hC1.entry (x := y) HN.out.2.2 (by have := HN.out.1; unfold maxLen; omega) (wf_small hr2.1 hr2.2)
                  have hC2 := hC1.put hown2 rfl
                  rw [if_pos HY0.out] at hC2
                  obtain ⟨DD, hDD⟩ : ∃ DD, (D.put (.string (nmOf x)) (.lit (.int .i64 a1))).put (.string (nmOf y)) (.lit (.int .i64 a2)) = DD := ⟨_, rfl⟩
                  rw [hDD] at hC2
                  clear hDD
                  have HO1 := Lib.hid (And.intro hg1' (And.intro hg1 trivial))
                  have HO2 := Lib.hid (And.intro (hg1.andThen hg2' fun j hj => .inr hj) (And.intro (hg1.andThen hg2 fun j hj => .inr hj) hC2))
                  have HA := Lib.hid (And.intro ha1 ha2)
                  have KEEP : Hid (∀ W, (w3.drew).grownBy W (some mb) → W.cell? ⟨s, 0, none⟩ = some (.map (some mb)) ∧ W.cell? ⟨B, 1, none⟩ = some (.string x) ∧ W.cell? ⟨B, 2, none⟩ = some (.string y) ∧ W.cell? ⟨B, 3, none⟩ = some (.int .i64 N)) := fun W hg => by
                    have h1 := blk_grown (w := w3.drew) H3.out.hs hg (fun e => by injection e with e; exact H3.out.ne e.symm)
                    have h2 := blk_grown (w := w3.drew) HB3.out hg (fun e => by injection e with e; obtain ⟨es, clock, hb⟩ := HD3.out.blk; rw [e, HB3.out] at hb; cases hb)
                    exact ⟨by rw [blk_cell h1]; rfl, by rw [blk_cell h2]; rfl, by rw [blk_cell h2]; rfl, by rw [blk_cell h2]; rfl⟩
                  clear hr1 hr2 ha1 ha2 hDd hown1 hg1 hg1' hC1 hown2 hg2 hg2' hC2 hx0 hy0
                  clear e5v s1
                  go_upto_region 26 with (fail)
                  refine wp_region_held_drew (S := fun W => W.cell? ⟨s, 0, none⟩ = some (.map (some mb)) ∧ W.cell? ⟨B, 1, none⟩ = some (.string x) ∧ W.cell? ⟨B, 2, none⟩ = some (.string y) ∧ W.cell? ⟨B, 3, none⟩ = some (.int .i64 N)) (by kernel_rfl) ⟨c0, b1, b2, b3⟩ (fun hHeld => ?_)
                  refine' wpAnyH_take (i := 0) (v := _) (by simp only [List.getElem?_toArray, List.getElem?_cons_succ, List.getElem?_cons_zero]; rfl) (by kernel_rfl) (by kernel_rfl) (by kernel_rfl) (by intro _ _ _ h; exact h) (Or.inl ⟨by rfl, ?hyzz4_0⟩) hHeld ?restzz4_0
                  case hyzz4_0 => (intro w hSw; (try dsimp only at hSw); go_simp; try (with_reducible rfl))
                  simp only [Act.put, List.setIfInBounds_toArray, List.set_cons_zero, List.set_cons_succ]
                  refine' wpAnyH_take (i := 1) (v := _) (by simp only [List.getElem?_toArray, List.getElem?_cons_succ, List.getElem?_cons_zero]; rfl) (by kernel_rfl) (by kernel_rfl) (by kernel_rfl) (by intro _ _ _ h; exact h) (Or.inl ⟨by rfl, ?hyzz4_1⟩) hHeld ?restzz4_1
                  case hyzz4_1 => (intro w hSw; (try dsimp only at hSw); go_simp; try (with_reducible rfl))
                  simp only [Act.put, List.setIfInBounds_toArray, List.set_cons_zero, List.set_cons_succ]
                  refine' wpAnyH_take (i := 2) (v := _) (by simp only [List.getElem?_toArray, List.getElem?_cons_succ, List.getElem?_cons_zero]; rfl) (by kernel_rfl) (by kernel_rfl) (by kernel_rfl) (by intro _ _ _ h; exact h) (Or.inl ⟨by rfl, ?hyzz4_2⟩) hHeld ?restzz4_2
                  case hyzz4_2 => (intro w hSw; (try dsimp only at hSw); go_simp; try (with_reducible rfl))
                  simp only [Act.put, List.setIfInBounds_toArray, List.set_cons_zero, List.set_cons_succ]
                  refine' wpAnyH_take (i := 3) (v := _) (by simp only [List.getElem?_toArray, List.getElem?_cons_succ, List.getElem?_cons_zero]; rfl) (by kernel_rfl) (by kernel_rfl) (by kernel_rfl) (by intro _ _ _ h; exact h) (Or.inl ⟨by rfl, ?hyzz4_3⟩) hHeld ?restzz4_3
                  case hyzz4_3 => (intro w hSw; (try dsimp only at hSw); go_simp; try (with_reducible rfl))
                  simp only [Act.put, List.setIfInBounds_toArray, List.set_cons_zero, List.set_cons_succ]
                  refine' wpAnyH_take (i := 4) (v := _) (by simp only [List.getElem?_toArray, List.getElem?_cons_succ, List.getElem?_cons_zero]; rfl) (by kernel_rfl) (by kernel_rfl) (by kernel_rfl) (by intro _ _ _ h; exact h) (Or.inl ⟨by rfl, ?hyzz4_4⟩) hHeld ?restzz4_4
                  case hyzz4_4 => (intro w hSw; (try dsimp only at hSw); go_simp; try (with_reducible rfl))
                  simp only [Act.put, List.setIfInBounds_toArray, List.set_cons_zero, List.set_cons_succ]
                  refine' wpAnyH_take (i := 5) (v := _) (by simp only [List.getElem?_toArray, List.getElem?_cons_succ, List.getElem?_cons_zero]; rfl) (by kernel_rfl) (by kernel_rfl) (by kernel_rfl) (by intro _ _ _ h; exact h) (Or.inl ⟨by rfl, ?hyzz4_5⟩) hHeld ?restzz4_5
                  case hyzz4_5 => (intro w hSw; (try dsimp only at hSw); go_simp; try (with_reducible rfl))
                  simp only [Act.put, List.setIfInBounds_toArray, List.set_cons_zero, List.set_cons_succ]
                  refine' wpAnyH_take (i := 6) (v := _) (by simp only [List.getElem?_toArray, List.getElem?_cons_succ, List.getElem?_cons_zero]; rfl) (by kernel_rfl) (by kernel_rfl) (by kernel_rfl) (by intro _ _ _ h; exact h) (Or.inl ⟨by rfl, ?hyzz4_6⟩) hHeld ?restzz4_6
                  case hyzz4_6 => (intro w hSw; (try dsimp only at hSw); go_simp; try (with_reducible rfl))
                  simp only [Act.put, List.setIfInBounds_toArray, List.set_cons_zero, List.set_cons_succ]
                  refine' wpAnyH_take (i := 7) (v := _) (by simp only [List.getElem?_toArray, List.getElem?_cons_succ, List.getElem?_cons_zero]; rfl) (by kernel_rfl) (by kernel_rfl) (by kernel_rfl) (by intro _ _ _ h; exact h) (Or.inl ⟨by rfl, ?hyzz4_7⟩) hHeld ?restzz4_7
                  case hyzz4_7 => (intro w hSw; (try dsimp only at hSw); go_simp; try (with_reducible rfl))
                  simp only [Act.put, List.setIfInBounds_toArray, List.set_cons_zero, List.set_cons_succ]
                  refine' wpAnyH_take (i := 8) (v := _) (by simp only [List.getElem?_toArray, List.getElem?_cons_succ, List.getElem?_cons_zero]; rfl) (by kernel_rfl) (by kernel_rfl) (by kernel_rfl) (by intro _ _ _ h; exact h) (Or.inl ⟨by rfl, ?hyzz4_8⟩) hHeld ?restzz4_8
                  case hyzz4_8 => (intro w hSw; (try dsimp only at hSw); go_simp; try (with_reducible rfl))
                  simp only [Act.put, List.setIfInBounds_toArray, List.set_cons_zero, List.set_cons_succ]
                  refine' wpAnyH_take (i := 9) (v := _) (by simp only [List.getElem?_toArray, List.getElem?_cons_succ, List.getElem?_cons_zero]; rfl) (by kernel_rfl) (by kernel_rfl) (by kernel_rfl) (by intro _ _ _ h; exact h) (Or.inl ⟨by rfl, ?hyzz4_9⟩) hHeld ?restzz4_9
                  case hyzz4_9 => (intro w hSw; (try dsimp only at hSw); go_simp; try (with_reducible rfl))
                  simp only [Act.put, List.setIfInBounds_toArray, List.set_cons_zero, List.set_cons_succ]
                  refine' wpAnyH_take (i := 10) (v := _) (by simp only [List.getElem?_toArray, List.getElem?_cons_succ, List.getElem?_cons_zero]; rfl) (by kernel_rfl) (by kernel_rfl) (by kernel_rfl) (by intro _ _ _ h; exact h) (Or.inl ⟨by rfl, ?hyzz4_10⟩) hHeld ?restzz4_10
                  case hyzz4_10 => (intro w hSw; (try dsimp only at hSw); go_simp; try (with_reducible rfl))
                  simp only [Act.put, List.setIfInBounds_toArray, List.set_cons_zero, List.set_cons_succ]
                  refine' wpAnyH_take (i := 11) (v := _) (by simp only [List.getElem?_toArray, List.getElem?_cons_succ, List.getElem?_cons_zero]; rfl) (by kernel_rfl) (by kernel_rfl) (by kernel_rfl) (by intro _ _ _ h; exact h) (Or.inl ⟨by rfl, ?hyzz4_11⟩) hHeld ?restzz4_11
                  case hyzz4_11 => (intro w hSw; (try dsimp only at hSw); go_simp; try (with_reducible rfl))
                  simp only [Act.put, List.setIfInBounds_toArray, List.set_cons_zero, List.set_cons_succ]
                  refine' wpAnyH_take (i := 12) (v := _) (by simp only [List.getElem?_toArray, List.getElem?_cons_succ, List.getElem?_cons_zero]; rfl) (by kernel_rfl) (by kernel_rfl) (by kernel_rfl) (by intro _ _ _ h; exact h) (Or.inl ⟨by rfl, ?hyzz4_12⟩) hHeld ?restzz4_12
                  case hyzz4_12 => (intro w hSw; (try dsimp only at hSw); go_simp; try (with_reducible rfl))
                  simp only [Act.put, List.setIfInBounds_toArray, List.set_cons_zero, List.set_cons_succ]
                  refine' wpAnyH_take (i := 13) (v := _) (by simp only [List.getElem?_toArray, List.getElem?_cons_succ, List.getElem?_cons_zero]; rfl) (by kernel_rfl) (by kernel_rfl) (by kernel_rfl) (by intro _ _ _ h; exact h) (Or.inl ⟨by rfl, ?hyzz4_13⟩) hHeld ?restzz4_13
                  case hyzz4_13 => (intro w hSw; (try dsimp only at hSw); go_simp; try (with_reducible rfl))
                  simp only [Act.put, List.setIfInBounds_toArray, List.set_cons_zero, List.set_cons_succ]
                  refine' wpAnyH_take (i := 14) (v := _) (by simp only [List.getElem?_toArray, List.getElem?_cons_succ, List.getElem?_cons_zero]; rfl) (by kernel_rfl) (by kernel_rfl) (by kernel_rfl) (by intro _ _ _ h; exact h) (Or.inl ⟨by rfl, ?hyzz4_14⟩) hHeld ?restzz4_14
                  case hyzz4_14 => (intro w hSw; (try dsimp only at hSw); go_simp; try (with_reducible rfl))
                  simp only [Act.put, List.setIfInBounds_toArray, List.set_cons_zero, List.set_cons_succ]
                  refine' wpAnyH_take (i := 15) (v := _) (by simp only [List.getElem?_toArray, List.getElem?_cons_succ, List.getElem?_cons_zero]; rfl) (by kernel_rfl) (by kernel_rfl) (by kernel_rfl) (by intro _ _ _ h; exact h) (Or.inl ⟨by rfl, ?hyzz4_15⟩) hHeld ?restzz4_15
                  case hyzz4_15 => (intro w hSw; (try dsimp only at hSw); go_simp; try (with_reducible rfl))
                  simp only [Act.put, List.setIfInBounds_toArray, List.set_cons_zero, List.set_cons_succ]
                  refine' wpAnyH_take (i := 16) (v := _) (by simp only [List.getElem?_toArray, List.getElem?_cons_succ, List.getElem?_cons_zero]; rfl) (by kernel_rfl) (by kernel_rfl) (by kernel_rfl) (by intro _ _ _ h; exact h) (Or.inl ⟨by rfl, ?hyzz4_16⟩) hHeld ?restzz4_16
                  case hyzz4_16 => (intro w hSw; (try dsimp only at hSw); go_simp; try (with_reducible rfl))
                  simp only [Act.put, List.setIfInBounds_toArray, List.set_cons_zero, List.set_cons_succ]
                  refine' wpAnyH_take (i := 17) (v := _) (by simp only [List.getElem?_toArray, List.getElem?_cons_succ, List.getElem?_cons_zero]; rfl) (by kernel_rfl) (by kernel_rfl) (by kernel_rfl) (by intro _ _ _ h; exact h) (Or.inl ⟨by rfl, ?hyzz4_17⟩) hHeld ?restzz4_17
                  case hyzz4_17 => (intro w hSw; (try dsimp only at hSw); go_simp; try (with_reducible rfl))
                  simp only [Act.put, List.setIfInBounds_toArray, List.set_cons_zero, List.set_cons_succ]
                  refine' wpAnyH_take (i := 18) (v := _) (by simp only [List.getElem?_toArray, List.getElem?_cons_succ, List.getElem?_cons_zero]; rfl) (by kernel_rfl) (by kernel_rfl) (by kernel_rfl) (by intro _ _ _ h; exact h) (Or.inl ⟨by rfl, ?hyzz4_18⟩) hHeld ?restzz4_18
                  case hyzz4_18 => (intro w hSw; (try dsimp only at hSw); go_simp; try (with_reducible rfl))
                  simp only [Act.put, List.setIfInBounds_toArray, List.set_cons_zero, List.set_cons_succ]
                  refine' wpAnyH_take (i := 19) (v := _) (by simp only [List.getElem?_toArray, List.getElem?_cons_succ, List.getElem?_cons_zero]; rfl) (by kernel_rfl) (by kernel_rfl) (by kernel_rfl) (by intro _ _ _ h; exact h) (Or.inl ⟨by rfl, ?hyzz4_19⟩) hHeld ?restzz4_19
                  case hyzz4_19 => (intro w hSw; (try dsimp only at hSw); go_simp; try (with_reducible rfl))
                  simp only [Act.put, List.setIfInBounds_toArray, List.set_cons_zero, List.set_cons_succ]
                  refine wpAnyH_ready (rs := [20]) (by kernel_rfl) (by simp) (AllReadyH.cons (by simp only [List.getElem?_toArray, List.getElem?_cons_succ, List.getElem?_cons_zero]; rfl) (fun KK hKK => ?_) AllReadyH.nil)
                  go_simp
                  refine hKK.out _ _ ?_ (fun hHeld => ?_)
                  · exact KEEP.out _ HO1.out.1
                  clear hKK KK
                  try simp only [Act.put, List.setIfInBounds_toArray, List.set_cons_zero, List.set_cons_succ]
                  refine' wpAnyH_take (i := 21) (v := _) (by simp only [List.getElem?_toArray, List.getElem?_cons_succ, List.getElem?_cons_zero]; rfl) (by kernel_rfl) (by kernel_rfl) (by kernel_rfl) (by intro _ _ _ h; exact h) (Or.inl ⟨by rfl, ?hyzz4_21⟩) hHeld ?restzz4_21
                  case hyzz4_21 => (intro w hSw; (try dsimp only at hSw); go_simp; try (with_reducible rfl))
                  simp only [Act.put, List.setIfInBounds_toArray, List.set_cons_zero, List.set_cons_succ]
                  refine wpAnyH_ready (rs := [22]) (by kernel_rfl) (by simp) (AllReadyH.cons (by simp only [List.getElem?_toArray, List.getElem?_cons_succ, List.getElem?_cons_zero]; rfl) (fun KK hKK => ?_) AllReadyH.nil)
                  go_simp
                  refine hKK.out _ _ ?_ (fun hHeld => ?_)
                  · exact KEEP.out _ HO1.out.2.1
                  clear hKK KK
                  try simp only [Act.put, List.setIfInBounds_toArray, List.set_cons_zero, List.set_cons_succ]
                  refine wpAnyH_ready (rs := [23]) (by kernel_rfl) (by simp) (AllReadyH.cons (by simp only [List.getElem?_toArray, List.getElem?_cons_succ, List.getElem?_cons_zero]; rfl) (fun KK hKK => ?_) AllReadyH.nil)
                  go_simp
                  refine hKK.out _ _ ?_ (fun hHeld => ?_)
                  · exact KEEP.out _ HO2.out.1
                  clear hKK KK
                  try simp only [Act.put, List.setIfInBounds_toArray, List.set_cons_zero, List.set_cons_succ]
                  refine' wpAnyH_take (i := 24) (v := _) (by simp only [List.getElem?_toArray, List.getElem?_cons_succ, List.getElem?_cons_zero]; rfl) (by kernel_rfl) (by kernel_rfl) (by kernel_rfl) (by intro _ _ _ h; exact h) (Or.inl ⟨by rfl, ?hyzz4_24⟩) hHeld ?restzz4_24
                  case hyzz4_24 => (intro w hSw; (try dsimp only at hSw); go_simp; try (with_reducible rfl))
                  simp only [Act.put, List.setIfInBounds_toArray, List.set_cons_zero, List.set_cons_succ]
                  refine wpAnyH_ready (rs := [25]) (by kernel_rfl) (by simp) (AllReadyH.cons (by simp only [List.getElem?_toArray, List.getElem?_cons_succ, List.getElem?_cons_zero]; rfl) (fun KK hKK => ?_) AllReadyH.nil)
                  go_simp
                  refine hKK.out _ _ ?_ (fun hHeld => ?_)
                  · exact KEEP.out _ HO2.out.2.1
                  clear hKK KK
                  try simp only [Act.put, List.setIfInBounds_toArray, List.set_cons_zero, List.set_cons_succ]
                  refine wpAnyH_done (by kernel_rfl) ?_ _
                  clear hHeld
                  go_wp2_with fail
                  go_ret
                  refine ⟨by rw [HE.out.1]; rfl, H3.out.same HE.out.2 (D' := DD) ⟨HO2.out.2.1.os, HO2.out.2.1.tape, HO2.out.2.1.output, HO2.out.2.1.size, HO2.out.2.1.block⟩ ?_, (HT3.out.mono (S' := At mb) fun _ h => h.elim).grown (w := w3) ⟨HO2.out.2.1.os, HO2.out.2.1.tape, HO2.out.2.1.output, HO2.out.2.1.size, HO2.out.2.1.block⟩ (fun k hk => .inl (by injection hk with hk; exact hk.symm))⟩
                  have h1 := HO2.out.2.2
                  have e2 : (fun z => if z = nmOf y then a2 else if z = nmOf x then a1 else C z) = newC C ⟨3, nmOf x, nmOf y, N⟩ := by
                    rw [newC_move (o := ⟨3, nmOf x, nmOf y, N⟩) rfl]; funext z; show _ = (if z = nmOf y then C (nmOf y) + N else if z = nmOf x then C (nmOf x) - N else C z); rw [HV.out.2.2, HV1.out.2.2, HA.out.1, HA.out.2]
                  rw [e2] at h1
                  exact h1
        · have hT1 : T1 = false := by cases T1 with | false => rfl | true => exact absurd (HT1'.out.1 rfl) h1
          subst hT1
          have HE : Hid (R = 8 ∧ doE C K ⟨3, nmOf x, nmOf y, N⟩ ≠ 0) := by
            have h2 : doE C K ⟨3, nmOf x, nmOf y, N⟩ = 8 := by unfold doE; rw [if_neg (by rw [HC0.out]; simp), if_neg (show ¬ (3 : Int) = 1 by decide)]; rw [if_neg (fun e => e HX0.out), if_neg (show ¬ (3 : Int) = 2 by decide), if_pos h1]
            rw [← HR.out, h2]; exact ⟨rfl, by decide⟩
          clear h1
          go_wp2_with (go_quiet (fail))
          all_goals
            go_ret
            exact ⟨by rw [HE.out.1]; rfl, (H3.out.nope (by repeat (first | exact Turn.refl _ _ | apply Turn.drewN | apply Turn.drew))).none HE.out.2, (HT3.out.trans (by repeat (first | exact Turn.refl _ _ | apply Turn.drewN | apply Turn.drew))).mono fun _ h => h.elim⟩
      · have hTf : T = false := by cases T with | false => rfl | true => exact absurd (HT.out.1 rfl) h0
        subst hTf
        have HE : Hid (R = 8 ∧ doE C K ⟨3, nmOf x, nmOf y, N⟩ ≠ 0) := by
          have h2 : doE C K ⟨3, nmOf x, nmOf y, N⟩ = 8 := by unfold doE; rw [if_neg (by rw [HC0.out]; simp), if_neg (show ¬ (3 : Int) = 1 by decide)]; rw [if_pos h0]
          rw [← HR.out, h2]; exact ⟨rfl, by decide⟩
        clear h0
        go_wp2_with (go_quiet (fail))
        all_goals
          go_ret
          exact ⟨by rw [HE.out.1]; rfl, (H2.out.nope (by repeat (first | exact Turn.refl _ _ | apply Turn.drewN | apply Turn.drew))).none HE.out.2, (HT2.out.trans (by repeat (first | exact Turn.refl _ _ | apply Turn.drewN | apply Turn.drew))).mono fun _ h => h.elim⟩
  · have z0 : (c != 0) = true := by simpa using hc0
    have HE : Hid (R = c ∧ doE C K ⟨kd, nmOf x, nmOf y, N⟩ ≠ 0) := by
      have h1 : chk ⟨kd, nmOf x, nmOf y, N⟩ ≠ 0 := by rw [HC.out]; exact hc0
      have h2 := doE_chk (C := C) (K := K) h1
      rw [← HR.out, h2, HC.out]
      exact ⟨rfl, hc0⟩
    clear hc0
    go_wp2_with fail
    go_ret
    exact ⟨by rw [HE.out.1]; rfl, H1.out.none HE.out.2, HT1.out.mono fun _ h => h.elim⟩
end Go.Proofs.Ytlalbmgopbcplaa
