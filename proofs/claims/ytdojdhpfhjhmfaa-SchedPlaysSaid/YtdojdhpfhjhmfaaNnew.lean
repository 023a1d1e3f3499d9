/- The document's New, walked. -/
import Derived.Test.YtdojdhpfhjhmfaaSv
import Derived.Test.YtdojdhpfhjhmfaaRel
set_option maxRecDepth 16000
set_option linter.unusedVariables false
set_option linter.unusedSimpArgs false
namespace Go.Proofs.Ytdojdhpfhjhmfaa
open Go.RowKit
variable {w w' : World} {vP vL : Value} {P : List Int} {L : List One3} {t c : Int}
/-- What the document's New has made behind some paces. -/
def newR (P : List Int) : Nat × List One3 := P.foldl (fun a p => (a.1 + 1, dueR [] a.2 0 (a.1 : Int) a.1 p)) (0, [])
theorem newR_add (P : List Int) (p : Int) : newR (P ++ [p]) = ((newR P).1 + 1, dueR [] (newR P).2 0 ((newR P).1 : Int) (newR P).1 p) := by
  unfold newR
  rw [List.foldl_append]; rfl
theorem dueR_any (P P' : List Int) (L : List One3) (t c : Int) (j : Nat) (p : Int) : dueR P L t c j p = dueR P' L t c j p := rfl
theorem newR_len (k : Nat) : ∀ P : List Int, P.length = k → (newR P).1 = k ∧ (newR P).2.length ≤ k ∧ (∀ x ∈ (newR P).2, x.who < (k : Int)) ∧ Rel ⟨0, (newT P).2.1, (newT P).2.2⟩ (newR P).2 0 (k : Int) := by
  induction k with
  | zero =>
    intro P hP
    obtain rfl := List.length_eq_zero_iff.1 hP
    exact ⟨rfl, Nat.le_refl _, (fun x hx => by cases hx), ⟨rfl, ⟨[], List.Perm.refl _, List.Pairwise.nil, rfl⟩, (fun x hx => by cases hx), List.Pairwise.nil⟩⟩
  | succ k ih =>
    intro P hP
    obtain ⟨Q, p, rfl⟩ : ∃ Q p, P = Q ++ [p] := ⟨P.dropLast, P.getLast (by intro h; rw [h] at hP; cases hP), (List.dropLast_concat_getLast _).symm⟩
    have hQ : Q.length = k := by rw [List.length_append] at hP; have : Q.length + 1 = k + 1 := hP; omega
    obtain ⟨h1, h2, h3, h4⟩ := ih Q hQ
    have h5 := h4.due [] k p (fun x hx e => by have := h3 x hx; omega)
    rw [newR_add, h1, newT_add, (newT_len Q).1, hQ]
    refine ⟨rfl, ?_, ?_, h5⟩
    · show (dueR [] (newR Q).2 0 (k : Int) k p).length ≤ k + 1
      unfold dueR
      split
      · rw [List.length_append]; show _ + 1 ≤ _; omega
      · omega
    · intro x hx
      have hx : x ∈ dueR [] (newR Q).2 0 (k : Int) k p := hx
      unfold dueR at hx
      split at hx
      · rcases List.mem_append.1 hx with hx | hx
        · have := h3 x hx; omega
        · rw [List.mem_singleton.1 hx]; show (k : Int) < _; omega
      · have := h3 x hx; omega
/-- The result's cell, the box behind it, the rows. -/
structure NewV (w V : World) (H : Nat) (vP vL : Value) (P : List Int) (L : List One3) (c : Int) : Prop where
  res : V.heap[H]? = some (.cells #[.slice none 0 0, .slice none 0 0, .int .i64 0, .int .i64 0] 40 (0, 0))
  box : V.heap[H + 1]? = some (.cells #[vP, vL, .int .i64 0, .int .i64 c] 40 (0, 0))
  turn : Turn Nope w V
  rv : RV H V vP vL P L
  hz : w.heap.size = H
theorem NewV.nope {V V' : World} {H : Nat} (h : NewV w V H vP vL P L c) (ht : Turn Nope V V') : NewV w V' H vP vL P L c := ⟨ht.blk h.res fun h => h, ht.blk h.box fun h => h, h.turn.trans ht, h.rv.nope ht, h.hz⟩
theorem NewV.cells {V : World} {H : Nat} (h : NewV w V H vP vL P L c) : (V.cell? ⟨H + 1, 0, none⟩ = some vP ∧ V.cell? ⟨H + 1, 1, none⟩ = some vL ∧ V.cell? ⟨H + 1, 2, none⟩ = some (.int .i64 0) ∧ V.cell? ⟨H + 1, 3, none⟩ = some (.int .i64 c)) ∧ (V.frozen? ⟨H + 1, 0, none⟩ = false ∧ V.frozen? ⟨H + 1, 1, none⟩ = false ∧ V.frozen? ⟨H + 1, 2, none⟩ = false ∧ V.frozen? ⟨H + 1, 3, none⟩ = false) ∧ (V.cell? ⟨H, 0, none⟩ = some (.slice none 0 0) ∧ V.cell? ⟨H, 1, none⟩ = some (.slice none 0 0) ∧ V.cell? ⟨H, 2, none⟩ = some (.int .i64 0) ∧ V.cell? ⟨H, 3, none⟩ = some (.int .i64 0)) ∧ (V.frozen? ⟨H, 0, none⟩ = false ∧ V.frozen? ⟨H, 1, none⟩ = false ∧ V.frozen? ⟨H, 2, none⟩ = false ∧ V.frozen? ⟨H, 3, none⟩ = false) :=
  ⟨⟨by rw [blk_cell h.box]; rfl, by rw [blk_cell h.box]; rfl, by rw [blk_cell h.box]; rfl, by rw [blk_cell h.box]; rfl⟩, ⟨blk_frozen h.box _, blk_frozen h.box _, blk_frozen h.box _, blk_frozen h.box _⟩, ⟨by rw [blk_cell h.res]; rfl, by rw [blk_cell h.res]; rfl, by rw [blk_cell h.res]; rfl, by rw [blk_cell h.res]; rfl⟩, ⟨blk_frozen h.res _, blk_frozen h.res _, blk_frozen h.res _, blk_frozen h.res _⟩⟩
theorem NewV.boxed {V : World} {H : Nat} {vP' vL' : Value} {P' : List Int} {L' : List One3} (h : NewV w V H vP vL P L c) (hr : RV H V vP' vL' P' L') (c' : Int) : NewV w (store4 V (H + 1) vP' vL' (.int .i64 0) (.int .i64 c')) H vP' vL' P' L' c' :=
  ⟨store4_far h.res (by omega) _ _ _ _, store4_blk h.box _ _ _ _, store4_turn h.turn (.inr (by rw [h.hz]; omega)) _ _ _ _, ⟨row_store4 hr.p h.box (by decide) _ _ _ _, row_store4 hr.l h.box (by decide) _ _ _ _⟩, h.hz⟩
theorem NewV.stored {V : World} {H : Nat} (h : NewV w V H vP vL P L c) :
    (store4 V H vP vL (.int .i64 0) (.int .i64 c)).heap[H]? = some (.cells #[vP, vL, .int .i64 0, .int .i64 c] 40 (0, 0)) ∧ Turn Nope w (store4 V H vP vL (.int .i64 0) (.int .i64 c)) ∧ RV H (store4 V H vP vL (.int .i64 0) (.int .i64 c)) vP vL P L :=
  ⟨store4_blk h.res _ _ _ _, store4_turn h.turn (.inr (by rw [h.hz]; exact Nat.le_refl _)) _ _ _ _, ⟨row_store4 h.rv.p h.res (by decide) _ _ _ _, row_store4 h.rv.l h.res (by decide) _ _ _ _⟩⟩
/-- A pace more. -/
theorem NewV.push {V V6 : World} {H g1 cap1 : Nat} {o : Obj} {x : Int} (h : NewV w V H vP vL P L c) (hown : V6.ownsRow H 3 1 (.slice (some ⟨g1, 0, none⟩) (P.length + 1) cap1) (P.length + 1) (nums P ++ [.int .i64 x])) (hgr : ((V.alloc o).drew).grownBy V6 vP.ownBlock) :
    NewV w (V6.setCell ⟨H + 1, 0, none⟩ (.slice (some ⟨g1, 0, none⟩) (P.length + 1) cap1)) H (.slice (some ⟨g1, 0, none⟩) (P.length + 1) cap1) vL (P ++ [x]) L c ∧ V6.heap[H + 1]? = some (.cells #[vP, vL, .int .i64 0, .int .i64 c] 40 (0, 0)) := by
  have h2 := h.nope (((Turn.refl Nope V).alloc o).drew)
  have hb6 : V6.heap[H + 1]? = some (.cells #[vP, vL, .int .i64 0, .int .i64 c] 40 (0, 0)) := blk_grown h2.box hgr fun e => own_ne h2.rv.p h2.box (by decide) _ e rfl
  have hr6 : V6.heap[H]? = some (.cells #[.slice none 0 0, .slice none 0 0, .int .i64 0, .int .i64 0] 40 (0, 0)) := blk_grown h2.res hgr fun e => own_ne h2.rv.p h2.res (by decide) _ e rfl
  have ht6 : Turn Nope w V6 := h2.turn.growR hgr h2.rv.p (by rw [h.hz]; exact Nat.le_refl _)
  have hl6 := own_grown h2.rv.l hgr (fun k hk => own_apart h2.rv.l h2.rv.p (by decide) k hk)
  refine ⟨⟨blk_far hr6 (p := ⟨H + 1, 0, none⟩) (by show H ≠ H + 1; omega) _, blk_set hb6 0 _, ht6.setCell (p := ⟨H + 1, 0, none⟩) (.inr (by rw [h.hz]; show H ≤ H + 1; omega)) _, ⟨?_, own_turn hl6 ((Turn.refl (At (H + 1)) V6).set_at _) fun k hk he => own_ne hl6 hb6 (by decide) k hk he⟩, h.hz⟩, hb6⟩
  have h3 := own_turn hown ((Turn.refl (At (H + 1)) V6).set_at (i := 0) (.slice (some ⟨g1, 0, none⟩) (P.length + 1) cap1)) fun k hk he => own_ne hown hb6 (by decide) k hk he
  unfold nums at h3 ⊢
  rw [List.map_append, List.length_append]
  exact h3
set_option maxHeartbeats 8000000 in
theorem ref_new (w : World) (A : Option Addr) (cap : Nat) (ps : List Int) (hA : NumsAt w A ps) (hps : ps.length ≤ 900) :
    Calls Try.prog 15 #[.slice A ps.length cap] w fun e w' => ∃ vP vL, e = .returned (.agg #[vP, vL, .int .i64 0, .int .i64 (ps.length : Int)]) ∧ RV w.heap.size w' vP vL (ps.map paceOf) (newR (ps.map paceOf)).2 ∧ Turn Nope w w' := by
  have HA := Lib.hid hA
  obtain ⟨i3, hi3, hz3, hs3, hb3⟩ := info_parts Try.info3
  have I3 := Lib.hid (And.intro hi3 (And.intro hz3 (And.intro hs3 hb3)))
  clear hi3 hz3 hs3 hb3 hA
  go_enter Try.func15, Try.ntmps15
  go_wp2_with fail
  obtain ⟨H, hH⟩ : ∃ H, w.heap.size = H := ⟨_, rfl⟩
  have HN0 : Hid (NewV w ((w.alloc (.cells #[.slice none 0 0, .slice none 0 0, .int .i64 0, .int .i64 0] 40)).alloc (.cells #[.slice none 0 0, .slice none 0 0, .int .i64 0, .int .i64 0] 40)) H (.slice none 0 0) (.slice none 0 0) [] [] 0) :=
    ⟨by rw [← hH]; exact blk_alloc (blk_new _ _) _, by rw [← hH]; exact blk_new1 _ _ _, ((Turn.refl _ _).alloc _).alloc _, ⟨⟨rfl, .inl ⟨rfl, rfl⟩⟩, ⟨rfl, .inl ⟨rfl, rfl⟩⟩⟩, hH⟩
  rw [hH]
  have HH := Lib.hid hH
  clear hH
  generalize (w.alloc (.cells #[.slice none 0 0, .slice none 0 0, .int .i64 0, .int .i64 0] 40)).alloc (.cells #[.slice none 0 0, .slice none 0 0, .int .i64 0, .int .i64 0] 40) = w0 at HN0 ⊢
  go_loopg [9] ps.length (fun k v9 wr => ∃ (i : Nat) (vP vL : Value), v9 = .int .i64 (i : Int) ∧ Hid (k + i = ps.length) ∧ Hid (NewV w wr H vP vL ((ps.take i).map paceOf) (newR ((ps.take i).map paceOf)).2 (i : Int)))
  case atStart => exact ⟨0, _, _, rfl, rfl, HN0.out⟩
  case round =>
    obtain ⟨i, vP, vL, rfl, hk, hS⟩ := hrel
    clear HN0
    by_cases hlt : i < ps.length
    · have b1 : decide ((i : Int) < (ps.length : Int)) = true := by simp; omega
      have b1n : decide (i < ps.length) = true := by simp; omega
      obtain ⟨x, hx⟩ : ∃ x, ps[i]? = some x := ⟨ps[i], List.getElem?_eq_getElem hlt⟩
      have hmt := map_take hx
      have hP : ((ps.take i).map paceOf).length = i := by rw [List.length_map, List.length_take]; omega
      obtain ⟨Q, hQ⟩ : ∃ Q, (ps.take i).map paceOf = Q := ⟨_, rfl⟩
      rw [hQ] at hS hmt hP
      have HMT := Lib.hid hmt
      have HP := Lib.hid hP
      have hnl := newR_len i Q hP
      have HNL := Lib.hid (And.intro hnl.1 hnl.2.1)
      have hna := newR_add Q (paceOf x)
      rw [hnl.1] at hna
      have HNA := Lib.hid hna
      obtain ⟨M, hM⟩ : ∃ M, (newR Q).2 = M := ⟨_, rfl⟩
      rw [hM] at hS HNA HNL
      obtain ⟨ad, rfl, c0⟩ := HA.out i x hx
      have c0 := cell_later hS.out.turn.nopeBelow c0
      have hrow := hS.out.rv.p
      obtain ⟨Au, cu, rfl, _⟩ := own_slice hrow
      obtain ⟨Al, cl, rfl, _⟩ := own_slice hS.out.rv.l
      rw [hP] at hrow
      have HROW := Lib.hid hrow
      clear hmt hQ hnl hna hM hrow hx
      have i0 : (0 : Int) ≤ (i : Int) := by omega
      have i1 : (i : Int) < (ps.length : Int) := by omega
      have HW : Hid (wrap64 ((i : Int) + 1) = (i : Int) + 1) := IntWalk.wrap64_in _ ⟨by omega, by omega⟩
      obtain ⟨px, hpx⟩ : ∃ px, paceOf x = px := ⟨_, rfl⟩
      have HPX : Hid (∀ W : World, Calls Try.prog 13 #[.int .i64 x] W fun e w' => e = .returned (.int .i64 px) ∧ W = w') := fun W => by rw [← hpx]; exact pace_any x W
      have hpi := paceOf_in x
      rw [hpx] at HMT HNA hpi
      have HPI := Lib.hid hpi
      clear hpx hpi
      go_upto_region 5 with (fail)
      clear c0 i0 i1 b1 b1n
      have k0 := (hS.out.nope (Turn.refl Nope wr).drew).cells.1.1
      have k1 := (hS.out.nope (((Turn.refl Nope wr).alloc (.cells #[.int .i64 px] 3)).drew)).cells.1.1
      rw [HP.out] at k0 k1
      have HB6 : Hid (((wr.alloc (.cells #[.int .i64 px] 3)).drew).heap[H + 1]? = some (.cells #[.slice Au Q.length cu, .slice Al M.length cl, .int .i64 0, .int .i64 (i : Int)] 40 (0, 0))) := (hS.out.nope (((Turn.refl Nope wr).alloc (.cells #[.int .i64 px] 3)).drew)).box
      have HNE : Hid ((Value.slice Au i cu).ownBlock ≠ some (H + 1)) := fun e => own_ne HROW.out hS.out.box (by decide) _ e rfl
      have SAT : Hid (∀ W : World, W.heap[H + 1]? = some (.cells #[.slice Au Q.length cu, .slice Al M.length cl, .int .i64 0, .int .i64 (i : Int)] 40 (0, 0)) → W.cell? ⟨H + 1, 0, none⟩ = some (.slice Au Q.length cu) ∧ W.frozen? ⟨H + 1, 0, none⟩ = false) := fun W h => ⟨by rw [blk_cell h]; rfl, blk_frozen h 0⟩
      go_region_law (first
        | (rw [if_pos (by simp [Region.wanted])]; go_simp; go_at_call 13; refine (HPX.out _).mono ?_; rintro e wN ⟨rfl, rfl⟩)
        | (refine step_append_lies _ rfl (.tmp 15) (.tmp 18) 22 rfl H 3 i3 _ 1 8 Try.underlying22 I3.out.1 I3.out.2.1 I3.out.2.2.1 I3.out.2.2.2 rfl (by omega) (.slice Au i cu) i (nums Q) rfl (own_nope HROW.out (((Turn.refl _ _).alloc _).drew)) ⟨wr.heap.size, 0, none⟩ 1 1 [.int .i64 px] rfl rfl (news_new wr _ 3) (by intro u hu; simp at hu; subst hu; rfl) (by omega) (by show i + 1 ≤ 9223372036854775807; omega) (by omega) (by have h1 := hS.out.turn.size; have h2 := hS.out.hz; simp; omega) (wr.heap.size + 1) (by simp) ?_; intro g1 cap1 w6 hown hgr hat hlt2; have HO6 := Lib.hid hown; have HG6 := Lib.hid hgr; obtain ⟨r1, r2⟩ := SAT.out w6 (blk_grown HB6.out HG6.out HNE.out); clear hown hgr hat hlt2))
      all_goals
        have hn6 := (NewV.push (x := px) hS.out (by rw [HP.out]; exact HO6.out) (by rw [HP.out]; exact HG6.out)).1
        rw [HP.out] at hn6
        have HN6 := Lib.hid hn6
        clear r1 r2 k0 k1 hn6
        generalize w6.setCell ⟨H + 1, 0, none⟩ (.slice (some ⟨g1, 0, none⟩) (i + 1) cap1) = w7 at HN6 ⊢
        clear hS
        obtain ⟨⟨k0, k1, k2, k3⟩, -, -, -⟩ := HN6.out.cells
        go_wp2_with fail
        clear k0 k1 k2 k3
        have hpq : (Q ++ [px])[i]? = some px := by rw [List.getElem?_append_right (by rw [HP.out]; exact Nat.le_refl _), HP.out, Nat.sub_self]; rfl
        refine (ref_due HN6.out.rv (by have h1 := HN6.out.turn.size; have h2 := HN6.out.hz; omega) (by have := HNL.out.2; omega) hpq HPI.out.1 HPI.out.2 (by omega) (by omega) (by omega) (by omega)).mono ?_
        rintro e w8 ⟨vL5, rfl, hr, ht⟩
        obtain ⟨A5, c5, rfl, _⟩ := own_slice hr.l
        have HN8 := Lib.hid ((HN6.out.nope ht).boxed (hr.nope (Turn.refl _ _)) ((i : Int) + 1))
        have HN7 := Lib.hid (HN6.out.nope ht)
        clear hr ht HN6 hpq
        obtain ⟨D, hD⟩ : ∃ D, dueR (Q ++ [px]) M 0 (i : Int) i px = D := ⟨_, rfl⟩
        rw [hD] at HN8 ⊢
        have HD := Lib.hid hD
        clear hD
        obtain ⟨⟨k0, k1, k2, k3⟩, ⟨f0, f1, f2, f3⟩, -, -⟩ := HN7.out.cells
        have hw := HW.out
        go_wp2_with fail
        go_roundg (ps.length - (i + 1))
        case measure => have := hk.out; omega
        case rel =>
          refine ⟨i + 1, .slice (some ⟨g1, 0, none⟩) (i + 1) cap1, .slice A5 D.length c5, by go_num, by have := hk.out; show _ = _; omega, ?_⟩
          rw [HMT.out, HNA.out]
          show NewV w _ H _ _ (Q ++ [px]) (dueR [] M 0 (i : Int) i px) (((i + 1 : Nat) : Int))
          rw [dueR_any [] (Q ++ [px]), HD.out]
          exact HN8.out
    · obtain rfl : i = ps.length := by have := hk.out; omega
      have b1 : decide ((ps.length : Int) < (ps.length : Int)) = false := by simp
      rw [List.take_of_length_le (Nat.le_refl _)] at hS
      clear hlt
      obtain ⟨Au, cu, rfl, _⟩ := own_slice hS.out.rv.p
      obtain ⟨Al, cl, rfl, _⟩ := own_slice hS.out.rv.l
      have HE := Lib.hid hS.out.stored
      obtain ⟨⟨k0, k1, k2, k3⟩, -, ⟨q0, q1, q2, q3⟩, ⟨g0, g1, g2, g3⟩⟩ := hS.out.cells
      obtain ⟨n1, hn1⟩ : ∃ n1, (ps.map paceOf).length = n1 := ⟨_, rfl⟩
      obtain ⟨n2, hn2⟩ : ∃ n2, (newR (ps.map paceOf)).2.length = n2 := ⟨_, rfl⟩
      rw [hn1] at k0
      rw [hn2] at k1
      rw [hn1, hn2] at HE
      clear hn1 hn2
      go_wp2_with fail
      clear k0 k1 k2 k3 q0 q1 q2 q3 g0 g1 g2 g3
      refine (?_ : bodyPost _ _ _ _ _ (store4 wr H (.slice Au n1 cu) (.slice Al n2 cl) (.int .i64 0) (.int .i64 (ps.length : Int))))
      generalize store4 wr H (.slice Au n1 cu) (.slice Al n2 cl) (.int .i64 0) (.int .i64 (ps.length : Int)) = wE at HE ⊢
      have e0 := blk_cell HE.out.1 0
      have e1 := blk_cell HE.out.1 1
      have e2 := blk_cell HE.out.1 2
      have e3 := blk_cell HE.out.1 3
      simp only [List.getElem?_toArray, List.getElem?_cons_zero, List.getElem?_cons_succ] at e0 e1 e2 e3
      refine bodyPost_ret (v := .agg #[.slice Au n1 cu, .slice Al n2 cl, .int .i64 0, .int .i64 (ps.length : Int)]) (by simp [results, Try.results15, go_sem, e0, e1, e2, e3]) rfl ⟨_, _, rfl, ?_, HE.out.2.1⟩
      rw [HH.out]
      exact HE.out.2.2
end Go.Proofs.Ytdojdhpfhjhmfaa
