/- The document's Set, walked. -/
import Derived.Test.YtdojdhpfhjhmfaaSv
set_option maxRecDepth 16000
set_option linter.unusedVariables false
set_option linter.unusedSimpArgs false
namespace Go.Proofs.Ytdojdhpfhjhmfaa
open Go.RowKit
variable {b : Nat} {w w' : World} {vP vL : Value} {P : List Int} {L : List One3} {t c : Int}
/-- The paces have a new row. -/
structure SetN (b : Nat) (w V : World) (H : Nat) (vP vL : Value) (P : List Int) (L : List One3) (t c : Int) (gq cq : Nat) (Q : List Int) : Prop where
  box : V.heap[H]? = some (.cells #[vP, vL, .int .i64 t, .int .i64 c] 40 (0, 0))
  res : V.heap[H + 1]? = some (.cells #[.slice none 0 0, .slice none 0 0, .int .i64 0, .int .i64 0] 40 (0, 0))
  turn : Turn Nope w V
  l : V.ownsRow b 82 3 vL L.length (L.flatMap oneCells)
  q : V.ownsRow H 3 1 (.slice (some ⟨gq, 0, none⟩) Q.length cq) Q.length (nums Q)
  hz : w.heap.size = H
  ne : gq ≠ H ∧ gq ≠ H + 1
theorem set_grown {w3 w6 : World} {H gq cq : Nat} (h : SetV b w w3 H vP vL P L t c) (hown : w6.ownsRow H 3 1 (.slice (some ⟨gq, 0, none⟩) (0 + P.length) cq) (0 + P.length) ([] ++ nums P))
    (hgr : (w3.alloc (.cells #[] 3)).grownBy w6 (Value.ownBlock (.slice (some ⟨w3.heap.size, 0, none⟩) 0 0))) (hat : Value.ownBlock (.slice (some ⟨w3.heap.size, 0, none⟩) 0 0) = some gq ∨ gq = w3.heap.size + 1) : SetN b w w6 H vP vL P L t c gq cq P := by
  have ht : Turn Nope w3 w6 := ((Turn.refl Nope w3).alloc _).grown hgr fun k hk => .inr (by
    have h2 : w3.heap.size = k := by simpa [Value.ownBlock] using hk
    omega)
  have h5 := h.nope ht
  have hq : w3.heap.size ≤ gq := by
    rcases hat with h1 | h1
    · have h2 : w3.heap.size = gq := by simpa [Value.ownBlock] using h1
      omega
    · omega
  exact ⟨h5.box, h5.res, h5.turn, h5.rv.l, by simpa using hown, h.hz, by have h1 := blk_lt h.box; have h2 := blk_lt h.res; omega⟩
theorem SetN.at_ {V : World} {H gq cq : Nat} {Q : List Int} (h : SetN b w V H vP vL P L t c gq cq Q) {j : Nat} (hj : j < Q.length) : V.cell? ⟨gq, j, none⟩ = some (.int .i64 Q[j]) ∧ V.frozen? ⟨gq, j, none⟩ = false :=
  ⟨by have := own_elem h.q j (u := .int .i64 Q[j]) (by simp [nums, List.getElem?_eq_getElem hj]); exact this, row_frozen h.q j⟩
theorem SetN.put {V : World} {H gq cq : Nat} {Q : List Int} (h : SetN b w V H vP vL P L t c gq cq Q) {j : Nat} (hj : j < Q.length) (x : Int) : SetN b w (V.setCell ⟨gq, j, none⟩ (.int .i64 x)) H vP vL P L t c gq cq (Q.set j x) := by
  have hb := own_base h.q gq rfl
  refine ⟨blk_far h.box (p := ⟨gq, j, none⟩) (fun e => h.ne.1 e.symm) _, blk_far h.res (p := ⟨gq, j, none⟩) (fun e => h.ne.2 e.symm) _, h.turn.set_new (by rw [h.hz]; exact hb) _, own_turn h.l ((Turn.refl (At gq) V).set_at _) (fun k hk he => ?_), ?_, h.hz, h.ne⟩
  · have he : k = gq := he
    exact own_apart h.l h.q (by decide) k hk (by rw [he]; rfl)
  · have h1 := own_put h.q j hj (.int .i64 x)
    rw [← nums_set] at h1
    rw [List.length_set]
    exact h1
theorem SetN.boxed {V : World} {H gq cq : Nat} {Q : List Int} (h : SetN b w V H vP vL P L t c gq cq Q) (hb : b ≤ H) : SetV b w (V.setCell ⟨H, 0, none⟩ (.slice (some ⟨gq, 0, none⟩) Q.length cq)) H (.slice (some ⟨gq, 0, none⟩) Q.length cq) vL Q L t c :=
  ⟨blk_set h.box 0 _, blk_far h.res (p := ⟨H, 0, none⟩) (by show H + 1 ≠ H; omega) _, h.turn.setCell (p := ⟨H, 0, none⟩) (.inr (by rw [h.hz]; exact Nat.le_refl _)) _, ⟨own_turn (own_lower h.q hb) ((Turn.refl (At H) V).set_at _) fun k hk he => own_ne h.q h.box (by decide) k hk he, own_turn h.l ((Turn.refl (At H) V).set_at _) fun k hk he => own_ne h.l h.box (by decide) k hk he⟩, h.hz⟩
set_option maxHeartbeats 8000000 in
theorem ref_set (h : RV b w vP vL P L) (hb : b ≤ w.heap.size) (hL : L.length ≤ 1000) (hP : P.length ≤ 1000) {j : Nat} (hj : j < P.length) (p : Int) (ht0 : 0 ≤ t) (ht1 : t ≤ 1000000000000) (hc0 : 0 ≤ c) (hc1 : c ≤ 1000000000000) :
    Calls Try.prog 18 #[.agg #[vP, vL, .int .i64 t, .int .i64 c], .int .i64 (j : Int), .int .i64 p] w fun e w' => ∃ vP' vL', e = .returned (.agg #[vP', vL', .int .i64 t, .int .i64 (c + 1)]) ∧ RV b w' vP' vL' (P.set j (paceOf p)) (dueR (P.set j (paceOf p)) (rdropL (j : Int) L) t c j (paceOf p)) ∧ (∀ k, vP'.ownBlock = some k → w.heap.size ≤ k) ∧ Turn Nope w w' := by
  obtain ⟨pj, hpj⟩ : ∃ x, P[j]? = some x := ⟨_, List.getElem?_eq_getElem hj⟩
  obtain ⟨g, c1, rfl, _⟩ := num_at h.p hpj
  clear hpj
  obtain ⟨A2, c2, rfl, _⟩ := own_slice h.l
  have HR := Lib.hid h
  obtain ⟨i3, hi3, hz3, hs3, hb3⟩ := info_parts Try.info3
  have I3 := Lib.hid (And.intro hi3 (And.intro hz3 (And.intro hs3 hb3)))
  have HTC := Lib.hid (And.intro ht0 (And.intro ht1 (And.intro hc0 hc1)))
  clear hi3 hz3 hs3 hb3 h ht0 ht1 hc0 hc1
  go_enter Try.func18, Try.ntmps18
  go_wp2_with fail
  have HV0 : Hid (SetV b w ((w.alloc (.cells #[.slice (some ⟨g, 0, none⟩) P.length c1, .slice A2 L.length c2, .int .i64 t, .int .i64 c] 40)).alloc (.cells #[.slice none 0 0, .slice none 0 0, .int .i64 0, .int .i64 0] 40)) w.heap.size (.slice (some ⟨g, 0, none⟩) P.length c1) (.slice A2 L.length c2) P L t c) :=
    ⟨blk_alloc (blk_new _ _) _, by simpa using blk_new (w.alloc (.cells #[.slice (some ⟨g, 0, none⟩) P.length c1, .slice A2 L.length c2, .int .i64 t, .int .i64 c] 40)) (.cells #[.slice none 0 0, .slice none 0 0, .int .i64 0, .int .i64 0] 40), ((Turn.refl _ _).alloc _).alloc _, HR.out.nope (((Turn.refl _ _).alloc _).alloc _), rfl⟩
  obtain ⟨H, hH⟩ : ∃ H, w.heap.size = H := ⟨_, rfl⟩
  rw [hH] at HV0 hb ⊢
  have HH := Lib.hid hH
  clear hH
  refine (?_ : Calls _ _ _ ((w.alloc (.cells #[.slice (some ⟨g, 0, none⟩) P.length c1, .slice A2 L.length c2, .int .i64 t, .int .i64 c] 40)).alloc (.cells #[.slice none 0 0, .slice none 0 0, .int .i64 0, .int .i64 0] 40)) _)
  generalize (w.alloc (.cells #[.slice (some ⟨g, 0, none⟩) P.length c1, .slice A2 L.length c2, .int .i64 t, .int .i64 c] 40)).alloc (.cells #[.slice none 0 0, .slice none 0 0, .int .i64 0, .int .i64 0] 40) = w1 at HV0 ⊢
  refine (ref_drop HV0.out.rv (by have := HV0.out.turn.size; have := HH.out; omega) hL t c (j : Int)).mono ?_
  rintro e w2 ⟨vL2, rfl, hr, ht⟩
  obtain ⟨A3, c3, rfl, _⟩ := own_slice hr.l
  obtain ⟨L3, hL3⟩ : ∃ L3, rdropL (j : Int) L = L3 := ⟨_, rfl⟩
  have hL3l : L3.length ≤ 1000 := by rw [← hL3]; exact Nat.le_trans (rdrop_len _ _) hL
  rw [hL3] at hr ⊢
  have HL3 := Lib.hid hL3l
  have HL3e := Lib.hid hL3
  clear hL3 hL3l
  have HV1 := Lib.hid ((HV0.out.nope ht).boxed hr t c)
  have HV2 := Lib.hid (HV0.out.nope ht)
  clear hr ht HV0
  obtain ⟨⟨k0, k1, k2, k3⟩, ⟨f0, f1, f2, f3⟩, -, -⟩ := HV2.out.cells
  go_upto_region 2 with (fail)
  refine (?_ : Code.wp _ _ _ _ (store4 w2 H (.slice (some ⟨g, 0, none⟩) P.length c1) (.slice A3 L3.length c3) (.int .i64 t) (.int .i64 c)))
  clear k0 k1 k2 k3 f0 f1 f2 f3
  generalize store4 w2 H (.slice (some ⟨g, 0, none⟩) P.length c1) (.slice A3 L3.length c3) (.int .i64 t) (.int .i64 c) = w3 at HV1 ⊢
  clear HV2
  have k0 := (HV1.out.nope ((Turn.refl _ _).alloc (.cells #[] 3))).cells.1.1
  go_upto_region 3 with (at_builtin; go_loud (refine wpList_append_lies _ rfl _ _ _ rfl H 3 i3 _ 1 8 Try.underlying22 I3.out.1 I3.out.2.1 I3.out.2.2.1 I3.out.2.2.2 rfl (by omega) (.slice (some ⟨w3.heap.size, 0, none⟩) 0 0) 0 [] rfl ⟨rfl, .inr ⟨w3.heap.size, 0, #[], rfl, by have h1 := HV1.out.turn.size; have h2 := HV1.out.hz; omega, blk_new _ _, by omega, by decide, by simp, rfl⟩⟩ ⟨g, 0, none⟩ P.length c1 (nums P) rfl (by simp [nums]) (fun i u hu => by have h1 := own_elem (own_nope HV1.out.rv.p ((Turn.refl Nope w3).alloc (.cells #[] 3))) i hu; simpa [Addr.add_lit] using h1) (by intro u hu; simp [nums] at hu; obtain ⟨x, _, rfl⟩ := hu; rfl) (by omega) (by unfold maxLen; omega) (by omega) (by have h1 := HV1.out.turn.size; have h2 := HV1.out.hz; simp; omega) (w3.heap.size + 1) (by simp) ?_; intro gq cq w6 hown hgr hat hlt2; have HA6 := Lib.hid (set_grown HV1.out hown hgr hat); clear hown hgr hat hlt2))
  clear k0 HV1
  obtain ⟨gl, fl⟩ := HA6.out.at_ hj
  have i0 : (0 : Int) ≤ (j : Int) := by omega
  have i1 : (j : Int) < (P.length : Int) := by omega
  go_wp2_with fail
  refine (pace_any p _).mono ?_
  rintro e w7 ⟨rfl, rfl⟩
  go_upto_region 4 with (fail)
  have HA7 := Lib.hid (HA6.out.put hj (paceOf p))
  clear gl fl HA6
  generalize w6.setCell ⟨gq, j, none⟩ (.int .i64 (paceOf p)) = w7 at HA7 ⊢
  have k0 : w7.cell? ⟨H, 0, none⟩ = _ := blk_cell HA7.out.box 0
  simp only [List.getElem?_toArray, List.getElem?_cons_zero, List.getElem?_cons_succ] at k0
  have f0 := blk_frozen HA7.out.box 0
  go_upto_region 5 with (fail)
  have HV8 := Lib.hid (HA7.out.boxed hb)
  have HGQ : Hid (w.heap.size ≤ gq) := by rw [HA7.out.hz]; exact own_base HA7.out.q gq rfl
  rw [List.length_set] at HV8
  clear k0 f0 HA7
  generalize w7.setCell ⟨H, 0, none⟩ (.slice (some ⟨gq, 0, none⟩) P.length cq) = w8 at HV8 ⊢
  obtain ⟨⟨k0, k1, k2, k3⟩, -, -, -⟩ := HV8.out.cells
  go_wp2_with fail
  clear k0 k1 k2 k3
  have hpq : (P.set j (paceOf p))[j]? = some (paceOf p) := by rw [List.getElem?_set_self hj]
  have hpi := paceOf_in p
  refine (ref_due HV8.out.rv (by have h1 := HV8.out.turn.size; have h2 := HV8.out.hz; omega) HL3.out hpq hpi.1 hpi.2 HTC.out.1 HTC.out.2.1 HTC.out.2.2.1 HTC.out.2.2.2).mono ?_
  rintro e w9 ⟨vL5, rfl, hr, ht⟩
  obtain ⟨A5, c5, rfl, _⟩ := own_slice hr.l
  have HV9 := Lib.hid (HV8.out.nope ht)
  have HE := Lib.hid (HV9.out.stored hr t (c + 1))
  clear ht hr HV8 hpq hpi
  obtain ⟨q0, q1, q2, q3⟩ := HV9.out.rcells
  obtain ⟨-, -, ⟨g0, g1, g2, g3⟩, -⟩ := HV9.out.cells
  go_wp2_with fail
  clear q0 q1 q2 q3 g0 g1 g2 g3
  obtain ⟨D, hD⟩ : ∃ D, dueR (P.set j (paceOf p)) L3 t c j (paceOf p) = D := ⟨_, rfl⟩
  rw [hD] at HE ⊢
  have HD := Lib.hid hD
  clear hD
  refine (?_ : bodyPost _ _ _ _ _ (store4 w9 (H + 1) (.slice (some ⟨gq, 0, none⟩) P.length cq) (.slice A5 D.length c5) (.int .i64 t) (.int .i64 (c + 1))))
  generalize store4 w9 (H + 1) (.slice (some ⟨gq, 0, none⟩) P.length cq) (.slice A5 D.length c5) (.int .i64 t) (.int .i64 (c + 1)) = wE at HE ⊢
  have e0 := blk_cell HE.out.1 0
  have e1 := blk_cell HE.out.1 1
  have e2 := blk_cell HE.out.1 2
  have e3 := blk_cell HE.out.1 3
  simp only [List.getElem?_toArray, List.getElem?_cons_zero, List.getElem?_cons_succ] at e0 e1 e2 e3
  refine bodyPost_ret (v := .agg #[.slice (some ⟨gq, 0, none⟩) P.length cq, .slice A5 D.length c5, .int .i64 t, .int .i64 (c + 1)]) (by simp [results, Try.results18, go_sem, e0, e1, e2, e3]) rfl ⟨_, _, rfl, ?_, fun k hk => ?_, HE.out.2.1⟩
  · rw [HL3e.out, HD.out]
    exact HE.out.2.2
  · have hk : gq = k := by simpa [Value.ownBlock] using hk
    rw [← hk]; exact HGQ.out
end Go.Proofs.Ytdojdhpfhjhmfaa
