/- The document's schedule in a box, beside the result's cell. -/
import Derived.Test.YtdojdhpfhjhmfaaR17e
set_option maxRecDepth 16000
set_option linter.unusedVariables false
set_option linter.unusedSimpArgs false
namespace Go.Proofs.Ytdojdhpfhjhmfaa
open Go.RowKit
variable {b : Nat} {w w' : World} {vP vL : Value} {P : List Int} {L : List One3} {t c : Int}
theorem own_put {w : World} {base e g n cap : Nat} {xs : List Value} (h : w.ownsRow base e 1 (.slice (some ⟨g, 0, none⟩) n cap) n xs) (i : Nat) (hi : i < n) (u : Value) :
    (w.setCell ⟨g, i, none⟩ u).ownsRow base e 1 (.slice (some ⟨g, 0, none⟩) n cap) n (xs.set i u) := by
  refine ⟨by rw [List.length_set]; exact h.1, ?_⟩
  rcases h.2 with ⟨h0, _⟩ | ⟨g', cap', cur, hv, hbg, hg, hnc, hcm, hcs, htake⟩
  · cases h0
  · injection hv with hA hn' hcap
    injection hA with hA
    injection hA with hA
    subst hA
    subst hcap
    refine .inr ⟨g, cap, cur.setIfInBounds i u, rfl, hbg, blk_set hg i u, hnc, hcm, by rw [Array.size_setIfInBounds]; exact hcs, ?_⟩
    rw [Array.toList_setIfInBounds, List.take_set, htake]
theorem row_frozen {w : World} {base e n g cap : Nat} {xs : List Value} (h : w.ownsRow base e 1 (.slice (some ⟨g, 0, none⟩) n cap) n xs) (i : Nat) : w.frozen? ⟨g, i, none⟩ = false := by
  rcases h.2 with ⟨h0, _⟩ | ⟨g', cap', cur, hv, hbg, hg, _⟩
  · cases h0
  · injection hv with hA hn' hcap
    injection hA with hA
    injection hA with hA
    subst hA
    exact blk_frozen hg i
/-- The box, the result's cell, the rows. -/
structure SetV (b : Nat) (w V : World) (H : Nat) (vP vL : Value) (P : List Int) (L : List One3) (t c : Int) : Prop where
  box : V.heap[H]? = some (.cells #[vP, vL, .int .i64 t, .int .i64 c] 40 (0, 0))
  res : V.heap[H + 1]? = some (.cells #[.slice none 0 0, .slice none 0 0, .int .i64 0, .int .i64 0] 40 (0, 0))
  turn : Turn Nope w V
  rv : RV b V vP vL P L
  hz : w.heap.size = H
theorem SetV.nope {V V' : World} {H : Nat} (h : SetV b w V H vP vL P L t c) (ht : Turn Nope V V') : SetV b w V' H vP vL P L t c := ⟨ht.blk h.box fun h => h, ht.blk h.res fun h => h, h.turn.trans ht, h.rv.nope ht, h.hz⟩
theorem SetV.cells {V : World} {H : Nat} (h : SetV b w V H vP vL P L t c) : (V.cell? ⟨H, 0, none⟩ = some vP ∧ V.cell? ⟨H, 1, none⟩ = some vL ∧ V.cell? ⟨H, 2, none⟩ = some (.int .i64 t) ∧ V.cell? ⟨H, 3, none⟩ = some (.int .i64 c)) ∧ (V.frozen? ⟨H, 0, none⟩ = false ∧ V.frozen? ⟨H, 1, none⟩ = false ∧ V.frozen? ⟨H, 2, none⟩ = false ∧ V.frozen? ⟨H, 3, none⟩ = false) ∧ (V.frozen? ⟨H + 1, 0, none⟩ = false ∧ V.frozen? ⟨H + 1, 1, none⟩ = false ∧ V.frozen? ⟨H + 1, 2, none⟩ = false ∧ V.frozen? ⟨H + 1, 3, none⟩ = false) ∧ (∀ i, i < 4 → (V.cell? ⟨H + 1, i, none⟩).isSome = true) :=
  ⟨⟨by rw [blk_cell h.box]; rfl, by rw [blk_cell h.box]; rfl, by rw [blk_cell h.box]; rfl, by rw [blk_cell h.box]; rfl⟩, ⟨blk_frozen h.box _, blk_frozen h.box _, blk_frozen h.box _, blk_frozen h.box _⟩, ⟨blk_frozen h.res _, blk_frozen h.res _, blk_frozen h.res _, blk_frozen h.res _⟩, fun i hi => by
    rw [blk_cell h.res]
    match i, hi with
    | 0, _ => rfl
    | 1, _ => rfl
    | 2, _ => rfl
    | 3, _ => rfl⟩
theorem store4_turn {S : Nat → Prop} {a V : World} {g : Nat} (h : Turn S a V) (hg : S g ∨ a.heap.size ≤ g) (x y z u : Value) : Turn S a (store4 V g x y z u) := by
  unfold store4
  exact (((h.setCell (p := ⟨g, 0, none⟩) hg _).setCell (p := ⟨g, 1, none⟩) hg _).setCell (p := ⟨g, 2, none⟩) hg _).setCell (p := ⟨g, 3, none⟩) hg _
theorem store4_far {V : World} {k g : Nat} {o : Obj} (h : V.heap[k]? = some o) (hk : k ≠ g) (x y z u : Value) : (store4 V g x y z u).heap[k]? = some o := by
  unfold store4
  exact blk_far (blk_far (blk_far (blk_far h (p := ⟨g, 0, none⟩) hk _) (p := ⟨g, 1, none⟩) hk _) (p := ⟨g, 2, none⟩) hk _) (p := ⟨g, 3, none⟩) hk _
/-- A row is no block of type 40. -/
theorem row_store4 {V : World} {g m size e : Nat} {v : Value} {n : Nat} {xs : List Value} {cs : Array Value} (h : V.ownsRow m e size v n xs) (hg : V.heap[g]? = some (.cells cs 40 (0, 0))) (he : e ≠ 40) (x y z u : Value) : (store4 V g x y z u).ownsRow m e size v n xs :=
  own_turn h (store4_turn (Turn.refl (At g) V) (.inl rfl) x y z u) fun k hk he' => own_ne h hg he k hk he'
theorem SetV.boxed {V : World} {H : Nat} {vP' vL' : Value} {P' : List Int} {L' : List One3} (h : SetV b w V H vP vL P L t c) (hr : RV b V vP' vL' P' L') (t' c' : Int) : SetV b w (store4 V H vP' vL' (.int .i64 t') (.int .i64 c')) H vP' vL' P' L' t' c' :=
  ⟨store4_blk h.box _ _ _ _, store4_far h.res (by omega) _ _ _ _, store4_turn h.turn (.inr (by rw [h.hz]; exact Nat.le_refl _)) _ _ _ _, ⟨row_store4 hr.p h.box (by decide) _ _ _ _, row_store4 hr.l h.box (by decide) _ _ _ _⟩, h.hz⟩
theorem SetV.ticked {V : World} {H : Nat} (h : SetV b w V H vP vL P L t c) (t' : Int) : SetV b w (V.setCell ⟨H, 2, none⟩ (.int .i64 t')) H vP vL P L t' c :=
  ⟨blk_set h.box 2 _, blk_far h.res (p := ⟨H, 2, none⟩) (by show H + 1 ≠ H; omega) _, h.turn.setCell (p := ⟨H, 2, none⟩) (.inr (by rw [h.hz]; exact Nat.le_refl _)) _, ⟨own_turn h.rv.p ((Turn.refl (At H) V).set_at _) fun k hk he => own_ne h.rv.p h.box (by decide) k hk he, own_turn h.rv.l ((Turn.refl (At H) V).set_at _) fun k hk he => own_ne h.rv.l h.box (by decide) k hk he⟩, h.hz⟩
theorem SetV.rcells {V : World} {H : Nat} (h : SetV b w V H vP vL P L t c) : V.cell? ⟨H + 1, 0, none⟩ = some (.slice none 0 0) ∧ V.cell? ⟨H + 1, 1, none⟩ = some (.slice none 0 0) ∧ V.cell? ⟨H + 1, 2, none⟩ = some (.int .i64 0) ∧ V.cell? ⟨H + 1, 3, none⟩ = some (.int .i64 0) :=
  ⟨by rw [blk_cell h.res]; rfl, by rw [blk_cell h.res]; rfl, by rw [blk_cell h.res]; rfl, by rw [blk_cell h.res]; rfl⟩
/-- The result's cell is written. -/
theorem SetV.stored {V : World} {H : Nat} {vP' vL' : Value} {P' : List Int} {L' : List One3} (h : SetV b w V H vP vL P L t c) (hr : RV b V vP' vL' P' L') (t' c' : Int) :
    (store4 V (H + 1) vP' vL' (.int .i64 t') (.int .i64 c')).heap[H + 1]? = some (.cells #[vP', vL', .int .i64 t', .int .i64 c'] 40 (0, 0)) ∧ Turn Nope w (store4 V (H + 1) vP' vL' (.int .i64 t') (.int .i64 c')) ∧ RV b (store4 V (H + 1) vP' vL' (.int .i64 t') (.int .i64 c')) vP' vL' P' L' :=
  ⟨store4_blk h.res _ _ _ _, store4_turn h.turn (.inr (by rw [h.hz]; omega)) _ _ _ _, ⟨row_store4 hr.p h.res (by decide) _ _ _ _, row_store4 hr.l h.res (by decide) _ _ _ _⟩⟩
end Go.Proofs.Ytdojdhpfhjhmfaa
