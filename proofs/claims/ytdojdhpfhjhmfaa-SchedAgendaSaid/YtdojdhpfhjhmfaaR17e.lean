/- The document's schedule in memory: the walk of due. -/
import Derived.Test.YtdojdhpfhjhmfaaR17
set_option maxRecDepth 16000
set_option linter.unusedVariables false
set_option linter.unusedSimpArgs false
namespace Go.Proofs.Ytdojdhpfhjhmfaa
open Go.RowKit
variable {b : Nat} {w w' : World} {vP vL : Value} {P : List Int} {L : List One3} {t c : Int}
theorem own_empty {W : World} {H k : Nat} (h : W.heap[k]? = some (.cells #[] 82 (0, 0))) (hk : H ≤ k) : W.ownsRow H 82 3 (.slice (some ⟨k, 0, none⟩) 0 0) 0 [] :=
  ⟨rfl, .inr ⟨k, 0, #[], rfl, hk, h, Nat.le_refl _, Nat.zero_le _, rfl, rfl⟩⟩
/-- What a region of due reads. -/
structure PQ (W : World) (H : Nat) (box : Array Value) (b : Nat) (vP vL : Value) (P : List Int) (L : List One3) : Prop where
  box : W.heap[H]? = some (.cells box 40 (0, 0))
  rv : RV b W vP vL P L
theorem PQ.nope {W W' : World} {H : Nat} {box : Array Value} (h : PQ W H box b vP vL P L) (ht : Turn Nope W W') : PQ W' H box b vP vL P L := ⟨ht.blk h.box fun h => h, h.rv.nope ht⟩
theorem PQ.alloc {W : World} {H : Nat} {box : Array Value} (h : PQ W H box b vP vL P L) (o : Obj) : PQ (W.alloc o) H box b vP vL P L := h.nope ((Turn.refl _ _).alloc _)
theorem PQ.drew {W : World} {H : Nat} {box : Array Value} (h : PQ W H box b vP vL P L) : PQ W.drew H box b vP vL P L := h.nope (Turn.refl _ _).drew
theorem own_at {k0 k n c : Nat} (h : (Value.slice (some ⟨k0, 0, none⟩) n c).ownBlock = some k) : k0 = k := by simpa [Value.ownBlock] using h
theorem news_blk {V : World} {k : Nat} {cs : Array Value} {t : TypeId} (h : V.heap[k]? = some (.cells cs t (0, 0))) : ∀ j u, cs.toList[j]? = some u → V.cell? ((⟨k, 0, none⟩ : Addr).add j) = some u := by
  intro j u hj
  rw [show (⟨k, 0, none⟩ : Addr).add j = ⟨k, j, none⟩ by unfold Addr.add; split <;> simp_all, blk_cell h]
  simpa using hj
theorem own_ne1 {k n c : Nat} : (Value.slice (some ⟨k, 0, none⟩) n c).ownBlock ≠ some (k + 1) := by simp [Value.ownBlock]
theorem own_ne2 {k n c : Nat} : (Value.slice (some ⟨k + 1, 0, none⟩) n c).ownBlock ≠ some k := by simp [Value.ownBlock]
/-- The box's list is turned. -/
structure DueV (B : Nat) (w V : World) (H : Nat) (vP u : Value) (t c : Int) (n : Nat) (xs : List Value) : Prop where
  box : V.heap[H]? = some (.cells #[vP, u, .int .i64 t, .int .i64 c] 40 (0, 0))
  res : V.heap[H + 1]? = some (.cells #[.slice none 0 0, .slice none 0 0, .int .i64 0, .int .i64 0] 40 (0, 0))
  turn : Turn Nope w V
  own : V.ownsRow B 82 3 u n xs
  hz : w.heap.size = H
theorem due_turned {W w3 V : World} {H n : Nat} {vP vL u : Value} {t c : Int} {xs : List Value} (hp : PQ w3 H #[vP, vL, .int .i64 t, .int .i64 c] b vP vL P L) (ht : Turn Nope W w3) (hz : w.heap.size = H)
    (hr : w3.heap[H + 1]? = some (.cells #[.slice none 0 0, .slice none 0 0, .int .i64 0, .int .i64 0] 40 (0, 0))) (hw : H + 2 = W.heap.size) (ho : w3.ownsRow H 82 3 u n xs) (h0 : Turn Nope w W) (hV : w3.setCell ⟨H, 1, none⟩ u = V) : DueV H w V H vP u t c n xs := by
  subst hV
  have n1 := own_ne ho hp.box (by decide)
  refine ⟨?_, blk_far hr (show H + 1 ≠ H by omega) u, (h0.trans ht).set_new (by omega) u, ?_, hz⟩
  · have := blk_set hp.box 1 u
    simpa using this
  · exact own_turn ho ((Turn.refl (At H) w3).set_at (i := 1) u) fun k hk hk' => n1 k hk hk'
theorem DueV.cells {B : Nat} {V : World} {H n : Nat} {vP u : Value} {t c : Int} {xs : List Value} (h : DueV B w V H vP u t c n xs) :
    V.cell? ⟨H, 0, none⟩ = some vP ∧ V.cell? ⟨H, 1, none⟩ = some u ∧ V.cell? ⟨H, 2, none⟩ = some (.int .i64 t) ∧ V.cell? ⟨H, 3, none⟩ = some (.int .i64 c) ∧
    V.cell? ⟨H + 1, 0, none⟩ = some (.slice none 0 0) ∧ V.cell? ⟨H + 1, 1, none⟩ = some (.slice none 0 0) ∧ V.cell? ⟨H + 1, 2, none⟩ = some (.int .i64 0) ∧ V.cell? ⟨H + 1, 3, none⟩ = some (.int .i64 0) ∧
    V.frozen? ⟨H + 1, 0, none⟩ = false ∧ V.frozen? ⟨H + 1, 1, none⟩ = false ∧ V.frozen? ⟨H + 1, 2, none⟩ = false ∧ V.frozen? ⟨H + 1, 3, none⟩ = false :=
  ⟨by rw [blk_cell h.box]; rfl, by rw [blk_cell h.box]; rfl, by rw [blk_cell h.box]; rfl, by rw [blk_cell h.box]; rfl, by rw [blk_cell h.res]; rfl, by rw [blk_cell h.res]; rfl, by rw [blk_cell h.res]; rfl, by rw [blk_cell h.res]; rfl, blk_frozen h.res 0, blk_frozen h.res 1, blk_frozen h.res 2, blk_frozen h.res 3⟩
structure DueE (B : Nat) (w V : World) (H : Nat) (vP u : Value) (t c : Int) (n : Nat) (xs : List Value) : Prop where
  res : V.heap[H + 1]? = some (.cells #[vP, u, .int .i64 t, .int .i64 c] 40 (0, 0))
  turn : Turn Nope w V
  own : V.ownsRow B 82 3 u n xs
theorem DueV.stored {B : Nat} {V : World} {H n : Nat} {vP u : Value} {t c : Int} {xs : List Value} (h : DueV B w V H vP u t c n xs) : DueE B w (store4 V (H + 1) vP u (.int .i64 t) (.int .i64 c)) H vP u t c n xs := by
  have hz := h.hz
  have n2 := own_ne h.own h.res (by decide)
  have hT : Turn (At (H + 1)) V (store4 V (H + 1) vP u (.int .i64 t) (.int .i64 c)) := ((((Turn.refl _ _).set_at _).set_at _).set_at _).set_at _
  exact ⟨store4_blk h.res _ _ _ _, (((h.turn.set_new (by omega) _).set_new (by omega) _).set_new (by omega) _).set_new (by omega) _, own_turn h.own hT fun k hk hk' => n2 k hk hk'⟩
theorem DueE.cells {B : Nat} {V : World} {H n : Nat} {vP u : Value} {t c : Int} {xs : List Value} (h : DueE B w V H vP u t c n xs) :
    V.cell? ⟨H + 1, 0, none⟩ = some vP ∧ V.cell? ⟨H + 1, 1, none⟩ = some u ∧ V.cell? ⟨H + 1, 2, none⟩ = some (.int .i64 t) ∧ V.cell? ⟨H + 1, 3, none⟩ = some (.int .i64 c) :=
  ⟨by rw [blk_cell h.res]; rfl, by rw [blk_cell h.res]; rfl, by rw [blk_cell h.res]; rfl, by rw [blk_cell h.res]; rfl⟩
def dueR (P : List Int) (L : List One3) (t c : Int) (j : Nat) (p : Int) : List One3 := if 0 < p then L ++ [⟨(j : Int), t + p, c + 1⟩] else L
set_option maxHeartbeats 8000000 in
theorem ref_due (h : RV b w vP vL P L) (hb : b ≤ w.heap.size) (hL : L.length ≤ 1000) {j : Nat} {p : Int} (hp : P[j]? = some p) (h0 : 0 ≤ p) (h1 : p ≤ 1048576) (ht0 : 0 ≤ t) (ht1 : t ≤ 1000000000000) (hc0 : 0 ≤ c) (hc1 : c ≤ 1000000000000) :
    Calls Try.prog 30 #[.agg #[vP, vL, .int .i64 t, .int .i64 c], .int .i64 (j : Int)] w fun e w' => ∃ vL', e = .returned (.agg #[vP, vL', .int .i64 t, .int .i64 (c + 1)]) ∧ RV b w' vP vL' P (dueR P L t c j p) ∧ Turn Nope w w' := by
  have hlt : j < P.length := (List.getElem?_eq_some_iff.1 hp).1
  obtain ⟨g, cp, rfl, cg⟩ := num_at h.p hp
  obtain ⟨A2, c2, rfl, _⟩ := own_slice h.l
  have HR := Lib.hid h
  obtain ⟨i82, hi82, hz82, hs82, hb82⟩ := info_parts Try.info82
  have I82 := Lib.hid (And.intro hi82 (And.intro hz82 (And.intro hs82 hb82)))
  have i0 : (0 : Int) ≤ (j : Int) := by omega
  have i1 : (j : Int) < (P.length : Int) := by omega
  have HW1 : Hid (wrap64 (c + 1) = c + 1) := IntWalk.wrap64_in _ ⟨by omega, by omega⟩
  have HW2 : Hid (wrap64 (t + p) = t + p) := IntWalk.wrap64_in _ ⟨by omega, by omega⟩
  have HPJ := Lib.hid hp
  have hw1 := HW1.out
  clear hi82 hz82 hs82 hb82 h hp cg
  have b0 : (w.alloc (.cells #[.slice (some ⟨g, 0, none⟩) P.length cp, .slice A2 L.length c2, .int .i64 t, .int .i64 c] 40)).heap[w.heap.size]? = _ := blk_new _ _
  have HCG : Hid (∀ W, Turn Nope w W → W.cell? ⟨g, j, none⟩ = some (.int .i64 p)) := fun W ht => by
    obtain ⟨g', cp', e, hc⟩ := num_at (own_nope HR.out.p ht) HPJ.out
    injection e with e _ _
    injection e with e
    injection e with e
    rw [e]; exact hc
  go_enter Try.func30, Try.ntmps30
  go_upto_region 2 with (fail)
  obtain ⟨W, hW⟩ : ∃ W, (w.alloc (.cells #[.slice (some ⟨g, 0, none⟩) P.length cp, .slice A2 L.length c2, .int .i64 t, .int .i64 (c + 1)] 40)).alloc (.cells #[.slice none 0 0, .slice none 0 0, .int .i64 0, .int .i64 0] 40) = W := ⟨_, rfl⟩
  have HB0 : Hid (W.heap[w.heap.size]? = some (.cells #[.slice (some ⟨g, 0, none⟩) P.length cp, .slice A2 L.length c2, .int .i64 t, .int .i64 (c + 1)] 40 (0, 0))) := by rw [← hW]; exact blk_alloc (blk_new _ _) _
  have HB1 : Hid (W.heap[w.heap.size + 1]? = some (.cells #[.slice none 0 0, .slice none 0 0, .int .i64 0, .int .i64 0] 40 (0, 0))) := by
    rw [← hW]
    show _ = _
    have := blk_new (w.alloc (.cells #[.slice (some ⟨g, 0, none⟩) P.length cp, .slice A2 L.length c2, .int .i64 t, .int .i64 (c + 1)] 40)) (.cells #[.slice none 0 0, .slice none 0 0, .int .i64 0, .int .i64 0] 40)
    simpa using this
  have HT0 : Hid (Turn Nope w W) := by rw [← hW]; exact ((Turn.refl _ _).alloc _).alloc _
  have HPQ : Hid (PQ W w.heap.size #[.slice (some ⟨g, 0, none⟩) P.length cp, .slice A2 L.length c2, .int .i64 t, .int .i64 (c + 1)] b (.slice (some ⟨g, 0, none⟩) P.length cp) (.slice A2 L.length c2) P L) := ⟨HB0.out, HR.out.nope HT0.out⟩
  have HWS : Hid (w.heap.size + 2 = W.heap.size) := by rw [← hW]; show _ = _; simp
  rw [hW]
  clear hW b0
  obtain ⟨H, hH⟩ : ∃ H, w.heap.size = H := ⟨_, rfl⟩
  have HH := Lib.hid hH
  rw [hH] at HB0 HB1 HPQ HWS hb ⊢
  clear hH
  have SAT : Hid (∀ V : World, PQ V H #[.slice (some ⟨g, 0, none⟩) P.length cp, .slice A2 L.length c2, .int .i64 t, .int .i64 (c + 1)] b (.slice (some ⟨g, 0, none⟩) P.length cp) (.slice A2 L.length c2) P L →
      V.cell? ⟨H, 0, none⟩ = some (.slice (some ⟨g, 0, none⟩) P.length cp) ∧ V.cell? ⟨H, 1, none⟩ = some (.slice A2 L.length c2) ∧ V.cell? ⟨H, 2, none⟩ = some (.int .i64 t) ∧ V.cell? ⟨H, 3, none⟩ = some (.int .i64 (c + 1)) ∧ V.cell? ⟨g, j, none⟩ = some (.int .i64 p) ∧ V.frozen? ⟨H, 1, none⟩ = false) := by
    intro V hV
    obtain ⟨g', cp', e, hc⟩ := num_at hV.rv.p HPJ.out
    injection e with e _ _
    injection e with e
    injection e with e
    subst e
    exact ⟨by rw [blk_cell hV.box]; rfl, by rw [blk_cell hV.box]; rfl, by rw [blk_cell hV.box]; rfl, by rw [blk_cell hV.box]; rfl, hc, blk_frozen hV.box 1⟩
  obtain ⟨p0, p1, p2, p3, p4, p5⟩ := SAT.out _ HPQ.out
  by_cases hpos : 0 < p
  · have d1 : decide (p > 0) = true := by simpa using hpos
    have d1' : decide (0 < p) = true := d1
    have HD : Hid (dueR P L t c j p = L ++ [⟨(j : Int), t + p, c + 1⟩]) := if_pos hpos
    clear hpos HCG
    go_wp2_with fail
    clear p0 p1 p2 p3 p4 p5 d1 d1'
    have hw2 := HW2.out
    have hw3 : IntKind.i64.wrap (t + p) = t + p := (IntWalk.i64_left _).trans hw2
    have SA4 : Hid (∀ V : World, PQ V H #[.slice (some ⟨g, 0, none⟩) P.length cp, .slice A2 L.length c2, .int .i64 t, .int .i64 (c + 1)] b (.slice (some ⟨g, 0, none⟩) P.length cp) (.slice A2 L.length c2) P L → V.cell? ⟨H, 0, none⟩ = some (.slice (some ⟨g, 0, none⟩) P.length cp) ∧ V.cell? ⟨H, 2, none⟩ = some (.int .i64 t) ∧ V.cell? ⟨H, 3, none⟩ = some (.int .i64 (c + 1)) ∧ V.cell? ⟨g, j, none⟩ = some (.int .i64 p)) := fun V hV => by
      obtain ⟨p0, p1, p2, p3, p4, p5⟩ := SAT.out V hV
      exact ⟨p0, p2, p3, p4⟩
    have SAS : Hid (∀ V : World, PQ V H #[.slice (some ⟨g, 0, none⟩) P.length cp, .slice A2 L.length c2, .int .i64 t, .int .i64 (c + 1)] b (.slice (some ⟨g, 0, none⟩) P.length cp) (.slice A2 L.length c2) P L → ∀ u : Value, (V.setCell ⟨H, 1, none⟩ u).cell? ⟨H, 0, none⟩ = some (.slice (some ⟨g, 0, none⟩) P.length cp) ∧ (V.setCell ⟨H, 1, none⟩ u).cell? ⟨H, 2, none⟩ = some (.int .i64 t) ∧ (V.setCell ⟨H, 1, none⟩ u).cell? ⟨H, 3, none⟩ = some (.int .i64 (c + 1)) ∧ (V.setCell ⟨H, 1, none⟩ u).cell? ⟨g, j, none⟩ = some (.int .i64 p)) := fun V hV u => by
      obtain ⟨p0, p1, p2, p3, p4, p5⟩ := SAT.out V hV
      have hb1 := blk_set hV.box 1 u
      have hgH : g ≠ H := fun e => own_ne hV.rv.p hV.box (by decide) g rfl e
      refine ⟨by rw [blk_cell hb1]; rfl, by rw [blk_cell hb1]; rfl, by rw [blk_cell hb1]; rfl, ?_⟩
      have := (Turn.refl (At H) V).set_at (i := 1) u |>.cell (p := ⟨g, j, none⟩) p4 (fun e => hgH e)
      exact this
    have EY2 : Hid (((W.drew.alloc (.cells #[] 82)).alloc (.cells #[.int .i64 (j : Int), .int .i64 (t + p), .int .i64 (c + 1)] 82)).heap[W.heap.size + 1]? = some (.cells #[.int .i64 (j : Int), .int .i64 (t + p), .int .i64 (c + 1)] 82 (0, 0))) := by
      show _ = _
      have := blk_new (W.drew.alloc (.cells #[] 82)) (.cells #[.int .i64 (j : Int), .int .i64 (t + p), .int .i64 (c + 1)] 82)
      simpa using this
    have EX3 : Hid (((W.drew.alloc (.cells #[.int .i64 (j : Int), .int .i64 (t + p), .int .i64 (c + 1)] 82)).alloc (.cells #[] 82)).heap[W.heap.size + 1]? = some (.cells #[] 82 (0, 0))) := by
      show _ = _
      have := blk_new (W.drew.alloc (.cells #[.int .i64 (j : Int), .int .i64 (t + p), .int .i64 (c + 1)] 82)) (.cells #[] 82)
      simpa using this
    have EY3 : Hid (((W.drew.alloc (.cells #[.int .i64 (j : Int), .int .i64 (t + p), .int .i64 (c + 1)] 82)).alloc (.cells #[] 82)).heap[W.heap.size]? = some (.cells #[.int .i64 (j : Int), .int .i64 (t + p), .int .i64 (c + 1)] 82 (0, 0))) := blk_alloc (blk_new W.drew (.cells #[.int .i64 (j : Int), .int .i64 (t + p), .int .i64 (c + 1)] 82)) (.cells #[] 82)
    have l0 := (SAT.out _ HPQ.out).2.1
    have l0d := (SAT.out _ HPQ.out.drew).2.1
    have hHW : H < W.heap.size := by have := HWS.out; omega
    have hHW1 : ¬ H = W.heap.size := by omega
    have hHW2 : ¬ H = W.heap.size + 1 := by omega
    have l1 := (SAT.out _ (HPQ.out.drew.alloc (.cells #[] 82))).2.1
    have l2 := (SAT.out _ (HPQ.out.drew.alloc (.cells #[.int .i64 (j : Int), .int .i64 (t + p), .int .i64 (c + 1)] 82))).2.1
    have l3 := (SAT.out _ ((HPQ.out.drew.alloc (.cells #[] 82)).alloc (.cells #[.int .i64 (j : Int), .int .i64 (t + p), .int .i64 (c + 1)] 82))).2.1
    have l4 := (SAT.out _ ((HPQ.out.drew.alloc (.cells #[.int .i64 (j : Int), .int .i64 (t + p), .int .i64 (c + 1)] 82)).alloc (.cells #[] 82))).2.1
    refine wp_region_noPanic ?_
    refine wp_region_held_drew (S := fun V => V.cell? ⟨H, 0, none⟩ = some (.slice (some ⟨g, 0, none⟩) P.length cp) ∧ V.cell? ⟨H, 2, none⟩ = some (.int .i64 t) ∧ V.cell? ⟨H, 3, none⟩ = some (.int .i64 (c + 1)) ∧ V.cell? ⟨g, j, none⟩ = some (.int .i64 p)) (by kernel_rfl) (SA4.out _ HPQ.out.drew) (fun hHeld => ?_)
    refine wpAnyH_take (i := 1) (v := ?_) (by simp only [List.getElem?_toArray, List.getElem?_cons_succ, List.getElem?_cons_zero]; rfl) (by kernel_rfl) (by kernel_rfl) (by kernel_rfl) (fun _ _ _ h => h) (Or.inl ⟨by rfl, ?_⟩) (by assumption) ?_
    rotate_left
    · (intro w hSw; (try dsimp only at hSw); go_simp; (try with_reducible rfl))
    try simp only [Act.put, List.setIfInBounds_toArray, List.set_cons_zero, List.set_cons_succ]
    refine wpAnyH_take (i := 4) (v := ?_) (by simp only [List.getElem?_toArray, List.getElem?_cons_succ, List.getElem?_cons_zero]; rfl) (by kernel_rfl) (by kernel_rfl) (by kernel_rfl) (fun _ _ _ h => h) (Or.inl ⟨by rfl, ?_⟩) (by assumption) ?_
    rotate_left
    · (intro w hSw; (try dsimp only at hSw); go_simp; (try with_reducible rfl))
    try simp only [Act.put, List.setIfInBounds_toArray, List.set_cons_zero, List.set_cons_succ]
    refine wpAnyH_take (i := 5) (v := ?_) (by simp only [List.getElem?_toArray, List.getElem?_cons_succ, List.getElem?_cons_zero]; rfl) (by kernel_rfl) (by kernel_rfl) (by kernel_rfl) (fun _ _ _ h => h) (Or.inl ⟨by rfl, ?_⟩) (by assumption) ?_
    rotate_left
    · (intro w hSw; (try dsimp only at hSw); go_simp; (try with_reducible rfl))
    try simp only [Act.put, List.setIfInBounds_toArray, List.set_cons_zero, List.set_cons_succ]
    refine wpAnyH_take (i := 6) (v := ?_) (by simp only [List.getElem?_toArray, List.getElem?_cons_succ, List.getElem?_cons_zero]; rfl) (by kernel_rfl) (by kernel_rfl) (by kernel_rfl) (fun _ _ _ h => h) (Or.inl ⟨by rfl, ?_⟩) (by assumption) ?_
    rotate_left
    · (intro w hSw; (try dsimp only at hSw); go_simp; (try with_reducible rfl))
    try simp only [Act.put, List.setIfInBounds_toArray, List.set_cons_zero, List.set_cons_succ]
    refine wpAnyH_take (i := 7) (v := ?_) (by simp only [List.getElem?_toArray, List.getElem?_cons_succ, List.getElem?_cons_zero]; rfl) (by kernel_rfl) (by kernel_rfl) (by kernel_rfl) (fun _ _ _ h => h) (Or.inl ⟨by rfl, ?_⟩) (by assumption) ?_
    rotate_left
    · (intro w hSw; (try dsimp only at hSw); go_simp; (try with_reducible rfl))
    try simp only [Act.put, List.setIfInBounds_toArray, List.set_cons_zero, List.set_cons_succ]
    refine wpAnyH_take (i := 8) (v := ?_) (by simp only [List.getElem?_toArray, List.getElem?_cons_succ, List.getElem?_cons_zero]; rfl) (by kernel_rfl) (by kernel_rfl) (by kernel_rfl) (fun _ _ _ h => h) (Or.inl ⟨by rfl, ?_⟩) (by assumption) ?_
    rotate_left
    · (intro w hSw; (try dsimp only at hSw); go_simp; (try with_reducible rfl))
    try simp only [Act.put, List.setIfInBounds_toArray, List.set_cons_zero, List.set_cons_succ]
    refine wpAnyH_take (i := 9) (v := ?_) (by simp only [List.getElem?_toArray, List.getElem?_cons_succ, List.getElem?_cons_zero]; rfl) (by kernel_rfl) (by kernel_rfl) (by kernel_rfl) (fun _ _ _ h => h) (Or.inl ⟨by rfl, ?_⟩) (by assumption) ?_
    rotate_left
    · (intro w hSw; (try dsimp only at hSw); go_simp; (try with_reducible rfl))
    try simp only [Act.put, List.setIfInBounds_toArray, List.set_cons_zero, List.set_cons_succ]
    refine wpAnyH_take (i := 10) (v := ?_) (by simp only [List.getElem?_toArray, List.getElem?_cons_succ, List.getElem?_cons_zero]; rfl) (by kernel_rfl) (by kernel_rfl) (by kernel_rfl) (fun _ _ _ h => h) (Or.inl ⟨by rfl, ?_⟩) (by assumption) ?_
    rotate_left
    · (intro w hSw; (try dsimp only at hSw); go_simp; (try with_reducible rfl))
    try simp only [Act.put, List.setIfInBounds_toArray, List.set_cons_zero, List.set_cons_succ]
    refine wpAnyH_take (i := 11) (v := ?_) (by simp only [List.getElem?_toArray, List.getElem?_cons_succ, List.getElem?_cons_zero]; rfl) (by kernel_rfl) (by kernel_rfl) (by kernel_rfl) (fun _ _ _ h => h) (Or.inl ⟨by rfl, ?_⟩) (by assumption) ?_
    rotate_left
    · (intro w hSw; (try dsimp only at hSw); go_simp; (try with_reducible rfl))
    try simp only [Act.put, List.setIfInBounds_toArray, List.set_cons_zero, List.set_cons_succ]
    refine wpAnyH_take (i := 12) (v := ?_) (by simp only [List.getElem?_toArray, List.getElem?_cons_succ, List.getElem?_cons_zero]; rfl) (by kernel_rfl) (by kernel_rfl) (by kernel_rfl) (fun _ _ _ h => h) (Or.inl ⟨by rfl, ?_⟩) (by assumption) ?_
    rotate_left
    · (intro w hSw; (try dsimp only at hSw); go_simp; (try with_reducible rfl))
    try simp only [Act.put, List.setIfInBounds_toArray, List.set_cons_zero, List.set_cons_succ]
    refine wpAnyH_take (i := 13) (v := ?_) (by simp only [List.getElem?_toArray, List.getElem?_cons_succ, List.getElem?_cons_zero]; rfl) (by kernel_rfl) (by kernel_rfl) (by kernel_rfl) (fun _ _ _ h => h) (Or.inl ⟨by rfl, ?_⟩) (by assumption) ?_
    rotate_left
    · (intro w hSw; (try dsimp only at hSw); go_simp; (try with_reducible rfl))
    try simp only [Act.put, List.setIfInBounds_toArray, List.set_cons_zero, List.set_cons_succ]
    refine wpAnyH_take (i := 14) (v := ?_) (by simp only [List.getElem?_toArray, List.getElem?_cons_succ, List.getElem?_cons_zero]; rfl) (by kernel_rfl) (by kernel_rfl) (by kernel_rfl) (fun _ _ _ h => h) (Or.inl ⟨by rfl, ?_⟩) (by assumption) ?_
    rotate_left
    · (intro w hSw; (try dsimp only at hSw); go_simp; (try with_reducible rfl))
    try simp only [Act.put, List.setIfInBounds_toArray, List.set_cons_zero, List.set_cons_succ]
    refine wpAnyH_take (i := 15) (v := ?_) (by simp only [List.getElem?_toArray, List.getElem?_cons_succ, List.getElem?_cons_zero]; rfl) (by kernel_rfl) (by kernel_rfl) (by kernel_rfl) (fun _ _ _ h => h) (Or.inl ⟨by rfl, ?_⟩) (by assumption) ?_
    rotate_left
    · (intro w hSw; (try dsimp only at hSw); go_simp; (try with_reducible rfl))
    try simp only [Act.put, List.setIfInBounds_toArray, List.set_cons_zero, List.set_cons_succ]
    refine wpAnyH_ready (rs := [0, 2, 16]) (by kernel_rfl) (by simp) (AllReadyH.cons (by simp only [List.getElem?_toArray, List.getElem?_cons_succ, List.getElem?_cons_zero]; rfl) (fun K hK => ?_) (AllReadyH.cons (by simp only [List.getElem?_toArray, List.getElem?_cons_succ, List.getElem?_cons_zero]; rfl) (fun K hK => ?_) (AllReadyH.cons (by simp only [List.getElem?_toArray, List.getElem?_cons_succ, List.getElem?_cons_zero]; rfl) (fun K hK => ?_) AllReadyH.nil)))
    · go_simp
      refine hK.out _ _ ?_ (fun hHeld2 => ?_)
      · (try dsimp only)
        exact SA4.out _ (HPQ.out.drew.alloc _)
      clear hK K hHeld
      have hHeld := hHeld2
      clear hHeld2
      try simp only [Act.put, List.setIfInBounds_toArray, List.set_cons_zero, List.set_cons_succ]
      refine wpAnyH_ready (rs := [2, 16]) (by kernel_rfl) (by simp) (AllReadyH.cons (by simp only [List.getElem?_toArray, List.getElem?_cons_succ, List.getElem?_cons_zero]; rfl) (fun K hK => ?_) (AllReadyH.cons (by simp only [List.getElem?_toArray, List.getElem?_cons_succ, List.getElem?_cons_zero]; rfl) (fun K hK => ?_) AllReadyH.nil))
      · go_simp
        refine hK.out _ _ ?_ (fun hHeld2 => ?_)
        · (try dsimp only)
          exact SA4.out _ (HPQ.out.drew.alloc _)
        clear hK K hHeld
        have hHeld := hHeld2
        clear hHeld2
        try simp only [Act.put, List.setIfInBounds_toArray, List.set_cons_zero, List.set_cons_succ]
        refine wpAnyH_ready (rs := [3, 16]) (by kernel_rfl) (by simp) (AllReadyH.cons (by simp only [List.getElem?_toArray, List.getElem?_cons_succ, List.getElem?_cons_zero]; rfl) (fun K hK => ?_) (AllReadyH.cons (by simp only [List.getElem?_toArray, List.getElem?_cons_succ, List.getElem?_cons_zero]; rfl) (fun K hK => ?_) AllReadyH.nil))
        · (refine step_append_row _ rfl (.tmp 15) (.tmp 17) 38 rfl (H + 2) 82 i82 _ 3 24 Try.underlying38 I82.out.1 I82.out.2.1 I82.out.2.2.1 I82.out.2.2.2 rfl (by omega) _ 0 [] rfl (own_empty (by first | exact EX3.out | exact blk_new _ _ | exact blk_alloc (blk_new _ _) _) (by have := HWS.out; show H + 2 ≤ _; first | exact Nat.le_of_eq this | exact Nat.le_succ_of_le (Nat.le_of_eq this))) _ b L.length (L.flatMap oneCells) rfl (own_nope HPQ.out.rv.l (by repeat (first | exact Turn.refl _ _ | apply Turn.alloc | apply Turn.drew))) (one_cells L) (by show 0 + _ ≤ 9223372036854775807; omega) (by omega) (by have := HWS.out; first | omega | (simp; omega)) _ rfl ?_; intro v2 w2 hown2 hgr2 hat2; have HO2 := Lib.hid hown2; have HT2 : Hid (Turn Nope W w2) := Turn.grown (by repeat (first | exact Turn.refl _ _ | apply Turn.alloc | apply Turn.drew)) hgr2 (fun k hk => .inr (by have e := own_at hk; subst e; first | exact Nat.le_refl _ | exact Nat.le_succ _)); have HPQ2 := Lib.hid (HPQ.out.nope HT2.out); (first | (have HN2 := Lib.hid (blk_grown EY2.out hgr2 own_ne1)) | (have HN2 := Lib.hid (blk_grown EY3.out hgr2 own_ne2)) | skip); clear hown2 hgr2 hat2)
          refine hK.out _ _ ?_ (fun hHeld2 => ?_)
          · (try dsimp only)
            exact SA4.out _ HPQ2.out
          clear hK K hHeld
          have hHeld := hHeld2
          clear hHeld2
          try simp only [Act.put, List.setIfInBounds_toArray, List.set_cons_zero, List.set_cons_succ]
          refine wpAnyH_ready (rs := [16]) (by kernel_rfl) (by simp) (AllReadyH.cons (by simp only [List.getElem?_toArray, List.getElem?_cons_succ, List.getElem?_cons_zero]; rfl) (fun K hK => ?_) AllReadyH.nil)
          · go_simp
            refine hK.out _ _ ?_ (fun hHeld2 => ?_)
            · (try dsimp only)
              exact SA4.out _ (HPQ2.out.alloc _)
            clear hK K hHeld
            have hHeld := hHeld2
            clear hHeld2
            try simp only [Act.put, List.setIfInBounds_toArray, List.set_cons_zero, List.set_cons_succ]
            refine wpAnyH_ready (rs := [17]) (by kernel_rfl) (by simp) (AllReadyH.cons (by simp only [List.getElem?_toArray, List.getElem?_cons_succ, List.getElem?_cons_zero]; rfl) (fun K hK => ?_) AllReadyH.nil)
            · (refine step_append_lies _ rfl (.tmp 18) (.tmp 31) 38 rfl (H + 2) 82 i82 _ 3 24 Try.underlying38 I82.out.1 I82.out.2.1 I82.out.2.2.1 I82.out.2.2.2 rfl (by omega) v2 (0 + L.length) ([] ++ L.flatMap oneCells) rfl (own_nope HO2.out (by repeat (first | exact Turn.refl _ _ | apply Turn.alloc | apply Turn.drew))) _ 1 1 [.int .i64 (j : Int), .int .i64 (t + p), .int .i64 (c + 1)] rfl rfl (news_blk (cs := #[.int .i64 (j : Int), .int .i64 (t + p), .int .i64 (c + 1)]) (blk_new _ _)) (by intro u hu; simp at hu; rcases hu with rfl | rfl | rfl <;> rfl) (by omega) (by show _ + 1 ≤ 9223372036854775807; omega) (by omega) (by have h1 := HT2.out.size; have h2 := HWS.out; first | omega | (simp; omega)) _ rfl ?_; intro g3 cap3 w3 hown3 hgr3 hat3 hlt3; have HO3 := Lib.hid hown3; have HT3 : Hid (Turn Nope W w3) := Turn.growR (Turn.trans HT2.out (by repeat (first | exact Turn.refl _ _ | apply Turn.alloc | apply Turn.drew))) hgr3 (own_nope HO2.out (by repeat (first | exact Turn.refl _ _ | apply Turn.alloc | apply Turn.drew))) (Nat.le_of_eq HWS.out.symm); have HPQ6 := Lib.hid (HPQ.out.nope HT3.out); have m1 := (SAT.out _ HPQ6.out).2.1; have m2 := (SAT.out _ HPQ6.out).2.2.2.2.2; clear l0 l0d l1 l2 l3 l4 hown3 hgr3 hat3 hlt3)
              refine hK.out _ _ ?_ (fun hHeld2 => ?_)
              · (try dsimp only)
                exact SA4.out _ HPQ6.out
              clear hK K hHeld
              have hHeld := hHeld2
              clear hHeld2
              try simp only [Act.put, List.setIfInBounds_toArray, List.set_cons_zero, List.set_cons_succ]
              refine wpAnyH_take (i := 18) (v := ?_) (by simp only [List.getElem?_toArray, List.getElem?_cons_succ, List.getElem?_cons_zero]; rfl) (by kernel_rfl) (by kernel_rfl) (by kernel_rfl) (fun _ _ _ h => h) (Or.inl ⟨by rfl, ?_⟩) (by assumption) ?_
              rotate_left
              · (intro w hSw; (try dsimp only at hSw); go_simp; (try with_reducible rfl))
              try simp only [Act.put, List.setIfInBounds_toArray, List.set_cons_zero, List.set_cons_succ]
              refine wpAnyH_ready (rs := [19]) (by kernel_rfl) (by simp) (AllReadyH.cons (by simp only [List.getElem?_toArray, List.getElem?_cons_succ, List.getElem?_cons_zero]; rfl) (fun K hK => ?_) AllReadyH.nil)
              · go_simp
                refine hK.out _ _ ?_ (fun hHeld2 => ?_)
                · (try dsimp only)
                  exact SAS.out _ HPQ6.out _
                clear hK K hHeld
                have hHeld := hHeld2
                clear hHeld2
                try simp only [Act.put, List.setIfInBounds_toArray, List.set_cons_zero, List.set_cons_succ]
                refine wpAnyH_done (by kernel_rfl) ?_ _
                refine NoPanic.normal ?_
                have ho3 := HO3.out
                rw [Nat.zero_add, List.nil_append] at ho3
                generalize hV : World.setCell w3 _ _ = V
                have HV := due_turned HPQ6.out HT3.out HH.out (HT3.out.blk HB1.out (fun h => h)) HWS.out (own_lower ho3 (Nat.le_add_right _ _)) HT0.out hV
                clear hV hHeld ho3
                obtain ⟨k0, k1, k2, k3, e0, e1, e2, e3, q0, q1, q2, q3⟩ := HV.cells
                go_wp2_with fail
                have HE := HV.stored
                change bodyPost _ _ _ _ _ (store4 V (H + 1) _ _ _ _)
                clear k0 k1 k2 k3 e0 e1 e2 e3 q0 q1 q2 q3
                generalize store4 V (H + 1) _ _ _ _ = wE at *
                obtain ⟨e0, e1, e2, e3⟩ := HE.cells
                refine bodyPost_ret (v := .agg #[.slice (some ⟨g, 0, none⟩) P.length cp, .slice (some ⟨g3, 0, none⟩) (L.length + 1) cap3, .int .i64 t, .int .i64 (c + 1)]) (by simp [results, Try.results30, go_sem, e0, e1, e2, e3]) rfl ⟨_, rfl, ?_, HE.turn⟩
                rw [HD.out]
                exact ⟨own_nope HR.out.p HE.turn, by have h1 := HE.own; rw [List.length_append, List.flatMap_append]; exact own_lower h1 hb⟩
        · go_simp
          refine hK.out _ _ ?_ (fun hHeld2 => ?_)
          · (try dsimp only)
            exact SA4.out _ ((HPQ.out.drew.alloc _).alloc _)
          clear hK K hHeld
          have hHeld := hHeld2
          clear hHeld2
          try simp only [Act.put, List.setIfInBounds_toArray, List.set_cons_zero, List.set_cons_succ]
          refine wpAnyH_ready (rs := [3]) (by kernel_rfl) (by simp) (AllReadyH.cons (by simp only [List.getElem?_toArray, List.getElem?_cons_succ, List.getElem?_cons_zero]; rfl) (fun K hK => ?_) AllReadyH.nil)
          · (refine step_append_row _ rfl (.tmp 15) (.tmp 17) 38 rfl (H + 2) 82 i82 _ 3 24 Try.underlying38 I82.out.1 I82.out.2.1 I82.out.2.2.1 I82.out.2.2.2 rfl (by omega) _ 0 [] rfl (own_empty (by first | exact EX3.out | exact blk_new _ _ | exact blk_alloc (blk_new _ _) _) (by have := HWS.out; show H + 2 ≤ _; first | exact Nat.le_of_eq this | exact Nat.le_succ_of_le (Nat.le_of_eq this))) _ b L.length (L.flatMap oneCells) rfl (own_nope HPQ.out.rv.l (by repeat (first | exact Turn.refl _ _ | apply Turn.alloc | apply Turn.drew))) (one_cells L) (by show 0 + _ ≤ 9223372036854775807; omega) (by omega) (by have := HWS.out; first | omega | (simp; omega)) _ rfl ?_; intro v2 w2 hown2 hgr2 hat2; have HO2 := Lib.hid hown2; have HT2 : Hid (Turn Nope W w2) := Turn.grown (by repeat (first | exact Turn.refl _ _ | apply Turn.alloc | apply Turn.drew)) hgr2 (fun k hk => .inr (by have e := own_at hk; subst e; first | exact Nat.le_refl _ | exact Nat.le_succ _)); have HPQ2 := Lib.hid (HPQ.out.nope HT2.out); (first | (have HN2 := Lib.hid (blk_grown EY2.out hgr2 own_ne1)) | (have HN2 := Lib.hid (blk_grown EY3.out hgr2 own_ne2)) | skip); clear hown2 hgr2 hat2)
            refine hK.out _ _ ?_ (fun hHeld2 => ?_)
            · (try dsimp only)
              exact SA4.out _ HPQ2.out
            clear hK K hHeld
            have hHeld := hHeld2
            clear hHeld2
            try simp only [Act.put, List.setIfInBounds_toArray, List.set_cons_zero, List.set_cons_succ]
            refine wpAnyH_ready (rs := [17]) (by kernel_rfl) (by simp) (AllReadyH.cons (by simp only [List.getElem?_toArray, List.getElem?_cons_succ, List.getElem?_cons_zero]; rfl) (fun K hK => ?_) AllReadyH.nil)
            · (refine step_append_lies _ rfl (.tmp 18) (.tmp 31) 38 rfl (H + 2) 82 i82 _ 3 24 Try.underlying38 I82.out.1 I82.out.2.1 I82.out.2.2.1 I82.out.2.2.2 rfl (by omega) v2 (0 + L.length) ([] ++ L.flatMap oneCells) rfl (own_nope HO2.out (by repeat (first | exact Turn.refl _ _ | apply Turn.alloc | apply Turn.drew))) _ 1 1 [.int .i64 (j : Int), .int .i64 (t + p), .int .i64 (c + 1)] rfl rfl (news_blk (cs := #[.int .i64 (j : Int), .int .i64 (t + p), .int .i64 (c + 1)]) HN2.out) (by intro u hu; simp at hu; rcases hu with rfl | rfl | rfl <;> rfl) (by omega) (by show _ + 1 ≤ 9223372036854775807; omega) (by omega) (by have h1 := HT2.out.size; have h2 := HWS.out; first | omega | (simp; omega)) _ rfl ?_; intro g3 cap3 w3 hown3 hgr3 hat3 hlt3; have HO3 := Lib.hid hown3; have HT3 : Hid (Turn Nope W w3) := Turn.growR (Turn.trans HT2.out (by repeat (first | exact Turn.refl _ _ | apply Turn.alloc | apply Turn.drew))) hgr3 (own_nope HO2.out (by repeat (first | exact Turn.refl _ _ | apply Turn.alloc | apply Turn.drew))) (Nat.le_of_eq HWS.out.symm); have HPQ6 := Lib.hid (HPQ.out.nope HT3.out); have m1 := (SAT.out _ HPQ6.out).2.1; have m2 := (SAT.out _ HPQ6.out).2.2.2.2.2; clear l0 l0d l1 l2 l3 l4 hown3 hgr3 hat3 hlt3)
              refine hK.out _ _ ?_ (fun hHeld2 => ?_)
              · (try dsimp only)
                exact SA4.out _ HPQ6.out
              clear hK K hHeld
              have hHeld := hHeld2
              clear hHeld2
              try simp only [Act.put, List.setIfInBounds_toArray, List.set_cons_zero, List.set_cons_succ]
              refine wpAnyH_take (i := 18) (v := ?_) (by simp only [List.getElem?_toArray, List.getElem?_cons_succ, List.getElem?_cons_zero]; rfl) (by kernel_rfl) (by kernel_rfl) (by kernel_rfl) (fun _ _ _ h => h) (Or.inl ⟨by rfl, ?_⟩) (by assumption) ?_
              rotate_left
              · (intro w hSw; (try dsimp only at hSw); go_simp; (try with_reducible rfl))
              try simp only [Act.put, List.setIfInBounds_toArray, List.set_cons_zero, List.set_cons_succ]
              refine wpAnyH_ready (rs := [19]) (by kernel_rfl) (by simp) (AllReadyH.cons (by simp only [List.getElem?_toArray, List.getElem?_cons_succ, List.getElem?_cons_zero]; rfl) (fun K hK => ?_) AllReadyH.nil)
              · go_simp
                refine hK.out _ _ ?_ (fun hHeld2 => ?_)
                · (try dsimp only)
                  exact SAS.out _ HPQ6.out _
                clear hK K hHeld
                have hHeld := hHeld2
                clear hHeld2
                try simp only [Act.put, List.setIfInBounds_toArray, List.set_cons_zero, List.set_cons_succ]
                refine wpAnyH_done (by kernel_rfl) ?_ _
                refine NoPanic.normal ?_
                have ho3 := HO3.out
                rw [Nat.zero_add, List.nil_append] at ho3
                generalize hV : World.setCell w3 _ _ = V
                have HV := due_turned HPQ6.out HT3.out HH.out (HT3.out.blk HB1.out (fun h => h)) HWS.out (own_lower ho3 (Nat.le_add_right _ _)) HT0.out hV
                clear hV hHeld ho3
                obtain ⟨k0, k1, k2, k3, e0, e1, e2, e3, q0, q1, q2, q3⟩ := HV.cells
                go_wp2_with fail
                have HE := HV.stored
                change bodyPost _ _ _ _ _ (store4 V (H + 1) _ _ _ _)
                clear k0 k1 k2 k3 e0 e1 e2 e3 q0 q1 q2 q3
                generalize store4 V (H + 1) _ _ _ _ = wE at *
                obtain ⟨e0, e1, e2, e3⟩ := HE.cells
                refine bodyPost_ret (v := .agg #[.slice (some ⟨g, 0, none⟩) P.length cp, .slice (some ⟨g3, 0, none⟩) (L.length + 1) cap3, .int .i64 t, .int .i64 (c + 1)]) (by simp [results, Try.results30, go_sem, e0, e1, e2, e3]) rfl ⟨_, rfl, ?_, HE.turn⟩
                rw [HD.out]
                exact ⟨own_nope HR.out.p HE.turn, by have h1 := HE.own; rw [List.length_append, List.flatMap_append]; exact own_lower h1 hb⟩
      · go_simp
        refine hK.out _ _ ?_ (fun hHeld2 => ?_)
        · (try dsimp only)
          exact SA4.out _ ((HPQ.out.drew.alloc _).alloc _)
        clear hK K hHeld
        have hHeld := hHeld2
        clear hHeld2
        try simp only [Act.put, List.setIfInBounds_toArray, List.set_cons_zero, List.set_cons_succ]
        refine wpAnyH_ready (rs := [2]) (by kernel_rfl) (by simp) (AllReadyH.cons (by simp only [List.getElem?_toArray, List.getElem?_cons_succ, List.getElem?_cons_zero]; rfl) (fun K hK => ?_) AllReadyH.nil)
        · go_simp
          refine hK.out _ _ ?_ (fun hHeld2 => ?_)
          · (try dsimp only)
            exact SA4.out _ ((HPQ.out.drew.alloc _).alloc _)
          clear hK K hHeld
          have hHeld := hHeld2
          clear hHeld2
          try simp only [Act.put, List.setIfInBounds_toArray, List.set_cons_zero, List.set_cons_succ]
          refine wpAnyH_ready (rs := [3]) (by kernel_rfl) (by simp) (AllReadyH.cons (by simp only [List.getElem?_toArray, List.getElem?_cons_succ, List.getElem?_cons_zero]; rfl) (fun K hK => ?_) AllReadyH.nil)
          · (refine step_append_row _ rfl (.tmp 15) (.tmp 17) 38 rfl (H + 2) 82 i82 _ 3 24 Try.underlying38 I82.out.1 I82.out.2.1 I82.out.2.2.1 I82.out.2.2.2 rfl (by omega) _ 0 [] rfl (own_empty (by first | exact EX3.out | exact blk_new _ _ | exact blk_alloc (blk_new _ _) _) (by have := HWS.out; show H + 2 ≤ _; first | exact Nat.le_of_eq this | exact Nat.le_succ_of_le (Nat.le_of_eq this))) _ b L.length (L.flatMap oneCells) rfl (own_nope HPQ.out.rv.l (by repeat (first | exact Turn.refl _ _ | apply Turn.alloc | apply Turn.drew))) (one_cells L) (by show 0 + _ ≤ 9223372036854775807; omega) (by omega) (by have := HWS.out; first | omega | (simp; omega)) _ rfl ?_; intro v2 w2 hown2 hgr2 hat2; have HO2 := Lib.hid hown2; have HT2 : Hid (Turn Nope W w2) := Turn.grown (by repeat (first | exact Turn.refl _ _ | apply Turn.alloc | apply Turn.drew)) hgr2 (fun k hk => .inr (by have e := own_at hk; subst e; first | exact Nat.le_refl _ | exact Nat.le_succ _)); have HPQ2 := Lib.hid (HPQ.out.nope HT2.out); (first | (have HN2 := Lib.hid (blk_grown EY2.out hgr2 own_ne1)) | (have HN2 := Lib.hid (blk_grown EY3.out hgr2 own_ne2)) | skip); clear hown2 hgr2 hat2)
            refine hK.out _ _ ?_ (fun hHeld2 => ?_)
            · (try dsimp only)
              exact SA4.out _ HPQ2.out
            clear hK K hHeld
            have hHeld := hHeld2
            clear hHeld2
            try simp only [Act.put, List.setIfInBounds_toArray, List.set_cons_zero, List.set_cons_succ]
            refine wpAnyH_ready (rs := [17]) (by kernel_rfl) (by simp) (AllReadyH.cons (by simp only [List.getElem?_toArray, List.getElem?_cons_succ, List.getElem?_cons_zero]; rfl) (fun K hK => ?_) AllReadyH.nil)
            · (refine step_append_lies _ rfl (.tmp 18) (.tmp 31) 38 rfl (H + 2) 82 i82 _ 3 24 Try.underlying38 I82.out.1 I82.out.2.1 I82.out.2.2.1 I82.out.2.2.2 rfl (by omega) v2 (0 + L.length) ([] ++ L.flatMap oneCells) rfl (own_nope HO2.out (by repeat (first | exact Turn.refl _ _ | apply Turn.alloc | apply Turn.drew))) _ 1 1 [.int .i64 (j : Int), .int .i64 (t + p), .int .i64 (c + 1)] rfl rfl (news_blk (cs := #[.int .i64 (j : Int), .int .i64 (t + p), .int .i64 (c + 1)]) HN2.out) (by intro u hu; simp at hu; rcases hu with rfl | rfl | rfl <;> rfl) (by omega) (by show _ + 1 ≤ 9223372036854775807; omega) (by omega) (by have h1 := HT2.out.size; have h2 := HWS.out; first | omega | (simp; omega)) _ rfl ?_; intro g3 cap3 w3 hown3 hgr3 hat3 hlt3; have HO3 := Lib.hid hown3; have HT3 : Hid (Turn Nope W w3) := Turn.growR (Turn.trans HT2.out (by repeat (first | exact Turn.refl _ _ | apply Turn.alloc | apply Turn.drew))) hgr3 (own_nope HO2.out (by repeat (first | exact Turn.refl _ _ | apply Turn.alloc | apply Turn.drew))) (Nat.le_of_eq HWS.out.symm); have HPQ6 := Lib.hid (HPQ.out.nope HT3.out); have m1 := (SAT.out _ HPQ6.out).2.1; have m2 := (SAT.out _ HPQ6.out).2.2.2.2.2; clear l0 l0d l1 l2 l3 l4 hown3 hgr3 hat3 hlt3)
              refine hK.out _ _ ?_ (fun hHeld2 => ?_)
              · (try dsimp only)
                exact SA4.out _ HPQ6.out
              clear hK K hHeld
              have hHeld := hHeld2
              clear hHeld2
              try simp only [Act.put, List.setIfInBounds_toArray, List.set_cons_zero, List.set_cons_succ]
              refine wpAnyH_take (i := 18) (v := ?_) (by simp only [List.getElem?_toArray, List.getElem?_cons_succ, List.getElem?_cons_zero]; rfl) (by kernel_rfl) (by kernel_rfl) (by kernel_rfl) (fun _ _ _ h => h) (Or.inl ⟨by rfl, ?_⟩) (by assumption) ?_
              rotate_left
              · (intro w hSw; (try dsimp only at hSw); go_simp; (try with_reducible rfl))
              try simp only [Act.put, List.setIfInBounds_toArray, List.set_cons_zero, List.set_cons_succ]
              refine wpAnyH_ready (rs := [19]) (by kernel_rfl) (by simp) (AllReadyH.cons (by simp only [List.getElem?_toArray, List.getElem?_cons_succ, List.getElem?_cons_zero]; rfl) (fun K hK => ?_) AllReadyH.nil)
              · go_simp
                refine hK.out _ _ ?_ (fun hHeld2 => ?_)
                · (try dsimp only)
                  exact SAS.out _ HPQ6.out _
                clear hK K hHeld
                have hHeld := hHeld2
                clear hHeld2
                try simp only [Act.put, List.setIfInBounds_toArray, List.set_cons_zero, List.set_cons_succ]
                refine wpAnyH_done (by kernel_rfl) ?_ _
                refine NoPanic.normal ?_
                have ho3 := HO3.out
                rw [Nat.zero_add, List.nil_append] at ho3
                generalize hV : World.setCell w3 _ _ = V
                have HV := due_turned HPQ6.out HT3.out HH.out (HT3.out.blk HB1.out (fun h => h)) HWS.out (own_lower ho3 (Nat.le_add_right _ _)) HT0.out hV
                clear hV hHeld ho3
                obtain ⟨k0, k1, k2, k3, e0, e1, e2, e3, q0, q1, q2, q3⟩ := HV.cells
                go_wp2_with fail
                have HE := HV.stored
                change bodyPost _ _ _ _ _ (store4 V (H + 1) _ _ _ _)
                clear k0 k1 k2 k3 e0 e1 e2 e3 q0 q1 q2 q3
                generalize store4 V (H + 1) _ _ _ _ = wE at *
                obtain ⟨e0, e1, e2, e3⟩ := HE.cells
                refine bodyPost_ret (v := .agg #[.slice (some ⟨g, 0, none⟩) P.length cp, .slice (some ⟨g3, 0, none⟩) (L.length + 1) cap3, .int .i64 t, .int .i64 (c + 1)]) (by simp [results, Try.results30, go_sem, e0, e1, e2, e3]) rfl ⟨_, rfl, ?_, HE.turn⟩
                rw [HD.out]
                exact ⟨own_nope HR.out.p HE.turn, by have h1 := HE.own; rw [List.length_append, List.flatMap_append]; exact own_lower h1 hb⟩
    · go_simp
      refine hK.out _ _ ?_ (fun hHeld2 => ?_)
      · (try dsimp only)
        exact SA4.out _ HPQ.out.drew
      clear hK K hHeld
      have hHeld := hHeld2
      clear hHeld2
      try simp only [Act.put, List.setIfInBounds_toArray, List.set_cons_zero, List.set_cons_succ]
      refine wpAnyH_ready (rs := [0, 16]) (by kernel_rfl) (by simp) (AllReadyH.cons (by simp only [List.getElem?_toArray, List.getElem?_cons_succ, List.getElem?_cons_zero]; rfl) (fun K hK => ?_) (AllReadyH.cons (by simp only [List.getElem?_toArray, List.getElem?_cons_succ, List.getElem?_cons_zero]; rfl) (fun K hK => ?_) AllReadyH.nil))
      · go_simp
        refine hK.out _ _ ?_ (fun hHeld2 => ?_)
        · (try dsimp only)
          exact SA4.out _ (HPQ.out.drew.alloc _)
        clear hK K hHeld
        have hHeld := hHeld2
        clear hHeld2
        try simp only [Act.put, List.setIfInBounds_toArray, List.set_cons_zero, List.set_cons_succ]
        refine wpAnyH_ready (rs := [3, 16]) (by kernel_rfl) (by simp) (AllReadyH.cons (by simp only [List.getElem?_toArray, List.getElem?_cons_succ, List.getElem?_cons_zero]; rfl) (fun K hK => ?_) (AllReadyH.cons (by simp only [List.getElem?_toArray, List.getElem?_cons_succ, List.getElem?_cons_zero]; rfl) (fun K hK => ?_) AllReadyH.nil))
        · (refine step_append_row _ rfl (.tmp 15) (.tmp 17) 38 rfl (H + 2) 82 i82 _ 3 24 Try.underlying38 I82.out.1 I82.out.2.1 I82.out.2.2.1 I82.out.2.2.2 rfl (by omega) _ 0 [] rfl (own_empty (by first | exact EX3.out | exact blk_new _ _ | exact blk_alloc (blk_new _ _) _) (by have := HWS.out; show H + 2 ≤ _; first | exact Nat.le_of_eq this | exact Nat.le_succ_of_le (Nat.le_of_eq this))) _ b L.length (L.flatMap oneCells) rfl (own_nope HPQ.out.rv.l (by repeat (first | exact Turn.refl _ _ | apply Turn.alloc | apply Turn.drew))) (one_cells L) (by show 0 + _ ≤ 9223372036854775807; omega) (by omega) (by have := HWS.out; first | omega | (simp; omega)) _ rfl ?_; intro v2 w2 hown2 hgr2 hat2; have HO2 := Lib.hid hown2; have HT2 : Hid (Turn Nope W w2) := Turn.grown (by repeat (first | exact Turn.refl _ _ | apply Turn.alloc | apply Turn.drew)) hgr2 (fun k hk => .inr (by have e := own_at hk; subst e; first | exact Nat.le_refl _ | exact Nat.le_succ _)); have HPQ2 := Lib.hid (HPQ.out.nope HT2.out); (first | (have HN2 := Lib.hid (blk_grown EY2.out hgr2 own_ne1)) | (have HN2 := Lib.hid (blk_grown EY3.out hgr2 own_ne2)) | skip); clear hown2 hgr2 hat2)
          refine hK.out _ _ ?_ (fun hHeld2 => ?_)
          · (try dsimp only)
            exact SA4.out _ HPQ2.out
          clear hK K hHeld
          have hHeld := hHeld2
          clear hHeld2
          try simp only [Act.put, List.setIfInBounds_toArray, List.set_cons_zero, List.set_cons_succ]
          refine wpAnyH_ready (rs := [16]) (by kernel_rfl) (by simp) (AllReadyH.cons (by simp only [List.getElem?_toArray, List.getElem?_cons_succ, List.getElem?_cons_zero]; rfl) (fun K hK => ?_) AllReadyH.nil)
          · go_simp
            refine hK.out _ _ ?_ (fun hHeld2 => ?_)
            · (try dsimp only)
              exact SA4.out _ (HPQ2.out.alloc _)
            clear hK K hHeld
            have hHeld := hHeld2
            clear hHeld2
            try simp only [Act.put, List.setIfInBounds_toArray, List.set_cons_zero, List.set_cons_succ]
            refine wpAnyH_ready (rs := [17]) (by kernel_rfl) (by simp) (AllReadyH.cons (by simp only [List.getElem?_toArray, List.getElem?_cons_succ, List.getElem?_cons_zero]; rfl) (fun K hK => ?_) AllReadyH.nil)
            · (refine step_append_lies _ rfl (.tmp 18) (.tmp 31) 38 rfl (H + 2) 82 i82 _ 3 24 Try.underlying38 I82.out.1 I82.out.2.1 I82.out.2.2.1 I82.out.2.2.2 rfl (by omega) v2 (0 + L.length) ([] ++ L.flatMap oneCells) rfl (own_nope HO2.out (by repeat (first | exact Turn.refl _ _ | apply Turn.alloc | apply Turn.drew))) _ 1 1 [.int .i64 (j : Int), .int .i64 (t + p), .int .i64 (c + 1)] rfl rfl (news_blk (cs := #[.int .i64 (j : Int), .int .i64 (t + p), .int .i64 (c + 1)]) (blk_new _ _)) (by intro u hu; simp at hu; rcases hu with rfl | rfl | rfl <;> rfl) (by omega) (by show _ + 1 ≤ 9223372036854775807; omega) (by omega) (by have h1 := HT2.out.size; have h2 := HWS.out; first | omega | (simp; omega)) _ rfl ?_; intro g3 cap3 w3 hown3 hgr3 hat3 hlt3; have HO3 := Lib.hid hown3; have HT3 : Hid (Turn Nope W w3) := Turn.growR (Turn.trans HT2.out (by repeat (first | exact Turn.refl _ _ | apply Turn.alloc | apply Turn.drew))) hgr3 (own_nope HO2.out (by repeat (first | exact Turn.refl _ _ | apply Turn.alloc | apply Turn.drew))) (Nat.le_of_eq HWS.out.symm); have HPQ6 := Lib.hid (HPQ.out.nope HT3.out); have m1 := (SAT.out _ HPQ6.out).2.1; have m2 := (SAT.out _ HPQ6.out).2.2.2.2.2; clear l0 l0d l1 l2 l3 l4 hown3 hgr3 hat3 hlt3)
              refine hK.out _ _ ?_ (fun hHeld2 => ?_)
              · (try dsimp only)
                exact SA4.out _ HPQ6.out
              clear hK K hHeld
              have hHeld := hHeld2
              clear hHeld2
              try simp only [Act.put, List.setIfInBounds_toArray, List.set_cons_zero, List.set_cons_succ]
              refine wpAnyH_take (i := 18) (v := ?_) (by simp only [List.getElem?_toArray, List.getElem?_cons_succ, List.getElem?_cons_zero]; rfl) (by kernel_rfl) (by kernel_rfl) (by kernel_rfl) (fun _ _ _ h => h) (Or.inl ⟨by rfl, ?_⟩) (by assumption) ?_
              rotate_left
              · (intro w hSw; (try dsimp only at hSw); go_simp; (try with_reducible rfl))
              try simp only [Act.put, List.setIfInBounds_toArray, List.set_cons_zero, List.set_cons_succ]
              refine wpAnyH_ready (rs := [19]) (by kernel_rfl) (by simp) (AllReadyH.cons (by simp only [List.getElem?_toArray, List.getElem?_cons_succ, List.getElem?_cons_zero]; rfl) (fun K hK => ?_) AllReadyH.nil)
              · go_simp
                refine hK.out _ _ ?_ (fun hHeld2 => ?_)
                · (try dsimp only)
                  exact SAS.out _ HPQ6.out _
                clear hK K hHeld
                have hHeld := hHeld2
                clear hHeld2
                try simp only [Act.put, List.setIfInBounds_toArray, List.set_cons_zero, List.set_cons_succ]
                refine wpAnyH_done (by kernel_rfl) ?_ _
                refine NoPanic.normal ?_
                have ho3 := HO3.out
                rw [Nat.zero_add, List.nil_append] at ho3
                generalize hV : World.setCell w3 _ _ = V
                have HV := due_turned HPQ6.out HT3.out HH.out (HT3.out.blk HB1.out (fun h => h)) HWS.out (own_lower ho3 (Nat.le_add_right _ _)) HT0.out hV
                clear hV hHeld ho3
                obtain ⟨k0, k1, k2, k3, e0, e1, e2, e3, q0, q1, q2, q3⟩ := HV.cells
                go_wp2_with fail
                have HE := HV.stored
                change bodyPost _ _ _ _ _ (store4 V (H + 1) _ _ _ _)
                clear k0 k1 k2 k3 e0 e1 e2 e3 q0 q1 q2 q3
                generalize store4 V (H + 1) _ _ _ _ = wE at *
                obtain ⟨e0, e1, e2, e3⟩ := HE.cells
                refine bodyPost_ret (v := .agg #[.slice (some ⟨g, 0, none⟩) P.length cp, .slice (some ⟨g3, 0, none⟩) (L.length + 1) cap3, .int .i64 t, .int .i64 (c + 1)]) (by simp [results, Try.results30, go_sem, e0, e1, e2, e3]) rfl ⟨_, rfl, ?_, HE.turn⟩
                rw [HD.out]
                exact ⟨own_nope HR.out.p HE.turn, by have h1 := HE.own; rw [List.length_append, List.flatMap_append]; exact own_lower h1 hb⟩
        · go_simp
          refine hK.out _ _ ?_ (fun hHeld2 => ?_)
          · (try dsimp only)
            exact SA4.out _ ((HPQ.out.drew.alloc _).alloc _)
          clear hK K hHeld
          have hHeld := hHeld2
          clear hHeld2
          try simp only [Act.put, List.setIfInBounds_toArray, List.set_cons_zero, List.set_cons_succ]
          refine wpAnyH_ready (rs := [3]) (by kernel_rfl) (by simp) (AllReadyH.cons (by simp only [List.getElem?_toArray, List.getElem?_cons_succ, List.getElem?_cons_zero]; rfl) (fun K hK => ?_) AllReadyH.nil)
          · (refine step_append_row _ rfl (.tmp 15) (.tmp 17) 38 rfl (H + 2) 82 i82 _ 3 24 Try.underlying38 I82.out.1 I82.out.2.1 I82.out.2.2.1 I82.out.2.2.2 rfl (by omega) _ 0 [] rfl (own_empty (by first | exact EX3.out | exact blk_new _ _ | exact blk_alloc (blk_new _ _) _) (by have := HWS.out; show H + 2 ≤ _; first | exact Nat.le_of_eq this | exact Nat.le_succ_of_le (Nat.le_of_eq this))) _ b L.length (L.flatMap oneCells) rfl (own_nope HPQ.out.rv.l (by repeat (first | exact Turn.refl _ _ | apply Turn.alloc | apply Turn.drew))) (one_cells L) (by show 0 + _ ≤ 9223372036854775807; omega) (by omega) (by have := HWS.out; first | omega | (simp; omega)) _ rfl ?_; intro v2 w2 hown2 hgr2 hat2; have HO2 := Lib.hid hown2; have HT2 : Hid (Turn Nope W w2) := Turn.grown (by repeat (first | exact Turn.refl _ _ | apply Turn.alloc | apply Turn.drew)) hgr2 (fun k hk => .inr (by have e := own_at hk; subst e; first | exact Nat.le_refl _ | exact Nat.le_succ _)); have HPQ2 := Lib.hid (HPQ.out.nope HT2.out); (first | (have HN2 := Lib.hid (blk_grown EY2.out hgr2 own_ne1)) | (have HN2 := Lib.hid (blk_grown EY3.out hgr2 own_ne2)) | skip); clear hown2 hgr2 hat2)
            refine hK.out _ _ ?_ (fun hHeld2 => ?_)
            · (try dsimp only)
              exact SA4.out _ HPQ2.out
            clear hK K hHeld
            have hHeld := hHeld2
            clear hHeld2
            try simp only [Act.put, List.setIfInBounds_toArray, List.set_cons_zero, List.set_cons_succ]
            refine wpAnyH_ready (rs := [17]) (by kernel_rfl) (by simp) (AllReadyH.cons (by simp only [List.getElem?_toArray, List.getElem?_cons_succ, List.getElem?_cons_zero]; rfl) (fun K hK => ?_) AllReadyH.nil)
            · (refine step_append_lies _ rfl (.tmp 18) (.tmp 31) 38 rfl (H + 2) 82 i82 _ 3 24 Try.underlying38 I82.out.1 I82.out.2.1 I82.out.2.2.1 I82.out.2.2.2 rfl (by omega) v2 (0 + L.length) ([] ++ L.flatMap oneCells) rfl (own_nope HO2.out (by repeat (first | exact Turn.refl _ _ | apply Turn.alloc | apply Turn.drew))) _ 1 1 [.int .i64 (j : Int), .int .i64 (t + p), .int .i64 (c + 1)] rfl rfl (news_blk (cs := #[.int .i64 (j : Int), .int .i64 (t + p), .int .i64 (c + 1)]) HN2.out) (by intro u hu; simp at hu; rcases hu with rfl | rfl | rfl <;> rfl) (by omega) (by show _ + 1 ≤ 9223372036854775807; omega) (by omega) (by have h1 := HT2.out.size; have h2 := HWS.out; first | omega | (simp; omega)) _ rfl ?_; intro g3 cap3 w3 hown3 hgr3 hat3 hlt3; have HO3 := Lib.hid hown3; have HT3 : Hid (Turn Nope W w3) := Turn.growR (Turn.trans HT2.out (by repeat (first | exact Turn.refl _ _ | apply Turn.alloc | apply Turn.drew))) hgr3 (own_nope HO2.out (by repeat (first | exact Turn.refl _ _ | apply Turn.alloc | apply Turn.drew))) (Nat.le_of_eq HWS.out.symm); have HPQ6 := Lib.hid (HPQ.out.nope HT3.out); have m1 := (SAT.out _ HPQ6.out).2.1; have m2 := (SAT.out _ HPQ6.out).2.2.2.2.2; clear l0 l0d l1 l2 l3 l4 hown3 hgr3 hat3 hlt3)
              refine hK.out _ _ ?_ (fun hHeld2 => ?_)
              · (try dsimp only)
                exact SA4.out _ HPQ6.out
              clear hK K hHeld
              have hHeld := hHeld2
              clear hHeld2
              try simp only [Act.put, List.setIfInBounds_toArray, List.set_cons_zero, List.set_cons_succ]
              refine wpAnyH_take (i := 18) (v := ?_) (by simp only [List.getElem?_toArray, List.getElem?_cons_succ, List.getElem?_cons_zero]; rfl) (by kernel_rfl) (by kernel_rfl) (by kernel_rfl) (fun _ _ _ h => h) (Or.inl ⟨by rfl, ?_⟩) (by assumption) ?_
              rotate_left
              · (intro w hSw; (try dsimp only at hSw); go_simp; (try with_reducible rfl))
              try simp only [Act.put, List.setIfInBounds_toArray, List.set_cons_zero, List.set_cons_succ]
              refine wpAnyH_ready (rs := [19]) (by kernel_rfl) (by simp) (AllReadyH.cons (by simp only [List.getElem?_toArray, List.getElem?_cons_succ, List.getElem?_cons_zero]; rfl) (fun K hK => ?_) AllReadyH.nil)
              · go_simp
                refine hK.out _ _ ?_ (fun hHeld2 => ?_)
                · (try dsimp only)
                  exact SAS.out _ HPQ6.out _
                clear hK K hHeld
                have hHeld := hHeld2
                clear hHeld2
                try simp only [Act.put, List.setIfInBounds_toArray, List.set_cons_zero, List.set_cons_succ]
                refine wpAnyH_done (by kernel_rfl) ?_ _
                refine NoPanic.normal ?_
                have ho3 := HO3.out
                rw [Nat.zero_add, List.nil_append] at ho3
                generalize hV : World.setCell w3 _ _ = V
                have HV := due_turned HPQ6.out HT3.out HH.out (HT3.out.blk HB1.out (fun h => h)) HWS.out (own_lower ho3 (Nat.le_add_right _ _)) HT0.out hV
                clear hV hHeld ho3
                obtain ⟨k0, k1, k2, k3, e0, e1, e2, e3, q0, q1, q2, q3⟩ := HV.cells
                go_wp2_with fail
                have HE := HV.stored
                change bodyPost _ _ _ _ _ (store4 V (H + 1) _ _ _ _)
                clear k0 k1 k2 k3 e0 e1 e2 e3 q0 q1 q2 q3
                generalize store4 V (H + 1) _ _ _ _ = wE at *
                obtain ⟨e0, e1, e2, e3⟩ := HE.cells
                refine bodyPost_ret (v := .agg #[.slice (some ⟨g, 0, none⟩) P.length cp, .slice (some ⟨g3, 0, none⟩) (L.length + 1) cap3, .int .i64 t, .int .i64 (c + 1)]) (by simp [results, Try.results30, go_sem, e0, e1, e2, e3]) rfl ⟨_, rfl, ?_, HE.turn⟩
                rw [HD.out]
                exact ⟨own_nope HR.out.p HE.turn, by have h1 := HE.own; rw [List.length_append, List.flatMap_append]; exact own_lower h1 hb⟩
      · go_simp
        refine hK.out _ _ ?_ (fun hHeld2 => ?_)
        · (try dsimp only)
          exact SA4.out _ (HPQ.out.drew.alloc _)
        clear hK K hHeld
        have hHeld := hHeld2
        clear hHeld2
        try simp only [Act.put, List.setIfInBounds_toArray, List.set_cons_zero, List.set_cons_succ]
        refine wpAnyH_ready (rs := [0]) (by kernel_rfl) (by simp) (AllReadyH.cons (by simp only [List.getElem?_toArray, List.getElem?_cons_succ, List.getElem?_cons_zero]; rfl) (fun K hK => ?_) AllReadyH.nil)
        · go_simp
          refine hK.out _ _ ?_ (fun hHeld2 => ?_)
          · (try dsimp only)
            exact SA4.out _ ((HPQ.out.drew.alloc _).alloc _)
          clear hK K hHeld
          have hHeld := hHeld2
          clear hHeld2
          try simp only [Act.put, List.setIfInBounds_toArray, List.set_cons_zero, List.set_cons_succ]
          refine wpAnyH_ready (rs := [3]) (by kernel_rfl) (by simp) (AllReadyH.cons (by simp only [List.getElem?_toArray, List.getElem?_cons_succ, List.getElem?_cons_zero]; rfl) (fun K hK => ?_) AllReadyH.nil)
          · (refine step_append_row _ rfl (.tmp 15) (.tmp 17) 38 rfl (H + 2) 82 i82 _ 3 24 Try.underlying38 I82.out.1 I82.out.2.1 I82.out.2.2.1 I82.out.2.2.2 rfl (by omega) _ 0 [] rfl (own_empty (by first | exact EX3.out | exact blk_new _ _ | exact blk_alloc (blk_new _ _) _) (by have := HWS.out; show H + 2 ≤ _; first | exact Nat.le_of_eq this | exact Nat.le_succ_of_le (Nat.le_of_eq this))) _ b L.length (L.flatMap oneCells) rfl (own_nope HPQ.out.rv.l (by repeat (first | exact Turn.refl _ _ | apply Turn.alloc | apply Turn.drew))) (one_cells L) (by show 0 + _ ≤ 9223372036854775807; omega) (by omega) (by have := HWS.out; first | omega | (simp; omega)) _ rfl ?_; intro v2 w2 hown2 hgr2 hat2; have HO2 := Lib.hid hown2; have HT2 : Hid (Turn Nope W w2) := Turn.grown (by repeat (first | exact Turn.refl _ _ | apply Turn.alloc | apply Turn.drew)) hgr2 (fun k hk => .inr (by have e := own_at hk; subst e; first | exact Nat.le_refl _ | exact Nat.le_succ _)); have HPQ2 := Lib.hid (HPQ.out.nope HT2.out); (first | (have HN2 := Lib.hid (blk_grown EY2.out hgr2 own_ne1)) | (have HN2 := Lib.hid (blk_grown EY3.out hgr2 own_ne2)) | skip); clear hown2 hgr2 hat2)
            refine hK.out _ _ ?_ (fun hHeld2 => ?_)
            · (try dsimp only)
              exact SA4.out _ HPQ2.out
            clear hK K hHeld
            have hHeld := hHeld2
            clear hHeld2
            try simp only [Act.put, List.setIfInBounds_toArray, List.set_cons_zero, List.set_cons_succ]
            refine wpAnyH_ready (rs := [17]) (by kernel_rfl) (by simp) (AllReadyH.cons (by simp only [List.getElem?_toArray, List.getElem?_cons_succ, List.getElem?_cons_zero]; rfl) (fun K hK => ?_) AllReadyH.nil)
            · (refine step_append_lies _ rfl (.tmp 18) (.tmp 31) 38 rfl (H + 2) 82 i82 _ 3 24 Try.underlying38 I82.out.1 I82.out.2.1 I82.out.2.2.1 I82.out.2.2.2 rfl (by omega) v2 (0 + L.length) ([] ++ L.flatMap oneCells) rfl (own_nope HO2.out (by repeat (first | exact Turn.refl _ _ | apply Turn.alloc | apply Turn.drew))) _ 1 1 [.int .i64 (j : Int), .int .i64 (t + p), .int .i64 (c + 1)] rfl rfl (news_blk (cs := #[.int .i64 (j : Int), .int .i64 (t + p), .int .i64 (c + 1)]) HN2.out) (by intro u hu; simp at hu; rcases hu with rfl | rfl | rfl <;> rfl) (by omega) (by show _ + 1 ≤ 9223372036854775807; omega) (by omega) (by have h1 := HT2.out.size; have h2 := HWS.out; first | omega | (simp; omega)) _ rfl ?_; intro g3 cap3 w3 hown3 hgr3 hat3 hlt3; have HO3 := Lib.hid hown3; have HT3 : Hid (Turn Nope W w3) := Turn.growR (Turn.trans HT2.out (by repeat (first | exact Turn.refl _ _ | apply Turn.alloc | apply Turn.drew))) hgr3 (own_nope HO2.out (by repeat (first | exact Turn.refl _ _ | apply Turn.alloc | apply Turn.drew))) (Nat.le_of_eq HWS.out.symm); have HPQ6 := Lib.hid (HPQ.out.nope HT3.out); have m1 := (SAT.out _ HPQ6.out).2.1; have m2 := (SAT.out _ HPQ6.out).2.2.2.2.2; clear l0 l0d l1 l2 l3 l4 hown3 hgr3 hat3 hlt3)
              refine hK.out _ _ ?_ (fun hHeld2 => ?_)
              · (try dsimp only)
                exact SA4.out _ HPQ6.out
              clear hK K hHeld
              have hHeld := hHeld2
              clear hHeld2
              try simp only [Act.put, List.setIfInBounds_toArray, List.set_cons_zero, List.set_cons_succ]
              refine wpAnyH_take (i := 18) (v := ?_) (by simp only [List.getElem?_toArray, List.getElem?_cons_succ, List.getElem?_cons_zero]; rfl) (by kernel_rfl) (by kernel_rfl) (by kernel_rfl) (fun _ _ _ h => h) (Or.inl ⟨by rfl, ?_⟩) (by assumption) ?_
              rotate_left
              · (intro w hSw; (try dsimp only at hSw); go_simp; (try with_reducible rfl))
              try simp only [Act.put, List.setIfInBounds_toArray, List.set_cons_zero, List.set_cons_succ]
              refine wpAnyH_ready (rs := [19]) (by kernel_rfl) (by simp) (AllReadyH.cons (by simp only [List.getElem?_toArray, List.getElem?_cons_succ, List.getElem?_cons_zero]; rfl) (fun K hK => ?_) AllReadyH.nil)
              · go_simp
                refine hK.out _ _ ?_ (fun hHeld2 => ?_)
                · (try dsimp only)
                  exact SAS.out _ HPQ6.out _
                clear hK K hHeld
                have hHeld := hHeld2
                clear hHeld2
                try simp only [Act.put, List.setIfInBounds_toArray, List.set_cons_zero, List.set_cons_succ]
                refine wpAnyH_done (by kernel_rfl) ?_ _
                refine NoPanic.normal ?_
                have ho3 := HO3.out
                rw [Nat.zero_add, List.nil_append] at ho3
                generalize hV : World.setCell w3 _ _ = V
                have HV := due_turned HPQ6.out HT3.out HH.out (HT3.out.blk HB1.out (fun h => h)) HWS.out (own_lower ho3 (Nat.le_add_right _ _)) HT0.out hV
                clear hV hHeld ho3
                obtain ⟨k0, k1, k2, k3, e0, e1, e2, e3, q0, q1, q2, q3⟩ := HV.cells
                go_wp2_with fail
                have HE := HV.stored
                change bodyPost _ _ _ _ _ (store4 V (H + 1) _ _ _ _)
                clear k0 k1 k2 k3 e0 e1 e2 e3 q0 q1 q2 q3
                generalize store4 V (H + 1) _ _ _ _ = wE at *
                obtain ⟨e0, e1, e2, e3⟩ := HE.cells
                refine bodyPost_ret (v := .agg #[.slice (some ⟨g, 0, none⟩) P.length cp, .slice (some ⟨g3, 0, none⟩) (L.length + 1) cap3, .int .i64 t, .int .i64 (c + 1)]) (by simp [results, Try.results30, go_sem, e0, e1, e2, e3]) rfl ⟨_, rfl, ?_, HE.turn⟩
                rw [HD.out]
                exact ⟨own_nope HR.out.p HE.turn, by have h1 := HE.own; rw [List.length_append, List.flatMap_append]; exact own_lower h1 hb⟩
    · go_simp
      refine hK.out _ _ ?_ (fun hHeld2 => ?_)
      · (try dsimp only)
        exact SA4.out _ (HPQ.out.drew.alloc _)
      clear hK K hHeld
      have hHeld := hHeld2
      clear hHeld2
      try simp only [Act.put, List.setIfInBounds_toArray, List.set_cons_zero, List.set_cons_succ]
      refine wpAnyH_ready (rs := [0, 2]) (by kernel_rfl) (by simp) (AllReadyH.cons (by simp only [List.getElem?_toArray, List.getElem?_cons_succ, List.getElem?_cons_zero]; rfl) (fun K hK => ?_) (AllReadyH.cons (by simp only [List.getElem?_toArray, List.getElem?_cons_succ, List.getElem?_cons_zero]; rfl) (fun K hK => ?_) AllReadyH.nil))
      · go_simp
        refine hK.out _ _ ?_ (fun hHeld2 => ?_)
        · (try dsimp only)
          exact SA4.out _ ((HPQ.out.drew.alloc _).alloc _)
        clear hK K hHeld
        have hHeld := hHeld2
        clear hHeld2
        try simp only [Act.put, List.setIfInBounds_toArray, List.set_cons_zero, List.set_cons_succ]
        refine wpAnyH_ready (rs := [2]) (by kernel_rfl) (by simp) (AllReadyH.cons (by simp only [List.getElem?_toArray, List.getElem?_cons_succ, List.getElem?_cons_zero]; rfl) (fun K hK => ?_) AllReadyH.nil)
        · go_simp
          refine hK.out _ _ ?_ (fun hHeld2 => ?_)
          · (try dsimp only)
            exact SA4.out _ ((HPQ.out.drew.alloc _).alloc _)
          clear hK K hHeld
          have hHeld := hHeld2
          clear hHeld2
          try simp only [Act.put, List.setIfInBounds_toArray, List.set_cons_zero, List.set_cons_succ]
          refine wpAnyH_ready (rs := [3]) (by kernel_rfl) (by simp) (AllReadyH.cons (by simp only [List.getElem?_toArray, List.getElem?_cons_succ, List.getElem?_cons_zero]; rfl) (fun K hK => ?_) AllReadyH.nil)
          · (refine step_append_row _ rfl (.tmp 15) (.tmp 17) 38 rfl (H + 2) 82 i82 _ 3 24 Try.underlying38 I82.out.1 I82.out.2.1 I82.out.2.2.1 I82.out.2.2.2 rfl (by omega) _ 0 [] rfl (own_empty (by first | exact EX3.out | exact blk_new _ _ | exact blk_alloc (blk_new _ _) _) (by have := HWS.out; show H + 2 ≤ _; first | exact Nat.le_of_eq this | exact Nat.le_succ_of_le (Nat.le_of_eq this))) _ b L.length (L.flatMap oneCells) rfl (own_nope HPQ.out.rv.l (by repeat (first | exact Turn.refl _ _ | apply Turn.alloc | apply Turn.drew))) (one_cells L) (by show 0 + _ ≤ 9223372036854775807; omega) (by omega) (by have := HWS.out; first | omega | (simp; omega)) _ rfl ?_; intro v2 w2 hown2 hgr2 hat2; have HO2 := Lib.hid hown2; have HT2 : Hid (Turn Nope W w2) := Turn.grown (by repeat (first | exact Turn.refl _ _ | apply Turn.alloc | apply Turn.drew)) hgr2 (fun k hk => .inr (by have e := own_at hk; subst e; first | exact Nat.le_refl _ | exact Nat.le_succ _)); have HPQ2 := Lib.hid (HPQ.out.nope HT2.out); (first | (have HN2 := Lib.hid (blk_grown EY2.out hgr2 own_ne1)) | (have HN2 := Lib.hid (blk_grown EY3.out hgr2 own_ne2)) | skip); clear hown2 hgr2 hat2)
            refine hK.out _ _ ?_ (fun hHeld2 => ?_)
            · (try dsimp only)
              exact SA4.out _ HPQ2.out
            clear hK K hHeld
            have hHeld := hHeld2
            clear hHeld2
            try simp only [Act.put, List.setIfInBounds_toArray, List.set_cons_zero, List.set_cons_succ]
            refine wpAnyH_ready (rs := [17]) (by kernel_rfl) (by simp) (AllReadyH.cons (by simp only [List.getElem?_toArray, List.getElem?_cons_succ, List.getElem?_cons_zero]; rfl) (fun K hK => ?_) AllReadyH.nil)
            · (refine step_append_lies _ rfl (.tmp 18) (.tmp 31) 38 rfl (H + 2) 82 i82 _ 3 24 Try.underlying38 I82.out.1 I82.out.2.1 I82.out.2.2.1 I82.out.2.2.2 rfl (by omega) v2 (0 + L.length) ([] ++ L.flatMap oneCells) rfl (own_nope HO2.out (by repeat (first | exact Turn.refl _ _ | apply Turn.alloc | apply Turn.drew))) _ 1 1 [.int .i64 (j : Int), .int .i64 (t + p), .int .i64 (c + 1)] rfl rfl (news_blk (cs := #[.int .i64 (j : Int), .int .i64 (t + p), .int .i64 (c + 1)]) HN2.out) (by intro u hu; simp at hu; rcases hu with rfl | rfl | rfl <;> rfl) (by omega) (by show _ + 1 ≤ 9223372036854775807; omega) (by omega) (by have h1 := HT2.out.size; have h2 := HWS.out; first | omega | (simp; omega)) _ rfl ?_; intro g3 cap3 w3 hown3 hgr3 hat3 hlt3; have HO3 := Lib.hid hown3; have HT3 : Hid (Turn Nope W w3) := Turn.growR (Turn.trans HT2.out (by repeat (first | exact Turn.refl _ _ | apply Turn.alloc | apply Turn.drew))) hgr3 (own_nope HO2.out (by repeat (first | exact Turn.refl _ _ | apply Turn.alloc | apply Turn.drew))) (Nat.le_of_eq HWS.out.symm); have HPQ6 := Lib.hid (HPQ.out.nope HT3.out); have m1 := (SAT.out _ HPQ6.out).2.1; have m2 := (SAT.out _ HPQ6.out).2.2.2.2.2; clear l0 l0d l1 l2 l3 l4 hown3 hgr3 hat3 hlt3)
              refine hK.out _ _ ?_ (fun hHeld2 => ?_)
              · (try dsimp only)
                exact SA4.out _ HPQ6.out
              clear hK K hHeld
              have hHeld := hHeld2
              clear hHeld2
              try simp only [Act.put, List.setIfInBounds_toArray, List.set_cons_zero, List.set_cons_succ]
              refine wpAnyH_take (i := 18) (v := ?_) (by simp only [List.getElem?_toArray, List.getElem?_cons_succ, List.getElem?_cons_zero]; rfl) (by kernel_rfl) (by kernel_rfl) (by kernel_rfl) (fun _ _ _ h => h) (Or.inl ⟨by rfl, ?_⟩) (by assumption) ?_
              rotate_left
              · (intro w hSw; (try dsimp only at hSw); go_simp; (try with_reducible rfl))
              try simp only [Act.put, List.setIfInBounds_toArray, List.set_cons_zero, List.set_cons_succ]
              refine wpAnyH_ready (rs := [19]) (by kernel_rfl) (by simp) (AllReadyH.cons (by simp only [List.getElem?_toArray, List.getElem?_cons_succ, List.getElem?_cons_zero]; rfl) (fun K hK => ?_) AllReadyH.nil)
              · go_simp
                refine hK.out _ _ ?_ (fun hHeld2 => ?_)
                · (try dsimp only)
                  exact SAS.out _ HPQ6.out _
                clear hK K hHeld
                have hHeld := hHeld2
                clear hHeld2
                try simp only [Act.put, List.setIfInBounds_toArray, List.set_cons_zero, List.set_cons_succ]
                refine wpAnyH_done (by kernel_rfl) ?_ _
                refine NoPanic.normal ?_
                have ho3 := HO3.out
                rw [Nat.zero_add, List.nil_append] at ho3
                generalize hV : World.setCell w3 _ _ = V
                have HV := due_turned HPQ6.out HT3.out HH.out (HT3.out.blk HB1.out (fun h => h)) HWS.out (own_lower ho3 (Nat.le_add_right _ _)) HT0.out hV
                clear hV hHeld ho3
                obtain ⟨k0, k1, k2, k3, e0, e1, e2, e3, q0, q1, q2, q3⟩ := HV.cells
                go_wp2_with fail
                have HE := HV.stored
                change bodyPost _ _ _ _ _ (store4 V (H + 1) _ _ _ _)
                clear k0 k1 k2 k3 e0 e1 e2 e3 q0 q1 q2 q3
                generalize store4 V (H + 1) _ _ _ _ = wE at *
                obtain ⟨e0, e1, e2, e3⟩ := HE.cells
                refine bodyPost_ret (v := .agg #[.slice (some ⟨g, 0, none⟩) P.length cp, .slice (some ⟨g3, 0, none⟩) (L.length + 1) cap3, .int .i64 t, .int .i64 (c + 1)]) (by simp [results, Try.results30, go_sem, e0, e1, e2, e3]) rfl ⟨_, rfl, ?_, HE.turn⟩
                rw [HD.out]
                exact ⟨own_nope HR.out.p HE.turn, by have h1 := HE.own; rw [List.length_append, List.flatMap_append]; exact own_lower h1 hb⟩
      · go_simp
        refine hK.out _ _ ?_ (fun hHeld2 => ?_)
        · (try dsimp only)
          exact SA4.out _ (HPQ.out.drew.alloc _)
        clear hK K hHeld
        have hHeld := hHeld2
        clear hHeld2
        try simp only [Act.put, List.setIfInBounds_toArray, List.set_cons_zero, List.set_cons_succ]
        refine wpAnyH_ready (rs := [0]) (by kernel_rfl) (by simp) (AllReadyH.cons (by simp only [List.getElem?_toArray, List.getElem?_cons_succ, List.getElem?_cons_zero]; rfl) (fun K hK => ?_) AllReadyH.nil)
        · go_simp
          refine hK.out _ _ ?_ (fun hHeld2 => ?_)
          · (try dsimp only)
            exact SA4.out _ ((HPQ.out.drew.alloc _).alloc _)
          clear hK K hHeld
          have hHeld := hHeld2
          clear hHeld2
          try simp only [Act.put, List.setIfInBounds_toArray, List.set_cons_zero, List.set_cons_succ]
          refine wpAnyH_ready (rs := [3]) (by kernel_rfl) (by simp) (AllReadyH.cons (by simp only [List.getElem?_toArray, List.getElem?_cons_succ, List.getElem?_cons_zero]; rfl) (fun K hK => ?_) AllReadyH.nil)
          · (refine step_append_row _ rfl (.tmp 15) (.tmp 17) 38 rfl (H + 2) 82 i82 _ 3 24 Try.underlying38 I82.out.1 I82.out.2.1 I82.out.2.2.1 I82.out.2.2.2 rfl (by omega) _ 0 [] rfl (own_empty (by first | exact EX3.out | exact blk_new _ _ | exact blk_alloc (blk_new _ _) _) (by have := HWS.out; show H + 2 ≤ _; first | exact Nat.le_of_eq this | exact Nat.le_succ_of_le (Nat.le_of_eq this))) _ b L.length (L.flatMap oneCells) rfl (own_nope HPQ.out.rv.l (by repeat (first | exact Turn.refl _ _ | apply Turn.alloc | apply Turn.drew))) (one_cells L) (by show 0 + _ ≤ 9223372036854775807; omega) (by omega) (by have := HWS.out; first | omega | (simp; omega)) _ rfl ?_; intro v2 w2 hown2 hgr2 hat2; have HO2 := Lib.hid hown2; have HT2 : Hid (Turn Nope W w2) := Turn.grown (by repeat (first | exact Turn.refl _ _ | apply Turn.alloc | apply Turn.drew)) hgr2 (fun k hk => .inr (by have e := own_at hk; subst e; first | exact Nat.le_refl _ | exact Nat.le_succ _)); have HPQ2 := Lib.hid (HPQ.out.nope HT2.out); (first | (have HN2 := Lib.hid (blk_grown EY2.out hgr2 own_ne1)) | (have HN2 := Lib.hid (blk_grown EY3.out hgr2 own_ne2)) | skip); clear hown2 hgr2 hat2)
            refine hK.out _ _ ?_ (fun hHeld2 => ?_)
            · (try dsimp only)
              exact SA4.out _ HPQ2.out
            clear hK K hHeld
            have hHeld := hHeld2
            clear hHeld2
            try simp only [Act.put, List.setIfInBounds_toArray, List.set_cons_zero, List.set_cons_succ]
            refine wpAnyH_ready (rs := [17]) (by kernel_rfl) (by simp) (AllReadyH.cons (by simp only [List.getElem?_toArray, List.getElem?_cons_succ, List.getElem?_cons_zero]; rfl) (fun K hK => ?_) AllReadyH.nil)
            · (refine step_append_lies _ rfl (.tmp 18) (.tmp 31) 38 rfl (H + 2) 82 i82 _ 3 24 Try.underlying38 I82.out.1 I82.out.2.1 I82.out.2.2.1 I82.out.2.2.2 rfl (by omega) v2 (0 + L.length) ([] ++ L.flatMap oneCells) rfl (own_nope HO2.out (by repeat (first | exact Turn.refl _ _ | apply Turn.alloc | apply Turn.drew))) _ 1 1 [.int .i64 (j : Int), .int .i64 (t + p), .int .i64 (c + 1)] rfl rfl (news_blk (cs := #[.int .i64 (j : Int), .int .i64 (t + p), .int .i64 (c + 1)]) HN2.out) (by intro u hu; simp at hu; rcases hu with rfl | rfl | rfl <;> rfl) (by omega) (by show _ + 1 ≤ 9223372036854775807; omega) (by omega) (by have h1 := HT2.out.size; have h2 := HWS.out; first | omega | (simp; omega)) _ rfl ?_; intro g3 cap3 w3 hown3 hgr3 hat3 hlt3; have HO3 := Lib.hid hown3; have HT3 : Hid (Turn Nope W w3) := Turn.growR (Turn.trans HT2.out (by repeat (first | exact Turn.refl _ _ | apply Turn.alloc | apply Turn.drew))) hgr3 (own_nope HO2.out (by repeat (first | exact Turn.refl _ _ | apply Turn.alloc | apply Turn.drew))) (Nat.le_of_eq HWS.out.symm); have HPQ6 := Lib.hid (HPQ.out.nope HT3.out); have m1 := (SAT.out _ HPQ6.out).2.1; have m2 := (SAT.out _ HPQ6.out).2.2.2.2.2; clear l0 l0d l1 l2 l3 l4 hown3 hgr3 hat3 hlt3)
              refine hK.out _ _ ?_ (fun hHeld2 => ?_)
              · (try dsimp only)
                exact SA4.out _ HPQ6.out
              clear hK K hHeld
              have hHeld := hHeld2
              clear hHeld2
              try simp only [Act.put, List.setIfInBounds_toArray, List.set_cons_zero, List.set_cons_succ]
              refine wpAnyH_take (i := 18) (v := ?_) (by simp only [List.getElem?_toArray, List.getElem?_cons_succ, List.getElem?_cons_zero]; rfl) (by kernel_rfl) (by kernel_rfl) (by kernel_rfl) (fun _ _ _ h => h) (Or.inl ⟨by rfl, ?_⟩) (by assumption) ?_
              rotate_left
              · (intro w hSw; (try dsimp only at hSw); go_simp; (try with_reducible rfl))
              try simp only [Act.put, List.setIfInBounds_toArray, List.set_cons_zero, List.set_cons_succ]
              refine wpAnyH_ready (rs := [19]) (by kernel_rfl) (by simp) (AllReadyH.cons (by simp only [List.getElem?_toArray, List.getElem?_cons_succ, List.getElem?_cons_zero]; rfl) (fun K hK => ?_) AllReadyH.nil)
              · go_simp
                refine hK.out _ _ ?_ (fun hHeld2 => ?_)
                · (try dsimp only)
                  exact SAS.out _ HPQ6.out _
                clear hK K hHeld
                have hHeld := hHeld2
                clear hHeld2
                try simp only [Act.put, List.setIfInBounds_toArray, List.set_cons_zero, List.set_cons_succ]
                refine wpAnyH_done (by kernel_rfl) ?_ _
                refine NoPanic.normal ?_
                have ho3 := HO3.out
                rw [Nat.zero_add, List.nil_append] at ho3
                generalize hV : World.setCell w3 _ _ = V
                have HV := due_turned HPQ6.out HT3.out HH.out (HT3.out.blk HB1.out (fun h => h)) HWS.out (own_lower ho3 (Nat.le_add_right _ _)) HT0.out hV
                clear hV hHeld ho3
                obtain ⟨k0, k1, k2, k3, e0, e1, e2, e3, q0, q1, q2, q3⟩ := HV.cells
                go_wp2_with fail
                have HE := HV.stored
                change bodyPost _ _ _ _ _ (store4 V (H + 1) _ _ _ _)
                clear k0 k1 k2 k3 e0 e1 e2 e3 q0 q1 q2 q3
                generalize store4 V (H + 1) _ _ _ _ = wE at *
                obtain ⟨e0, e1, e2, e3⟩ := HE.cells
                refine bodyPost_ret (v := .agg #[.slice (some ⟨g, 0, none⟩) P.length cp, .slice (some ⟨g3, 0, none⟩) (L.length + 1) cap3, .int .i64 t, .int .i64 (c + 1)]) (by simp [results, Try.results30, go_sem, e0, e1, e2, e3]) rfl ⟨_, rfl, ?_, HE.turn⟩
                rw [HD.out]
                exact ⟨own_nope HR.out.p HE.turn, by have h1 := HE.own; rw [List.length_append, List.flatMap_append]; exact own_lower h1 hb⟩
    all_goals sorry
  · have d1 : decide (p > 0) = false := by simpa using hpos
    have d1' : decide (0 < p) = false := d1
    have HD : Hid (dueR P L t c j p = L) := if_neg hpos
    clear hpos
    have HV : DueV b w W H (.slice (some ⟨g, 0, none⟩) P.length cp) (.slice A2 L.length c2) t (c + 1) L.length (L.flatMap oneCells) := ⟨HB0.out, HB1.out, HT0.out, own_nope HR.out.l HT0.out, HH.out⟩
    obtain ⟨k0, k1, k2, k3, e0, e1, e2, e3, q0, q1, q2, q3⟩ := HV.cells
    go_wp2_with fail
    have HE := HV.stored
    change bodyPost _ _ _ _ _ (store4 W (H + 1) _ _ _ _)
    clear k0 k1 k2 k3 e0 e1 e2 e3 q0 q1 q2 q3 p0 p1 p2 p3 p4 p5
    generalize store4 W (H + 1) _ _ _ _ = wE at *
    obtain ⟨e0, e1, e2, e3⟩ := HE.cells
    refine bodyPost_ret (v := .agg #[.slice (some ⟨g, 0, none⟩) P.length cp, .slice A2 L.length c2, .int .i64 t, .int .i64 (c + 1)]) (by simp [results, Try.results30, go_sem, e0, e1, e2, e3]) rfl ⟨_, rfl, ?_, HE.turn⟩
    rw [HD.out]
    exact ⟨own_nope HR.out.p HE.turn, HE.own⟩
end Go.Proofs.Ytdojdhpfhjhmfaa
