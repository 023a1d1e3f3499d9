/- Objects in a law: what the walks share. -/
import Derived.Test.YteggenihjhclkaaOo
import Derived.Deep.CutBlock
import Derived.Deep.RegionHeld3
set_option maxRecDepth 16000
set_option linter.unusedVariables false
set_option linter.unusedSimpArgs false
namespace Go.Proofs.Yteggenihjhclkaa
open Go.RowKit Go.Maps
open Lg (Nm nmOf arr_nm nm_len)
variable {w0 w w' W W' : World} {b m c : Nat} {P Q R : PS}
theorem OpsIn.later {w w' : World} {a : Option Addr} {len : Nat} (h : OpsIn w a len) (hb : Below w.heap.size w w') : OpsIn w' a len :=
  ⟨h.1, fun i hi => by
    obtain ⟨ad, o, e, hS, hc⟩ := h.2 i hi
    exact ⟨ad, o, e, hS, fun j v hj => cell_later hb (hc j v hj)⟩⟩
/-- The twelve cells of an op. -/
def Op12 (W : World) (ad : Addr) (i : Nat) (o : OOp) : Prop := W.cell? (ad.add (i * 12)) = some (.int .i64 o.k) ∧ W.cell? ⟨(ad.add (i * 12)).block, (ad.add (i * 12)).off + 1, none⟩ = some (.int .i64 o.tk) ∧ W.cell? ⟨(ad.add (i * 12)).block, (ad.add (i * 12)).off + 2, none⟩ = some (.int .i64 o.ta) ∧ W.cell? ⟨(ad.add (i * 12)).block, (ad.add (i * 12)).off + 3, none⟩ = some (.string o.ts) ∧ W.cell? ⟨(ad.add (i * 12)).block, (ad.add (i * 12)).off + 4, none⟩ = some (.int .i64 o.tn) ∧ W.cell? ⟨(ad.add (i * 12)).block, (ad.add (i * 12)).off + 5, none⟩ = some (.int .i64 o.lk) ∧ W.cell? ⟨(ad.add (i * 12)).block, (ad.add (i * 12)).off + 6, none⟩ = some (.string o.ln) ∧ W.cell? ⟨(ad.add (i * 12)).block, (ad.add (i * 12)).off + 7, none⟩ = some (.string o.lt) ∧ W.cell? ⟨(ad.add (i * 12)).block, (ad.add (i * 12)).off + 8, none⟩ = some (.int .i64 o.la) ∧ W.cell? ⟨(ad.add (i * 12)).block, (ad.add (i * 12)).off + 9, none⟩ = some (.int .i64 o.sk) ∧ W.cell? ⟨(ad.add (i * 12)).block, (ad.add (i * 12)).off + 10, none⟩ = some (.string o.sn) ∧ W.cell? ⟨(ad.add (i * 12)).block, (ad.add (i * 12)).off + 11, none⟩ = some (.int .i64 o.sN)
theorem OpsIn.cells {a : Option Addr} {len i : Nat} (h : OpsIn w a len) (hi : i < len) : ∃ (ad : Addr) (o : OOp), a = some ad ∧ OSz o ∧ Op12 w ad i o := by
  obtain ⟨ad, o, e, hS, hc⟩ := h.2 i hi
  refine ⟨ad, o, e, hS, ?_, ?_, ?_, ?_, ?_, ?_, ?_, ?_, ?_, ?_, ?_, ?_⟩
  · exact hc 0 _ rfl
  · rw [← add_off _ _ 1 (by omega)]; exact hc 1 _ rfl
  · rw [← add_off _ _ 2 (by omega)]; exact hc 2 _ rfl
  · rw [← add_off _ _ 3 (by omega)]; exact hc 3 _ rfl
  · rw [← add_off _ _ 4 (by omega)]; exact hc 4 _ rfl
  · rw [← add_off _ _ 5 (by omega)]; exact hc 5 _ rfl
  · rw [← add_off _ _ 6 (by omega)]; exact hc 6 _ rfl
  · rw [← add_off _ _ 7 (by omega)]; exact hc 7 _ rfl
  · rw [← add_off _ _ 8 (by omega)]; exact hc 8 _ rfl
  · rw [← add_off _ _ 9 (by omega)]; exact hc 9 _ rfl
  · rw [← add_off _ _ 10 (by omega)]; exact hc 10 _ rfl
  · rw [← add_off _ _ 11 (by omega)]; exact hc 11 _ rfl
theorem Op12.later {ad : Addr} {i : Nat} {o : OOp} (h : Op12 W ad i o) (hb : Below W.heap.size W W') : Op12 W' ad i o := by
  obtain ⟨h0, h1, h2, h3, h4, h5, h6, h7, h8, h9, h10, h11⟩ := h
  exact ⟨cell_later hb h0, cell_later hb h1, cell_later hb h2, cell_later hb h3, cell_later hb h4, cell_later hb h5, cell_later hb h6, cell_later hb h7, cell_later hb h8, cell_later hb h9, cell_later hb h10, cell_later hb h11⟩
/-- A box that holds an op. -/
def OpBx (W : World) (q : Nat) (o : OOp) : Prop := W.heap[q]? = some (.cells (opC o) 30 (0, 0))
theorem OpBx.cells {q : Nat} {o : OOp} (h : OpBx W q o) : (W.cell? ⟨q, 0, none⟩ = some (.int .i64 o.k) ∧ W.cell? ⟨q, 1, none⟩ = some (.int .i64 o.tk) ∧ W.cell? ⟨q, 2, none⟩ = some (.int .i64 o.ta) ∧ W.cell? ⟨q, 3, none⟩ = some (.string o.ts) ∧ W.cell? ⟨q, 4, none⟩ = some (.int .i64 o.tn) ∧ W.cell? ⟨q, 5, none⟩ = some (.int .i64 o.lk) ∧ W.cell? ⟨q, 6, none⟩ = some (.string o.ln) ∧ W.cell? ⟨q, 7, none⟩ = some (.string o.lt) ∧ W.cell? ⟨q, 8, none⟩ = some (.int .i64 o.la) ∧ W.cell? ⟨q, 9, none⟩ = some (.int .i64 o.sk) ∧ W.cell? ⟨q, 10, none⟩ = some (.string o.sn) ∧ W.cell? ⟨q, 11, none⟩ = some (.int .i64 o.sN)) ∧ (W.frozen? ⟨q, 0, none⟩ = false ∧ W.frozen? ⟨q, 1, none⟩ = false ∧ W.frozen? ⟨q, 2, none⟩ = false ∧ W.frozen? ⟨q, 3, none⟩ = false ∧ W.frozen? ⟨q, 4, none⟩ = false ∧ W.frozen? ⟨q, 5, none⟩ = false ∧ W.frozen? ⟨q, 6, none⟩ = false ∧ W.frozen? ⟨q, 7, none⟩ = false ∧ W.frozen? ⟨q, 8, none⟩ = false ∧ W.frozen? ⟨q, 9, none⟩ = false ∧ W.frozen? ⟨q, 10, none⟩ = false ∧ W.frozen? ⟨q, 11, none⟩ = false) :=
  ⟨⟨by rw [blk_cell h]; rfl, by rw [blk_cell h]; rfl, by rw [blk_cell h]; rfl, by rw [blk_cell h]; rfl, by rw [blk_cell h]; rfl, by rw [blk_cell h]; rfl, by rw [blk_cell h]; rfl, by rw [blk_cell h]; rfl, by rw [blk_cell h]; rfl, by rw [blk_cell h]; rfl, by rw [blk_cell h]; rfl, by rw [blk_cell h]; rfl⟩, blk_frozen h 0, blk_frozen h 1, blk_frozen h 2, blk_frozen h 3, blk_frozen h 4, blk_frozen h 5, blk_frozen h 6, blk_frozen h 7, blk_frozen h 8, blk_frozen h 9, blk_frozen h 10, blk_frozen h 11⟩
/-- Do is told that the kind is another. -/
theorem PS.wrong (P : PS) (o : OOp) (h : o.k ≠ (P.kind : Int)) : P.err o = 5 ∧ P.gone o = ⟨#[]⟩ ∧ P.nxt o = P := by
  cases P with
  | tx s => have h : ¬ o.k = 1 := h; refine ⟨?_, ?_, ?_⟩ <;> first | (unfold PS.err; dsimp only; rw [if_neg h]) | (unfold PS.gone; dsimp only; rw [if_neg h]) | (unfold PS.nxt; dsimp only; rw [if_neg h])
  | lg C K => have h : ¬ o.k = 2 := h; refine ⟨?_, rfl, ?_⟩ <;> first | (unfold PS.err; dsimp only; rw [if_neg h]) | (unfold PS.nxt; dsimp only; rw [if_neg h])
  | sk C K => have h : ¬ o.k = 3 := h; refine ⟨?_, rfl, ?_⟩ <;> first | (unfold PS.err; dsimp only; rw [if_neg h]) | (unfold PS.nxt; dsimp only; rw [if_neg h])
theorem saved_new (k : Nat) : (PS.new k).saved = ⟨#[0]⟩ := by
  unfold PS.new
  split
  · show Tx.saved ⟨#[]⟩ = _
    unfold Tx.saved
    rw [num_sm _ (by decide)]
    rfl
  · split
    · show Lg.savedS (fun _ => 0) [[]] = _
      unfold Lg.savedS
      have h : Lg.accs [[]] = [] := by unfold Lg.accs Lg.srt; simp
      rw [h]
      unfold Lg.saveBs
      rw [num_sm _ (by decide)]
      rfl
    · show Sk.savedS (fun _ => 0) [] = _
      unfold Sk.savedS
      have h : Sk.srt [] = [] := by unfold Sk.srt; simp
      rw [h]
      unfold Sk.saveBs
      rw [num_sm _ (by decide)]
      rfl
set_option maxHeartbeats 4000000 in
theorem ocheck_wrong (o : OOp) (k : Int) (h : o.k ≠ k) (w : World) : Calls Try.prog 13 #[.agg (opC o), .int .i64 k] w fun e w' => e = .returned (.int .i64 5) ∧ Turn Nope w w' := by
  have hne : (o.k != k) = true := by simpa using h
  clear h
  unfold opC
  go_enter Try.func13, Try.ntmps13
  go_wp2_with fail
  go_ret
  exact ⟨rfl, (Turn.refl _ _).alloc _⟩
theorem kindN_ne (n : Int) : (kindN (kindN n : Int) : Int) ≠ (kindN n : Int) := by
  have h := kindN_spec n
  rcases (by omega : kindN n = 1 ∨ kindN n = 2 ∨ kindN n = 3) with e | e | e <;> rw [e] <;> decide
theorem few_k (o : OOp) : (few o).k = o.k := by
  unfold few
  split
  · rfl
  · split
    · rfl
    · split
      · rfl
      · rfl
theorem few_sz (o : OOp) : (few o).ln.size ≤ maxLen ∧ (few o).lt.size ≤ maxLen ∧ (few o).sn.size ≤ maxLen := by
  have h0 : (⟨#[]⟩ : ByteArray).size ≤ maxLen := by decide
  have h1 := fun s => Nat.le_trans (Lg.cutP_size s 14) (by unfold maxLen; omega : 14 ≤ maxLen)
  have h2 := fun s => Nat.le_trans (Sk.cutP_size s 14) (by unfold maxLen; omega : 14 ≤ maxLen)
  unfold few
  split
  · exact ⟨h0, h0, h0⟩
  · split
    · exact ⟨h1 _, h1 _, h0⟩
    · split
      · exact ⟨h0, h0, h2 _⟩
      · exact ⟨h0, h0, h0⟩
theorem nah (P : PS) (b : Nat) (W : World) : (nilAhead 266 (tyO P.kind) (rv b) "Do").run Try.prog W = .ok (some false) W := by
  cases P
  · kernel_rfl
  · kernel_rfl
  · kernel_rfl
theorem Mt.na {T FD FS FC FK : Nat} (h : Mt P T FD FS FC FK) (b : Nat) (W : World) : (nilAhead 266 T (rv b) "Do").run Try.prog W = .ok (some false) W := by rw [← h.t]; exact nah P b W
end Go.Proofs.Yteggenihjhclkaa
