/- Slices of strings, of numbers that come in to a law on cells, as the walk reads them. -/
import Derived.Test.YtpcfgigmchndjaaOpen
import Derived.Test.YtpcfgigmchndjaaAwake
namespace Go.Proofs.Ytpcfgigmchndjaa
open Go.RowKit Go.ChangeShapes Go.WideShapes Go.Deep
def StrsIn (w : World) (a : Option Addr) (len : Nat) : Prop := len ≤ maxLen ∧ ∀ i, i < len → ∃ (ad : Addr) (S : ByteArray), a = some ad ∧ S.size ≤ maxLen ∧ w.cell? (ad.add i) = some (.string S)
theorem StrsIn.later {w w' : World} {a : Option Addr} {len : Nat} (h : StrsIn w a len) (hb : Below w.heap.size w w') : StrsIn w' a len :=
  ⟨h.1, fun i hi => by obtain ⟨ad, S, e, hS, c0⟩ := h.2 i hi; exact ⟨ad, S, e, hS, cell_later hb c0⟩⟩
def IntsIn (w : World) (a : Option Addr) (len : Nat) : Prop := len ≤ maxLen ∧ ∀ i, i < len → ∃ (ad : Addr) (x : Int), a = some ad ∧ (Lit.int .i64 x).wf = true ∧ w.cell? (ad.add i) = some (.int .i64 x)
theorem IntsIn.later {w w' : World} {a : Option Addr} {len : Nat} (h : IntsIn w a len) (hb : Below w.heap.size w w') : IntsIn w' a len :=
  ⟨h.1, fun i hi => by obtain ⟨ad, S, e, hS, c0⟩ := h.2 i hi; exact ⟨ad, S, e, hS, cell_later hb c0⟩⟩
def ActsIn (w : World) (a : Option Addr) (len : Nat) : Prop := len ≤ maxLen ∧ ∀ i, i < len → ∃ (ad : Addr) (who k c : Int) (o n : ByteArray), a = some ad ∧ (Lit.int .i64 who).wf = true ∧ (Lit.int .i64 k).wf = true ∧ (Lit.int .i64 c).wf = true ∧ o.size ≤ maxLen ∧ n.size ≤ maxLen ∧
  w.cell? (ad.add (i * 5)) = some (.int .i64 who) ∧ w.cell? ⟨(ad.add (i * 5)).block, (ad.add (i * 5)).off + 1, none⟩ = some (.int .i64 k) ∧ w.cell? ⟨(ad.add (i * 5)).block, (ad.add (i * 5)).off + 2, none⟩ = some (.int .i64 c) ∧
  w.cell? ⟨(ad.add (i * 5)).block, (ad.add (i * 5)).off + 3, none⟩ = some (.string o) ∧ w.cell? ⟨(ad.add (i * 5)).block, (ad.add (i * 5)).off + 4, none⟩ = some (.string n)
theorem ActsIn.later {w w' : World} {a : Option Addr} {len : Nat} (h : ActsIn w a len) (hb : Below w.heap.size w w') : ActsIn w' a len :=
  ⟨h.1, fun i hi => by
    obtain ⟨ad, who, k, c, o, n, e, h1, h2, h3, h4, h5, c0, c1, c2, c3, c4⟩ := h.2 i hi
    exact ⟨ad, who, k, c, o, n, e, h1, h2, h3, h4, h5, cell_later hb c0, cell_later hb c1, cell_later hb c2, cell_later hb c3, cell_later hb c4⟩⟩
section
variable {H : Type} {enc : TypeId × Value → H} {w : World} {a : Option Addr} {len cap : Nat} {d : DataW H} {p : List MemPlace}
theorem open_t35 (h : DataW.Trod enc Try.prog w 0 (fun _ => true) true 35 (.slice a len cap) d p) : StrsIn w a len := by
  obtain ⟨hm, _, he⟩ := open_elems (sz := 1) Try.underlying35 (by kernel_rfl) h
  refine ⟨hm, fun i hi => ?_⟩
  obtain ⟨ad, cs, n, y, ha, hl, hc, ht⟩ := he i hi
  match cs, hl with
  | [c0], _ =>
    obtain ⟨S, rfl, hS⟩ := leaf_str (xs := [y]) (i := 0) Try.underlying9 ht (by simp)
    have := hc 0 (by omega)
    rw [Nat.mul_one, Nat.add_zero] at this
    exact ⟨ad, S, ha, hS, this⟩
theorem open_t22 (h : DataW.Trod enc Try.prog w 0 (fun _ => true) true 22 (.slice a len cap) d p) : IntsIn w a len := by
  obtain ⟨hm, _, he⟩ := open_elems (sz := 1) Try.underlying22 (by kernel_rfl) h
  refine ⟨hm, fun i hi => ?_⟩
  obtain ⟨ad, cs, n, y, ha, hl, hc, ht⟩ := he i hi
  match cs, hl with
  | [c0], _ =>
    obtain ⟨x, rfl, hx⟩ := leaf_int (xs := [y]) (i := 0) Try.underlying3 ht (by simp)
    have := hc 0 (by omega)
    rw [Nat.mul_one, Nat.add_zero] at this
    exact ⟨ad, x, ha, hx, this⟩
theorem open_t42 (h : DataW.Trod enc Try.prog w 0 (fun _ => true) true 42 (.slice a len cap) d p) : ActsIn w a len := by
  obtain ⟨hm, _, he⟩ := open_elems (sz := 5) Try.underlying42 (by kernel_rfl) h
  refine ⟨hm, fun i hi => ?_⟩
  obtain ⟨ad, cs, n, y, ha, hl, hc, ht⟩ := he i hi
  obtain ⟨xs, n', _, _, _, hxl, hf⟩ := DataW.trod_struct Try.underlying45 ht
  have hxl4 : xs.length = 2 := hxl
  match cs, hl with
  | [c0, c1, c2, c3, c4], _ =>
    have h3 : Try.prog.cellsOf 3 = 1 := by kernel_rfl
    have h9 : Try.prog.cellsOf 9 = 1 := by kernel_rfl
    have h31 : Try.prog.cellsOf 31 = 4 := by kernel_rfl
    have f0 : DataW.trod enc Try.prog w 0 (fun _ => true) true n' 3 [c0] = xs[0]? := (show ((([c0, c1, c2, c3, c4] : List Value).drop 0).take (Try.prog.cellsOf 3)) = [c0] by rw [h3]; rfl) ▸ hf 0 _ rfl
    have f1 : DataW.trod enc Try.prog w 0 (fun _ => true) true n' 31 [c1, c2, c3, c4] = xs[1]? := (show ((([c0, c1, c2, c3, c4] : List Value).drop 1).take (Try.prog.cellsOf 31)) = [c1, c2, c3, c4] by rw [h31]; rfl) ▸ hf 1 _ rfl
    obtain ⟨who, rfl, hwho⟩ := leaf_int Try.underlying3 f0 (by omega)
    obtain ⟨xs', n2, _, _, _, hxl', hf'⟩ := DataW.trod_struct Try.underlying31 (f1.trans (List.getElem?_eq_getElem (by omega)))
    have hxl4' : xs'.length = 4 := hxl'
    have e0 : DataW.trod enc Try.prog w 0 (fun _ => true) true n2 3 [c1] = xs'[0]? := (show ((([c1, c2, c3, c4] : List Value).drop 0).take (Try.prog.cellsOf 3)) = [c1] by rw [h3]; rfl) ▸ hf' 0 _ rfl
    have e1 : DataW.trod enc Try.prog w 0 (fun _ => true) true n2 3 [c2] = xs'[1]? := (show ((([c1, c2, c3, c4] : List Value).drop 1).take (Try.prog.cellsOf 3)) = [c2] by rw [h3]; rfl) ▸ hf' 1 _ rfl
    have e2 : DataW.trod enc Try.prog w 0 (fun _ => true) true n2 9 [c3] = xs'[2]? := (show ((([c1, c2, c3, c4] : List Value).drop 2).take (Try.prog.cellsOf 9)) = [c3] by rw [h9]; rfl) ▸ hf' 2 _ rfl
    have e3 : DataW.trod enc Try.prog w 0 (fun _ => true) true n2 9 [c4] = xs'[3]? := (show ((([c1, c2, c3, c4] : List Value).drop 3).take (Try.prog.cellsOf 9)) = [c4] by rw [h9]; rfl) ▸ hf' 3 _ rfl
    obtain ⟨k, rfl, hk⟩ := leaf_int Try.underlying3 e0 (by omega)
    obtain ⟨c, rfl, hcc⟩ := leaf_int Try.underlying3 e1 (by omega)
    obtain ⟨o, rfl, ho⟩ := leaf_str Try.underlying9 e2 (by omega)
    obtain ⟨nw, rfl, hn⟩ := leaf_str Try.underlying9 e3 (by omega)
    exact ⟨ad, who, k, c, o, nw, ha, hwho, hk, hcc, ho, hn, hc 0 (by omega), by rw [← add_off _ _ 1 (by omega)]; exact hc 1 (by omega), by rw [← add_off _ _ 2 (by omega)]; exact hc 2 (by omega), by rw [← add_off _ _ 3 (by omega)]; exact hc 3 (by omega), by rw [← add_off _ _ 4 (by omega)]; exact hc 4 (by omega)⟩
end
end Go.Proofs.Ytpcfgigmchndjaa
