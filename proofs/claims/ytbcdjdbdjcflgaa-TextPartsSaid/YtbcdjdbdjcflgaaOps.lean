/- The ops that come in to a law on documents, as the walk reads them. -/
import Derived.Test.YtbcdjdbdjcflgaaOpen
import Derived.Test.YtbcdjdbdjcflgaaAwake
namespace Go.Proofs.Ytbcdjdbdjcflgaa
open Go.RowKit Go.ChangeShapes Go.WideShapes Go.Deep
def OpsIn (w : World) (a : Option Addr) (len : Nat) : Prop := len ≤ maxLen ∧ ∀ i, i < len → ∃ (ad : Addr) (k at_ : Int) (S : ByteArray) (n : Int), a = some ad ∧ S.size ≤ maxLen ∧
  w.cell? (ad.add (i * 4)) = some (.int .i64 k) ∧ w.cell? ⟨(ad.add (i * 4)).block, (ad.add (i * 4)).off + 1, none⟩ = some (.int .i64 at_) ∧
  w.cell? ⟨(ad.add (i * 4)).block, (ad.add (i * 4)).off + 2, none⟩ = some (.string S) ∧ w.cell? ⟨(ad.add (i * 4)).block, (ad.add (i * 4)).off + 3, none⟩ = some (.int .i64 n)
theorem OpsIn.later {w w' : World} {a : Option Addr} {len : Nat} (h : OpsIn w a len) (hb : Below w.heap.size w w') : OpsIn w' a len :=
  ⟨h.1, fun i hi => by
    obtain ⟨ad, k, at_, S, n, e, hS, c0, c1, c2, c3⟩ := h.2 i hi
    exact ⟨ad, k, at_, S, n, e, hS, cell_later hb c0, cell_later hb c1, cell_later hb c2, cell_later hb c3⟩⟩
theorem open_t33 {H : Type} {enc : TypeId × Value → H} {w : World} {a : Option Addr} {len cap : Nat} {d : DataW H} {p : List MemPlace} (h : DataW.Trod enc Try.prog w 0 (fun _ => true) true 33 (.slice a len cap) d p) : OpsIn w a len := by
  obtain ⟨hm, _, he⟩ := open_elems (sz := 4) Try.underlying33 (by kernel_rfl) h
  refine ⟨hm, fun i hi => ?_⟩
  obtain ⟨ad, cs, n, y, ha, hl, hc, ht⟩ := he i hi
  obtain ⟨xs, n', _, _, _, hxl, hf⟩ := DataW.trod_struct Try.underlying31 ht
  have hxl4 : xs.length = 4 := hxl
  match cs, hl with
  | [c0, c1, c2, c3], _ =>
    have h3 : Try.prog.cellsOf 3 = 1 := by kernel_rfl
    have h9 : Try.prog.cellsOf 9 = 1 := by kernel_rfl
    have f0 : DataW.trod enc Try.prog w 0 (fun _ => true) true n' 3 [c0] = xs[0]? := (show ((([c0, c1, c2, c3] : List Value).drop 0).take (Try.prog.cellsOf 3)) = [c0] by rw [h3]; rfl) ▸ hf 0 _ rfl
    have f1 : DataW.trod enc Try.prog w 0 (fun _ => true) true n' 3 [c1] = xs[1]? := (show ((([c0, c1, c2, c3] : List Value).drop 1).take (Try.prog.cellsOf 3)) = [c1] by rw [h3]; rfl) ▸ hf 1 _ rfl
    have f2 : DataW.trod enc Try.prog w 0 (fun _ => true) true n' 9 [c2] = xs[2]? := (show ((([c0, c1, c2, c3] : List Value).drop 2).take (Try.prog.cellsOf 9)) = [c2] by rw [h9]; rfl) ▸ hf 2 _ rfl
    have f3 : DataW.trod enc Try.prog w 0 (fun _ => true) true n' 3 [c3] = xs[3]? := (show ((([c0, c1, c2, c3] : List Value).drop 3).take (Try.prog.cellsOf 3)) = [c3] by rw [h3]; rfl) ▸ hf 3 _ rfl
    obtain ⟨k, rfl, _⟩ := leaf_int Try.underlying3 f0 (by omega)
    obtain ⟨at_, rfl, _⟩ := leaf_int Try.underlying3 f1 (by omega)
    obtain ⟨S, rfl, hS⟩ := leaf_str Try.underlying9 f2 (by omega)
    obtain ⟨n, rfl, _⟩ := leaf_int Try.underlying3 f3 (by omega)
    exact ⟨ad, k, at_, S, n, ha, hS, hc 0 (by omega), by rw [← add_off _ _ 1 (by omega)]; exact hc 1 (by omega), by rw [← add_off _ _ 2 (by omega)]; exact hc 2 (by omega), by rw [← add_off _ _ 3 (by omega)]; exact hc 3 (by omega)⟩
end Go.Proofs.Ytbcdjdbdjcflgaa
