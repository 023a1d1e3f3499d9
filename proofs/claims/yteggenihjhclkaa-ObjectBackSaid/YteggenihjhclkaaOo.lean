/- What an object's op is, as it comes in. -/
import Derived.Test.YteggenihjhclkaaOl
set_option maxRecDepth 16000
set_option linter.unusedVariables false
set_option linter.unusedSimpArgs false
namespace Go.Proofs.Yteggenihjhclkaa
open Go.RowKit Go.Maps
variable {w w' : World}
def OSz (o : OOp) : Prop := o.ts.size ≤ maxLen ∧ o.ln.size ≤ maxLen ∧ o.lt.size ≤ maxLen ∧ o.sn.size ≤ maxLen
theorem open12 {H : Type} {enc : TypeId × Value → H} {n : Nat} {cs : List Value} {x : DataW H × List MemPlace} (hl : cs.length = 12) (ht : DataW.trod enc Try.prog w 0 (fun _ => true) true n 30 cs = some x) : ∃ o : OOp, cs = (opC o).toList ∧ OSz o := by
  have h3 : Try.prog.cellsOf 3 = 1 := by kernel_rfl
  have h9 : Try.prog.cellsOf 9 = 1 := by kernel_rfl
  have h24 : Try.prog.cellsOf 24 = 4 := by kernel_rfl
  have h26 : Try.prog.cellsOf 26 = 4 := by kernel_rfl
  have h28 : Try.prog.cellsOf 28 = 3 := by kernel_rfl
  obtain ⟨xs, n0, _, _, _, hxl, hf⟩ := DataW.trod_struct Try.underlying30 ht
  have hxl4 : xs.length = 4 := hxl
  match cs, hl with
  | [c0, c1, c2, c3, c4, c5, c6, c7, c8, c9, c10, c11], _ =>
    have f0 : DataW.trod enc Try.prog w 0 (fun _ => true) true n0 3 [c0] = xs[0]? := (show ((([c0, c1, c2, c3, c4, c5, c6, c7, c8, c9, c10, c11] : List Value).drop 0).take (Try.prog.cellsOf 3)) = [c0] by rw [h3]; rfl) ▸ hf 0 _ rfl
    have f1 : DataW.trod enc Try.prog w 0 (fun _ => true) true n0 24 [c1, c2, c3, c4] = xs[1]? := (show ((([c0, c1, c2, c3, c4, c5, c6, c7, c8, c9, c10, c11] : List Value).drop 1).take (Try.prog.cellsOf 24)) = [c1, c2, c3, c4] by rw [h24]; rfl) ▸ hf 1 _ rfl
    have f2 : DataW.trod enc Try.prog w 0 (fun _ => true) true n0 26 [c5, c6, c7, c8] = xs[2]? := (show ((([c0, c1, c2, c3, c4, c5, c6, c7, c8, c9, c10, c11] : List Value).drop 5).take (Try.prog.cellsOf 26)) = [c5, c6, c7, c8] by rw [h26]; rfl) ▸ hf 2 _ rfl
    have f3 : DataW.trod enc Try.prog w 0 (fun _ => true) true n0 28 [c9, c10, c11] = xs[3]? := (show ((([c0, c1, c2, c3, c4, c5, c6, c7, c8, c9, c10, c11] : List Value).drop 9).take (Try.prog.cellsOf 28)) = [c9, c10, c11] by rw [h28]; rfl) ▸ hf 3 _ rfl
    obtain ⟨k, rfl, _⟩ := leaf_int Try.underlying3 f0 (by omega)
    obtain ⟨xsA, nA, _, _, _, hxA, hfA⟩ := DataW.trod_struct Try.underlying24 (f1.trans (List.getElem?_eq_getElem (by omega)))
    obtain ⟨xsB, nB, _, _, _, hxB, hfB⟩ := DataW.trod_struct Try.underlying26 (f2.trans (List.getElem?_eq_getElem (by omega)))
    obtain ⟨xsC, nC, _, _, _, hxC, hfC⟩ := DataW.trod_struct Try.underlying28 (f3.trans (List.getElem?_eq_getElem (by omega)))
    have hxA4 : xsA.length = 4 := hxA
    have hxB4 : xsB.length = 4 := hxB
    have hxC3 : xsC.length = 3 := hxC
    have fA0 : DataW.trod enc Try.prog w 0 (fun _ => true) true nA 3 [c1] = xsA[0]? := (show ((([c1, c2, c3, c4] : List Value).drop 0).take (Try.prog.cellsOf 3)) = [c1] by rw [h3]; rfl) ▸ hfA 0 _ rfl
    have fA1 : DataW.trod enc Try.prog w 0 (fun _ => true) true nA 3 [c2] = xsA[1]? := (show ((([c1, c2, c3, c4] : List Value).drop 1).take (Try.prog.cellsOf 3)) = [c2] by rw [h3]; rfl) ▸ hfA 1 _ rfl
    have fA2 : DataW.trod enc Try.prog w 0 (fun _ => true) true nA 9 [c3] = xsA[2]? := (show ((([c1, c2, c3, c4] : List Value).drop 2).take (Try.prog.cellsOf 9)) = [c3] by rw [h9]; rfl) ▸ hfA 2 _ rfl
    have fA3 : DataW.trod enc Try.prog w 0 (fun _ => true) true nA 3 [c4] = xsA[3]? := (show ((([c1, c2, c3, c4] : List Value).drop 3).take (Try.prog.cellsOf 3)) = [c4] by rw [h3]; rfl) ▸ hfA 3 _ rfl
    have fB0 : DataW.trod enc Try.prog w 0 (fun _ => true) true nB 3 [c5] = xsB[0]? := (show ((([c5, c6, c7, c8] : List Value).drop 0).take (Try.prog.cellsOf 3)) = [c5] by rw [h3]; rfl) ▸ hfB 0 _ rfl
    have fB1 : DataW.trod enc Try.prog w 0 (fun _ => true) true nB 9 [c6] = xsB[1]? := (show ((([c5, c6, c7, c8] : List Value).drop 1).take (Try.prog.cellsOf 9)) = [c6] by rw [h9]; rfl) ▸ hfB 1 _ rfl
    have fB2 : DataW.trod enc Try.prog w 0 (fun _ => true) true nB 9 [c7] = xsB[2]? := (show ((([c5, c6, c7, c8] : List Value).drop 2).take (Try.prog.cellsOf 9)) = [c7] by rw [h9]; rfl) ▸ hfB 2 _ rfl
    have fB3 : DataW.trod enc Try.prog w 0 (fun _ => true) true nB 3 [c8] = xsB[3]? := (show ((([c5, c6, c7, c8] : List Value).drop 3).take (Try.prog.cellsOf 3)) = [c8] by rw [h3]; rfl) ▸ hfB 3 _ rfl
    have fC0 : DataW.trod enc Try.prog w 0 (fun _ => true) true nC 3 [c9] = xsC[0]? := (show ((([c9, c10, c11] : List Value).drop 0).take (Try.prog.cellsOf 3)) = [c9] by rw [h3]; rfl) ▸ hfC 0 _ rfl
    have fC1 : DataW.trod enc Try.prog w 0 (fun _ => true) true nC 9 [c10] = xsC[1]? := (show ((([c9, c10, c11] : List Value).drop 1).take (Try.prog.cellsOf 9)) = [c10] by rw [h9]; rfl) ▸ hfC 1 _ rfl
    have fC2 : DataW.trod enc Try.prog w 0 (fun _ => true) true nC 3 [c11] = xsC[2]? := (show ((([c9, c10, c11] : List Value).drop 2).take (Try.prog.cellsOf 3)) = [c11] by rw [h3]; rfl) ▸ hfC 2 _ rfl
    obtain ⟨tk, rfl, ztk⟩ := leaf_int Try.underlying3 fA0 (by omega)
    obtain ⟨ta, rfl, zta⟩ := leaf_int Try.underlying3 fA1 (by omega)
    obtain ⟨ts, rfl, zts⟩ := leaf_str Try.underlying9 fA2 (by omega)
    obtain ⟨tn, rfl, ztn⟩ := leaf_int Try.underlying3 fA3 (by omega)
    obtain ⟨lk, rfl, zlk⟩ := leaf_int Try.underlying3 fB0 (by omega)
    obtain ⟨ln, rfl, zln⟩ := leaf_str Try.underlying9 fB1 (by omega)
    obtain ⟨lt, rfl, zlt⟩ := leaf_str Try.underlying9 fB2 (by omega)
    obtain ⟨la, rfl, zla⟩ := leaf_int Try.underlying3 fB3 (by omega)
    obtain ⟨sk, rfl, zsk⟩ := leaf_int Try.underlying3 fC0 (by omega)
    obtain ⟨sn, rfl, zsn⟩ := leaf_str Try.underlying9 fC1 (by omega)
    obtain ⟨sN, rfl, zsN⟩ := leaf_int Try.underlying3 fC2 (by omega)
    exact ⟨⟨k, tk, ta, ts, tn, lk, ln, lt, la, sk, sn, sN⟩, rfl, zts, zln, zlt, zsn⟩
/-- The cells of an op at an address. -/
def OpAt (w : World) (ad : Addr) (o : OOp) : Prop := ∀ j v, (opC o)[j]? = some v → w.cell? (ad.add j) = some v
def OpsIn (w : World) (a : Option Addr) (len : Nat) : Prop := len ≤ maxLen ∧ ∀ i, i < len → ∃ (ad : Addr) (o : OOp), a = some ad ∧ OSz o ∧ ∀ j v, (opC o)[j]? = some v → w.cell? (ad.add (i * 12 + j)) = some v
theorem open_t22 {H : Type} {enc : TypeId × Value → H} {a : Option Addr} {len cap : Nat} {d : DataW H} {p : List MemPlace} (h : DataW.Trod enc Try.prog w 0 (fun _ => true) true 22 (.slice a len cap) d p) : OpsIn w a len := by
  obtain ⟨hm, _, he⟩ := open_elems (sz := 12) Try.underlying22 (by kernel_rfl) h
  refine ⟨hm, fun i hi => ?_⟩
  obtain ⟨ad, cs, n, y, ha, hl, hc, ht⟩ := he i hi
  obtain ⟨o, rfl, hs⟩ := open12 hl ht
  refine ⟨ad, o, ha, hs, fun j v hj => ?_⟩
  have hlt := (Array.getElem?_eq_some_iff.1 hj).1
  rw [hc j (by simpa [opC] using hlt)]
  simpa using hj
theorem open_t30 {H : Type} {enc : TypeId × Value → H} {cs : Array Value} {d : DataW H} {p : List MemPlace} (hcs : cs.size = Try.prog.cellsOf 30) (h : DataW.Trod enc Try.prog w 0 (fun _ => true) true 30 (.agg cs) d p) :
    ∃ (k tk ta : Int) (ts : ByteArray) (tn lk : Int) (ln lt : ByteArray) (la sk : Int) (sn : ByteArray) (sN : Int), cs = #[.int .i64 k, .int .i64 tk, .int .i64 ta, .string ts, .int .i64 tn, .int .i64 lk, .string ln, .string lt, .int .i64 la, .int .i64 sk, .string sn, .int .i64 sN] ∧
      ts.size ≤ maxLen ∧ ln.size ≤ maxLen ∧ lt.size ≤ maxLen ∧ sn.size ≤ maxLen := by
  obtain ⟨n, ht⟩ := h
  have hc : Try.prog.cellsOf 30 = 12 := by kernel_rfl
  obtain ⟨o, ho, hs⟩ := open12 (cs := cs.toList) (by rw [Array.length_toList, hcs, hc]) ht
  refine ⟨o.k, o.tk, o.ta, o.ts, o.tn, o.lk, o.ln, o.lt, o.la, o.sk, o.sn, o.sN, ?_, hs⟩
  have : cs = opC o := by rw [← Array.toArray_toList (xs := cs), ho]
  exact this
end Go.Proofs.Yteggenihjhclkaa
