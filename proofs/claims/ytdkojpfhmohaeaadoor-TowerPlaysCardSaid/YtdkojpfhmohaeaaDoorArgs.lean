/- Slices that come in to a law on towers, as the walk reads them. -/
import Derived.Test.YtdkojpfhmohaeaaDoorOpen
import Derived.Test.YtdkojpfhmohaeaaDoorAwake
set_option linter.unusedVariables false
namespace Go.Proofs.YtdkojpfhmohaeaaDoor
open Go.RowKit Go.ChangeShapes Go.WideShapes Go.Deep
theorem i64_bounds {v : Int} (hv : (Lit.int .i64 v).wf = true) : -9223372036854775808 ≤ v ∧ v ≤ 9223372036854775807 := by
  have h1 : IntKind.i64.min ≤ v ∧ v ≤ 9223372036854775807 := by simpa [Lit.wf] using hv
  exact h1
/-- A slice holds the numbers ts. -/
def IntsAt (w : World) (a : Option Addr) (len : Nat) (ts : Nat → Int) : Prop := len ≤ maxLen ∧ ∀ i, i < len → (-9223372036854775808 ≤ ts i ∧ ts i ≤ 9223372036854775807) ∧ ∃ ad : Addr, a = some ad ∧ w.cell? (ad.add i) = some (.int .i64 (ts i))
def IntsIn (w : World) (a : Option Addr) (len : Nat) : Prop := ∃ ts, IntsAt w a len ts
theorem IntsAt.later {w w' : World} {a : Option Addr} {len : Nat} {ts : Nat → Int} (h : IntsAt w a len ts) (hb : Below w.heap.size w w') : IntsAt w' a len ts :=
  ⟨h.1, fun i hi => by obtain ⟨hv, ad, e, c0⟩ := h.2 i hi; exact ⟨hv, ad, e, cell_later hb c0⟩⟩
def ActsIn (w : World) (a : Option Addr) (len : Nat) : Prop := len ≤ maxLen ∧ ∀ i, i < len → ∃ (ad : Addr) (k v up : Int) (s : ByteArray), a = some ad ∧ (-9223372036854775808 ≤ v ∧ v ≤ 9223372036854775807) ∧ (-9223372036854775808 ≤ up ∧ up ≤ 9223372036854775807) ∧ s.size ≤ maxLen ∧
  w.cell? (ad.add (i * 4)) = some (.int .i64 k) ∧ w.cell? ⟨(ad.add (i * 4)).block, (ad.add (i * 4)).off + 1, none⟩ = some (.int .i64 v) ∧ w.cell? ⟨(ad.add (i * 4)).block, (ad.add (i * 4)).off + 2, none⟩ = some (.int .i64 up) ∧ w.cell? ⟨(ad.add (i * 4)).block, (ad.add (i * 4)).off + 3, none⟩ = some (.string s)
section
variable {H : Type} {enc : TypeId × Value → H} {w : World} {a : Option Addr} {len cap : Nat} {d : DataW H} {p : List MemPlace}
theorem open_t30 (h : DataW.Trod enc Tryd.prog w 0 (fun _ => true) true 30 (.slice a len cap) d p) : IntsIn w a len := by
  obtain ⟨hm, _, he⟩ := open_elems (sz := 1) Tryd.underlying30 (by kernel_rfl) h
  have key : ∀ i, i < len → ∃ (x : Int), (-9223372036854775808 ≤ x ∧ x ≤ 9223372036854775807) ∧ ∃ (ad : Addr), a = some ad ∧ w.cell? (ad.add i) = some (.int .i64 x) := by
    intro i hi
    obtain ⟨ad, cs, n, y, ha, hl, hc, ht⟩ := he i hi
    match cs, hl with
    | [c0], _ =>
      obtain ⟨x, rfl, hx⟩ := leaf_int (xs := [y]) (i := 0) Tryd.underlying3 ht (by simp)
      have := hc 0 (by omega)
      rw [Nat.mul_one, Nat.add_zero] at this
      exact ⟨x, i64_bounds hx, ad, ha, this⟩
  refine ⟨fun i => if h : i < len then (key i h).choose else 0, hm, fun i hi => ?_⟩
  show (-9223372036854775808 ≤ (if h : i < len then (key i h).choose else 0) ∧ (if h : i < len then (key i h).choose else 0) ≤ 9223372036854775807) ∧ ∃ ad, a = some ad ∧ w.cell? (ad.add i) = some (.int .i64 (if h : i < len then (key i h).choose else 0))
  rw [dif_pos hi]
  exact (key i hi).choose_spec
theorem open_t37 (h : DataW.Trod enc Tryd.prog w 0 (fun _ => true) true 37 (.slice a len cap) d p) : ActsIn w a len := by
  obtain ⟨hm, _, he⟩ := open_elems (sz := 4) Tryd.underlying37 (by kernel_rfl) h
  refine ⟨hm, fun i hi => ?_⟩
  obtain ⟨ad, cs, n, y, ha, hl, hc, ht⟩ := he i hi
  obtain ⟨xs, n', _, _, _, hxl, hf⟩ := DataW.trod_struct Tryd.underlying42 ht
  have hxl4 : xs.length = 4 := hxl
  match cs, hl with
  | [c0, c1, c2, c3], _ =>
    have h3 : Tryd.prog.cellsOf 3 = 1 := by kernel_rfl
    have h9 : Tryd.prog.cellsOf 9 = 1 := by kernel_rfl
    have f0 : DataW.trod enc Tryd.prog w 0 (fun _ => true) true n' 3 [c0] = xs[0]? := (show ((([c0, c1, c2, c3] : List Value).drop 0).take (Tryd.prog.cellsOf 3)) = [c0] by rw [h3]; rfl) ▸ hf 0 _ rfl
    have f1 : DataW.trod enc Tryd.prog w 0 (fun _ => true) true n' 3 [c1] = xs[1]? := (show ((([c0, c1, c2, c3] : List Value).drop 1).take (Tryd.prog.cellsOf 3)) = [c1] by rw [h3]; rfl) ▸ hf 1 _ rfl
    have f2 : DataW.trod enc Tryd.prog w 0 (fun _ => true) true n' 3 [c2] = xs[2]? := (show ((([c0, c1, c2, c3] : List Value).drop 2).take (Tryd.prog.cellsOf 3)) = [c2] by rw [h3]; rfl) ▸ hf 2 _ rfl
    have f3 : DataW.trod enc Tryd.prog w 0 (fun _ => true) true n' 9 [c3] = xs[3]? := (show ((([c0, c1, c2, c3] : List Value).drop 3).take (Tryd.prog.cellsOf 9)) = [c3] by rw [h9]; rfl) ▸ hf 3 _ rfl
    obtain ⟨k, rfl, hk⟩ := leaf_int Tryd.underlying3 f0 (by omega)
    obtain ⟨v, rfl, hv⟩ := leaf_int Tryd.underlying3 f1 (by omega)
    obtain ⟨up, rfl, hup⟩ := leaf_int Tryd.underlying3 f2 (by omega)
    obtain ⟨s, rfl, hs⟩ := leaf_str Tryd.underlying9 f3 (by omega)
    exact ⟨ad, k, v, up, s, ha, i64_bounds hv, i64_bounds hup, hs, hc 0 (by omega), by rw [← add_off _ _ 1 (by omega)]; exact hc 1 (by omega), by rw [← add_off _ _ 2 (by omega)]; exact hc 2 (by omega), by rw [← add_off _ _ 3 (by omega)]; exact hc 3 (by omega)⟩
end
end Go.Proofs.YtdkojpfhmohaeaaDoor
