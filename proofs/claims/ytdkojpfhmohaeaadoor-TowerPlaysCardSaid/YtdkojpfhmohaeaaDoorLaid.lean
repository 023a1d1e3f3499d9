/- What the listed tables give the walks: the cells of the bits package's table. -/
import Derived.Test.YtdkojpfhmohaeaaDoorHgt
import Derived.Test.YtdkojpfhmohaeaaDoorRows
import Derived.ProofKit
import Derived.LaidMore
import Derived.OpenShut
import Derived.Stop.Joined
namespace Go.Proofs.YtdkojpfhmohaeaaDoor
open Go.ChangeShapes Go.WideShapes Go.ChangeAt Go.RowKit
def laid2 : List (String × DataW Unit) := [("math/bits.deBruijn32tab", Rows.laid_math_bits_deBruijn32tab), ("math/bits.deBruijn64tab", Rows.laid_math_bits_deBruijn64tab)]
theorem g32 : Tryd.prog.globalNamed "math/bits.deBruijn32tab" = some 0 := by kernel_rfl
theorem g64 : Tryd.prog.globalNamed "math/bits.deBruijn64tab" = some 1 := by kernel_rfl
theorem t64 : (Tryd.prog.globals[1]?).map (·.type) = some 80 := by kernel_rfl
set_option maxRecDepth 100000 in
theorem door_met (os : Os) (args : Array Value) : laidMetH Tryd.prog laid2 ((World.doorLaid Tryd.prog 40 os).forCall (fun _ _ => 0) ⟨#[], args, []⟩).memory :=
  laidMetH_of_parts3 (fuel := 8) (laidMet_of_run' 8 (by kernel_rfl) (by kernel_rfl)) (by kernel_rfl) (by kernel_rfl)
def lits (l : List Nat) : List (DataW Unit) := l.map fun (n : Nat) => .lit (.int .u8 (n : Int))
theorem datum64 : (Rows.laid_math_bits_deBruijn64tab : DataW Unit) = .agg (lits Lib.deBruijn64tab) := by rfl
set_option maxRecDepth 100000 in
theorem tab_of_laid {W : World} (h : laidMetH Tryd.prog laid2 W) : TabAt W := by
  rw [MakeChecks.laidMetH_plain _ _ _ (by kernel_rfl)] at h
  obtain ⟨ps, ⟨g0, t0, cs0, f0, p0, q0, hg0, ht0, hv0, hd0, ⟨g1, t1, cs1, f1, p1, q1, hg1, ht1, hv1, hd1, _, _⟩, _⟩, _, _⟩ := h
  obtain rfl := Option.some.inj (g64.symm.trans hg1)
  obtain rfl := Option.some.inj (t64.symm.trans ht1)
  obtain ⟨xs, m, rfl, hx, hlen, hn, hel⟩ := DataW.trod_array Tryd.underlying80 hd1
  have c5 : Tryd.prog.cellsOf 5 = 1 := by kernel_rfl
  have c80 : Tryd.prog.cellsOf 80 = 64 := by kernel_rfl
  simp only [Prod.mk.injEq] at hx
  have hx1 : xs.map (·.1) = lits Lib.deBruijn64tab := by
    have := hx.1
    rw [datum64] at this
    injection this with this
    exact this.symm
  intro j hj
  have h1 := hel j hj
  rw [c5, Nat.mul_one] at h1
  have hc : cs1.size = 64 := by rw [← Array.length_toList, hlen, c80]
  have hcell := World.var?_cell hg1 hv1 j
  rw [hcell]
  have e1 : (cs1.toList.drop j).take 1 = [cs1[j]'(by omega)] := by
    rw [List.drop_eq_getElem_cons (by rw [Array.length_toList]; omega)]
    simp
  rw [e1, List.getElem?_eq_getElem (by omega)] at h1
  obtain ⟨k, e2, e3, _⟩ := DataW.trod_int Tryd.underlying5 h1
  have e4 : (xs.map (·.1))[j]? = some (.lit (.int .u8 (Lib.deBruijn64tab.getD j 0 : Nat))) := by
    rw [hx1]
    unfold lits
    have hj' : j < Lib.deBruijn64tab.length := hj
    rw [List.getElem?_map, List.getElem?_eq_getElem hj', List.getD_eq_getElem?_getD, List.getElem?_eq_getElem hj']
    rfl
  rw [List.getElem?_map, List.getElem?_eq_getElem (by omega)] at e4
  simp only [Option.map_some, Option.some.injEq] at e4
  rw [e3] at e4
  injection e4 with e4
  injection e4 with _ e4
  rw [Array.getElem?_eq_getElem (by omega)]
  simp at e2
  rw [e2, e4]
end Go.Proofs.YtdkojpfhmohaeaaDoor
