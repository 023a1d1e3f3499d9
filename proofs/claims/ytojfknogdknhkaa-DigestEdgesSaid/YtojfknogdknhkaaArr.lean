/- Arrays of 32 bytes (a sum), loaded and stored whole: a walk never opens their cells. -/
import Derived.Test.YtojfknogdknhkaaLib
import Derived.Deep.MidRow
import Derived.Deep.WholeRow
import Derived.Laws.CopyOwn
namespace Go.Proofs.Ytojfknogdknhkaa
open Go.RowKit Go.Lib
def Z32 : Array Value := #[.int .u8 0, .int .u8 0, .int .u8 0, .int .u8 0, .int .u8 0, .int .u8 0, .int .u8 0, .int .u8 0, .int .u8 0, .int .u8 0, .int .u8 0, .int .u8 0, .int .u8 0, .int .u8 0, .int .u8 0, .int .u8 0, .int .u8 0, .int .u8 0, .int .u8 0, .int .u8 0, .int .u8 0, .int .u8 0, .int .u8 0, .int .u8 0, .int .u8 0, .int .u8 0, .int .u8 0, .int .u8 0, .int .u8 0, .int .u8 0, .int .u8 0, .int .u8 0]
theorem Try.infoSum : (Try.prog.info? 24).map (·.size) = some 32 := by kernel_rfl
/-- A whole array goes into a block of its size. -/
theorem run_storeSum (w : World) (g : Nat) (cur V : Array Value) (hg : w.heap[g]? = some (.cells cur 24 (0, 0))) (hc : cur.size = 32) (hV : V.size = 32) (h1 : ∀ v ∈ V.toList, v.oneCell' = true) :
    (Instr.storeAt 24 (.pointer (some ⟨g, 0, none⟩)) (.agg V)).run Try.prog w = .ok () (w.setRow g V) := by
  have hst := run_storeCells_from (P := Try.prog) g 24 V.toList 0 cur w hg (by simp; omega) h1
  simp only [List.take_zero, List.nil_append, Array.toArray_toList] at hst
  have hi := Try.infoSum
  cases hq : Try.prog.info? 24 with
  | none => simp [hq] at hi
  | some i =>
    have hs : V.size = i.size := by simp [hq] at hi; omega
    simp [Instr.storeAt, Instr.sureAddr, storeVar, sizeOf, typeInfo, hq, Value.cells, hs, hst]
theorem results_c {P : Program} {fn : Func} {p : Tmp} {ty : TypeId} (h : fn.results = #[.cell p ty]) (tmps : Array Value) (w : World) (g : Nat) (t : TypeId) (cs : Array Value) (fr : Nat × Nat) (d : TypeDesc)
    (hp : tmps.getD p undef = .pointer (some ⟨g, 0, none⟩)) (hg : w.heap[g]? = some (.cells cs t fr))
    (hu : P.underlying ty = some d) (hd : (match d with | .struct _ | .array _ _ => true | _ => false) = true) (hi : (P.info? ty).map (·.size) = some cs.size) :
    (results fn tmps).run P w = .ok (.agg cs) w := by
  have hp' : tmps[p]?.getD undef = .pointer (some ⟨g, 0, none⟩) := by simpa using hp
  simp [results, h, hp', asAddr, run_loadVar_row w g t ty cs fr d hg hu hd hi]
theorem wpList_storeSum {ops : Array Oper} {rest : List Oper} {op : Oper} {a : Act} {w : World} {Q : Exit → Act → World → Prop} (hgd : op.guard = none) (x y : Operand) (ho : op.op = .store 24 x y)
    (g : Nat) (cur V : Array Value) (hx : a.eval x = .pointer (some ⟨g, 0, none⟩)) (hy : a.eval y = .agg V)
    (hg : w.heap[g]? = some (.cells cur 24 (0, 0))) (hc : cur.size = 32) (hV : V.size = 32) (h1 : ∀ v ∈ V.toList, v.oneCell' = true)
    (h : wpList Try.prog ops Q rest (a.put op.dst undef) (w.setRow g V)) : wpList Try.prog ops Q (op :: rest) a w :=
  wpList_plain hgd fun _ hK => by
    have := hK _ _ h
    unfold Oper.wp execOp
    simp only [ho, hx, hy, run_storeSum w g cur V hg hc hV h1, Sem.run_bind, Sem.run_pure, Result.andThen_ok]
    exact this
theorem wpList_loadSum {ops : Array Oper} {rest : List Oper} {op : Oper} {a : Act} {w : World} {Q : Exit → Act → World → Prop} (hgd : op.guard = none) (x : Operand) (ho : op.op = .load 24 x)
    (g : Nat) (V : Array Value) (hx : a.eval x = .pointer (some ⟨g, 0, none⟩)) (hg : w.heap[g]? = some (.cells V 24 (0, 0))) (hV : V.size = 32)
    (h : wpList Try.prog ops Q rest (a.put op.dst (.agg V)) w) : wpList Try.prog ops Q (op :: rest) a w :=
  wpList_load_mid hgd 24 x ho g 0 hx V.toList _ (fun j v hv => by rw [Nat.zero_add, blk_cell hg]; simpa using hv) Try.underlying24 rfl (by rw [Array.length_toList, hV]; exact Try.infoSum) (by simpa using h)
theorem run_indexSum (W : World) (O : Array Value) (i : Nat) (x : Int) (hi : i < 32) (hx : O[i]? = some (.int .u8 x)) : (Instr.index 24 (.agg O) (.int .i64 i)).run Try.prog W = .ok (.int .u8 x) W := by
  simp [Instr.index, asIntOf, run_underlying Try.underlying24, part, Try.sizeOf5, Try.isAgg5, hi, hx]
theorem Turn.setRow {S : Nat → Prop} {a w : World} (h : Turn S a w) {g : Nat} (hp : S g ∨ a.heap.size ≤ g) (cs : Array Value) : Turn S a (w.setRow g cs) :=
  ⟨h.os, h.tape, h.output, by simpa [World.setRow] using h.size, fun i hi hn => by
    have hne : g ≠ i := by rintro rfl; rcases hp with hp | hp; exact hn hp; omega
    refine Eq.trans ?_ (h.block i hi hn)
    simp [World.setRow, Array.getElem?_modify, hne]⟩
end Go.Proofs.Ytojfknogdknhkaa
