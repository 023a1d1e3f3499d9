/-
  No cell of these rows narrows 'for every input' (looked for: loops, veiled, ifaces, maps, wideKeys, modest, calm, conditions, laid).
  DERIVED. THE GIVEN ROWS OF THIS SEAT. 5 by the template 'for every input the law returns true; each argument reads behind the call as it read before'; 0 by the template 'total and deterministic' (their statements: YtpcfgigmchndjaaTotals.lean).
  GIVEN WITH THE SEED: the statements are not yours to turn. If you find one false, say at which input.
  Laid BY PROGRAM, IN A SANDBOX (cutbox-rows.mjs): the forced cells as the released guide's own fill.sh prints them over the translation ead69627d0d1c928… (all of the seat's roots in one cut). By AI agents, Wed Nov 11 2026. No macro, syntax, notation, axiom, sorry.
-/
import Derived.Test.YtpcfgigmchndjaaChecked
import GoSem.Claim
import GoSem.ClaimJoined
import GoSem.ClaimMapViews
import Derived.JoinedTies
import Derived.KernelRfl
namespace Go.Proofs.Ytpcfgigmchndjaa
/- THE CELL 'sum', in the pinned program and in every row, IS THE sha256 OF THE DUMP (.gsa) THAT YtpcfgigmchndjaaProg.lean LOADS. Nothing in Lean hashes anything: it is a label: what it is worth is what the hold of that sum in a sandbox is worth. -/
noncomputable def Try.pinned : Pinned := { name := "ytpcfgigmchndjaa", sum := "ead69627d0d1c928c89089b9356f4a12a45292551e8fac0f505a285b63db8c13", checked := Try.checked }
namespace Rows
def none {H : Type} : Left H := { results := [], args := [] }

/-- 'hindsightlaw15.CellsCount': WHATEVER THE INPUT: true; the input reads as it did. -/
def cellsCountSpec : ChangeSpec := { name := "cellsCount", fn := fun _ => fun
  | [d1, d2] => { results := [.lit (.bool true)], args := [d1, d2] }
  | _ => none }
def cellsCountRow : OpenClaim := { program := "ytpcfgigmchndjaa", sum := "ead69627d0d1c928c89089b9356f4a12a45292551e8fac0f505a285b63db8c13", func := "hindsight/hindsightlaw15.CellsCount", spec := "cellsCount", apart := false }
def CellsCountSaid : Prop := cellsCountRow.holds Try.pinned (OpenSpec.ofChange cellsCountSpec)

/-- ITS FALSE NEIGHBOUR: 'it returns false'. Refute it at one input. -/
def cellsCountWrong : ChangeSpec := { name := "cellsCount", fn := fun _ => fun
  | [d1, d2] => { results := [.lit (.bool false)], args := [d1, d2] }
  | _ => none }
def CellsCountWrongFalsely : Prop := cellsCountRow.holds Try.pinned (OpenSpec.ofChange cellsCountWrong)

/-- 'hindsightlaw15.CellsOne': WHATEVER THE INPUT: true; the input reads as it did. -/
def cellsOneSpec : ChangeSpec := { name := "cellsOne", fn := fun _ => fun
  | [d1, d2, d3] => { results := [.lit (.bool true)], args := [d1, d2, d3] }
  | _ => none }
def cellsOneRow : OpenClaim := { program := "ytpcfgigmchndjaa", sum := "ead69627d0d1c928c89089b9356f4a12a45292551e8fac0f505a285b63db8c13", func := "hindsight/hindsightlaw15.CellsOne", spec := "cellsOne", apart := false }
def CellsOneSaid : Prop := cellsOneRow.holds Try.pinned (OpenSpec.ofChange cellsOneSpec)

/-- ITS FALSE NEIGHBOUR: 'it returns false'. Refute it at one input. -/
def cellsOneWrong : ChangeSpec := { name := "cellsOne", fn := fun _ => fun
  | [d1, d2, d3] => { results := [.lit (.bool false)], args := [d1, d2, d3] }
  | _ => none }
def CellsOneWrongFalsely : Prop := cellsOneRow.holds Try.pinned (OpenSpec.ofChange cellsOneWrong)

/-- 'hindsightlaw15.CellsReads': WHATEVER THE INPUT: true; the input reads as it did. -/
def cellsReadsSpec : ChangeSpec := { name := "cellsReads", fn := fun _ => fun
  | [d1, d2] => { results := [.lit (.bool true)], args := [d1, d2] }
  | _ => none }
def cellsReadsRow : OpenClaim := { program := "ytpcfgigmchndjaa", sum := "ead69627d0d1c928c89089b9356f4a12a45292551e8fac0f505a285b63db8c13", func := "hindsight/hindsightlaw15.CellsReads", spec := "cellsReads", apart := false }
def CellsReadsSaid : Prop := cellsReadsRow.holds Try.pinned (OpenSpec.ofChange cellsReadsSpec)

/-- ITS FALSE NEIGHBOUR: 'it returns false'. Refute it at one input. -/
def cellsReadsWrong : ChangeSpec := { name := "cellsReads", fn := fun _ => fun
  | [d1, d2] => { results := [.lit (.bool false)], args := [d1, d2] }
  | _ => none }
def CellsReadsWrongFalsely : Prop := cellsReadsRow.holds Try.pinned (OpenSpec.ofChange cellsReadsWrong)

/-- 'hindsightlaw15.CellsSwap': WHATEVER THE INPUT: true; the input reads as it did. -/
def cellsSwapSpec : ChangeSpec := { name := "cellsSwap", fn := fun _ => fun
  | [d1, d2] => { results := [.lit (.bool true)], args := [d1, d2] }
  | _ => none }
def cellsSwapRow : OpenClaim := { program := "ytpcfgigmchndjaa", sum := "ead69627d0d1c928c89089b9356f4a12a45292551e8fac0f505a285b63db8c13", func := "hindsight/hindsightlaw15.CellsSwap", spec := "cellsSwap", apart := false }
def CellsSwapSaid : Prop := cellsSwapRow.holds Try.pinned (OpenSpec.ofChange cellsSwapSpec)

/-- ITS FALSE NEIGHBOUR: 'it returns false'. Refute it at one input. -/
def cellsSwapWrong : ChangeSpec := { name := "cellsSwap", fn := fun _ => fun
  | [d1, d2] => { results := [.lit (.bool false)], args := [d1, d2] }
  | _ => none }
def CellsSwapWrongFalsely : Prop := cellsSwapRow.holds Try.pinned (OpenSpec.ofChange cellsSwapWrong)

/-- 'hindsightlaw15.CellsPlays': WHATEVER THE INPUT: true; the input reads as it did. -/
def cellsPlaysSpec : ChangeSpec := { name := "cellsPlays", fn := fun _ => fun
  | [d1, d2] => { results := [.lit (.bool true)], args := [d1, d2] }
  | _ => none }
def cellsPlaysRow : OpenClaim := { program := "ytpcfgigmchndjaa", sum := "ead69627d0d1c928c89089b9356f4a12a45292551e8fac0f505a285b63db8c13", func := "hindsight/hindsightlaw15.CellsPlays", spec := "cellsPlays", apart := false }
def CellsPlaysSaid : Prop := cellsPlaysRow.holds Try.pinned (OpenSpec.ofChange cellsPlaysSpec)

/-- ITS FALSE NEIGHBOUR: 'it returns false'. Refute it at one input. -/
def cellsPlaysWrong : ChangeSpec := { name := "cellsPlays", fn := fun _ => fun
  | [d1, d2] => { results := [.lit (.bool false)], args := [d1, d2] }
  | _ => none }
def CellsPlaysWrongFalsely : Prop := cellsPlaysRow.holds Try.pinned (OpenSpec.ofChange cellsPlaysWrong)

/- THE SECOND FORM. 'bulk': how many values and letters a reading holds, each counted each time it is reached (what is shared counts as often as it is met; a slice's spare places count too). A statement '..UptoSaid' is the law's where the arguments, and the package variables that the reading takes, are together of bulk at most 1048576: NARROWER than '..Said'. Prove '..Said' where nothing that the law and all that it calls make is longer than what came in: it says more and counts as full. Else prove '..UptoSaid'. A law counts once. -/
mutual
def uptoBulk {H : Type} : DataW H → Nat
  | .lit (.string bytes) => bytes.length + 1
  | .lit _ => 1
  | .nil => 1
  | .ptr d => uptoBulk d + 1
  | .slice elems spare => uptoBulkAll elems + uptoBulkAll spare + 1
  | .agg parts => uptoBulkAll parts + 1
  | .iface _ d => uptoBulk d + 1
  | .map entries => uptoBulkEntries entries + 1
  | .held _ => 1
def uptoBulkAll {H : Type} : List (DataW H) → Nat
  | [] => 0
  | d :: r => uptoBulk d + uptoBulkAll r
def uptoBulkEntries {H : Type} : List (Lit × DataW H) → Nat
  | [] => 0
  | x :: r => uptoBulkEntry x + uptoBulkEntries r
def uptoBulkEntry {H : Type} : Lit × DataW H → Nat
  | (.string bytes, d) => bytes.length + uptoBulk d + 1
  | (_, d) => uptoBulk d + 1
 end
def uptoSmall : (H : Type) → List (DataW H) → Bool := fun _ ds => decide (uptoBulkAll ds ≤ 1048576)
def OpenSpec.upto (s : _root_.Go.ChangeSpec) : _root_.Go.OpenSpec := { _root_.Go.OpenSpec.ofChange s with cond := some uptoSmall }

/-- 'hindsightlaw15.CellsCount', WHERE WHAT IT READS IS OF BULK AT MOST 1048576: true; the input reads as it did. -/
def cellsCountUptoRow : OpenClaim := { program := "ytpcfgigmchndjaa", sum := "ead69627d0d1c928c89089b9356f4a12a45292551e8fac0f505a285b63db8c13", func := "hindsight/hindsightlaw15.CellsCount", spec := "cellsCount", apart := false, narrowed := true }
def CellsCountUptoSaid : Prop := cellsCountUptoRow.holds Try.pinned (OpenSpec.upto cellsCountSpec)

/-- 'hindsightlaw15.CellsOne', WHERE WHAT IT READS IS OF BULK AT MOST 1048576: true; the input reads as it did. -/
def cellsOneUptoRow : OpenClaim := { program := "ytpcfgigmchndjaa", sum := "ead69627d0d1c928c89089b9356f4a12a45292551e8fac0f505a285b63db8c13", func := "hindsight/hindsightlaw15.CellsOne", spec := "cellsOne", apart := false, narrowed := true }
def CellsOneUptoSaid : Prop := cellsOneUptoRow.holds Try.pinned (OpenSpec.upto cellsOneSpec)

/-- 'hindsightlaw15.CellsReads', WHERE WHAT IT READS IS OF BULK AT MOST 1048576: true; the input reads as it did. -/
def cellsReadsUptoRow : OpenClaim := { program := "ytpcfgigmchndjaa", sum := "ead69627d0d1c928c89089b9356f4a12a45292551e8fac0f505a285b63db8c13", func := "hindsight/hindsightlaw15.CellsReads", spec := "cellsReads", apart := false, narrowed := true }
def CellsReadsUptoSaid : Prop := cellsReadsUptoRow.holds Try.pinned (OpenSpec.upto cellsReadsSpec)

/-- 'hindsightlaw15.CellsSwap', WHERE WHAT IT READS IS OF BULK AT MOST 1048576: true; the input reads as it did. -/
def cellsSwapUptoRow : OpenClaim := { program := "ytpcfgigmchndjaa", sum := "ead69627d0d1c928c89089b9356f4a12a45292551e8fac0f505a285b63db8c13", func := "hindsight/hindsightlaw15.CellsSwap", spec := "cellsSwap", apart := false, narrowed := true }
def CellsSwapUptoSaid : Prop := cellsSwapUptoRow.holds Try.pinned (OpenSpec.upto cellsSwapSpec)

/-- 'hindsightlaw15.CellsPlays', WHERE WHAT IT READS IS OF BULK AT MOST 1048576: true; the input reads as it did. -/
def cellsPlaysUptoRow : OpenClaim := { program := "ytpcfgigmchndjaa", sum := "ead69627d0d1c928c89089b9356f4a12a45292551e8fac0f505a285b63db8c13", func := "hindsight/hindsightlaw15.CellsPlays", spec := "cellsPlays", apart := false, narrowed := true }
def CellsPlaysUptoSaid : Prop := cellsPlaysUptoRow.holds Try.pinned (OpenSpec.upto cellsPlaysSpec)

end Rows
end Go.Proofs.Ytpcfgigmchndjaa
