/-
  No cell of these rows narrows 'for every input' (looked for: loops, veiled, ifaces, maps, wideKeys, modest, calm, conditions, laid).
  DERIVED. THE GIVEN ROWS OF THIS SEAT. 3 by the template 'for every input the law returns true; each argument reads behind the call as it read before'; 0 by the template 'total and deterministic' (their statements: YtianagpneoopeaaTotals.lean).
  GIVEN WITH THE SEED: the statements are not yours to turn. If you find one false, say at which input.
  Laid BY PROGRAM, IN A SANDBOX (cutbox-rows.mjs): the forced cells as the released guide's own fill.sh prints them over the translation de870a9b91bc9a39… (all of the seat's roots in one cut). By AI agents, Wed Nov 11 2026. No macro, syntax, notation, axiom, sorry.
-/
import Derived.Test.YtianagpneoopeaaChecked
import GoSem.Claim
import GoSem.ClaimJoined
import GoSem.ClaimMapViews
import Derived.JoinedTies
import Derived.KernelRfl
namespace Go.Proofs.Ytianagpneoopeaa
/- THE CELL 'sum', in the pinned program and in every row, IS THE sha256 OF THE DUMP (.gsa) THAT YtianagpneoopeaaProg.lean LOADS. Nothing in Lean hashes anything: it is a label: what it is worth is what the hold of that sum in a sandbox is worth. -/
noncomputable def Try.pinned : Pinned := { name := "ytianagpneoopeaa", sum := "de870a9b91bc9a39da7c459d3f0501484fd4ca39309b73a9f07c470f445ce6e3", checked := Try.checked }
namespace Rows
def none {H : Type} : Left H := { results := [], args := [] }

/-- 'hindsightlaw07.StockFull': WHATEVER THE INPUT: true; the input reads as it did. -/
def stockFullSpec : ChangeSpec := { name := "stockFull", fn := fun _ => fun
  | [d] => { results := [.lit (.bool true)], args := [d] }
  | _ => none }
def stockFullRow : OpenClaim := { program := "ytianagpneoopeaa", sum := "de870a9b91bc9a39da7c459d3f0501484fd4ca39309b73a9f07c470f445ce6e3", func := "hindsight/hindsightlaw07.StockFull", spec := "stockFull", unfollowed := true, recurses := true, apart := false }
def StockFullSaid : Prop := stockFullRow.holds Try.pinned (OpenSpec.ofChange stockFullSpec)

/-- ITS FALSE NEIGHBOUR: 'it returns false'. Refute it at one input. -/
def stockFullWrong : ChangeSpec := { name := "stockFull", fn := fun _ => fun
  | [d] => { results := [.lit (.bool false)], args := [d] }
  | _ => none }
def StockFullWrongFalsely : Prop := stockFullRow.holds Try.pinned (OpenSpec.ofChange stockFullWrong)

/-- 'hindsightlaw07.StockBack': WHATEVER THE INPUT: true; the input reads as it did. -/
def stockBackSpec : ChangeSpec := { name := "stockBack", fn := fun _ => fun
  | [d] => { results := [.lit (.bool true)], args := [d] }
  | _ => none }
def stockBackRow : OpenClaim := { program := "ytianagpneoopeaa", sum := "de870a9b91bc9a39da7c459d3f0501484fd4ca39309b73a9f07c470f445ce6e3", func := "hindsight/hindsightlaw07.StockBack", spec := "stockBack", unfollowed := true, recurses := true, apart := false }
def StockBackSaid : Prop := stockBackRow.holds Try.pinned (OpenSpec.ofChange stockBackSpec)

/-- ITS FALSE NEIGHBOUR: 'it returns false'. Refute it at one input. -/
def stockBackWrong : ChangeSpec := { name := "stockBack", fn := fun _ => fun
  | [d] => { results := [.lit (.bool false)], args := [d] }
  | _ => none }
def StockBackWrongFalsely : Prop := stockBackRow.holds Try.pinned (OpenSpec.ofChange stockBackWrong)

/-- 'hindsightlaw07.StockParts': WHATEVER THE INPUT: true; the input reads as it did. -/
def stockPartsSpec : ChangeSpec := { name := "stockParts", fn := fun _ => fun
  | [d1, d2, d3, d4] => { results := [.lit (.bool true)], args := [d1, d2, d3, d4] }
  | _ => none }
def stockPartsRow : OpenClaim := { program := "ytianagpneoopeaa", sum := "de870a9b91bc9a39da7c459d3f0501484fd4ca39309b73a9f07c470f445ce6e3", func := "hindsight/hindsightlaw07.StockParts", spec := "stockParts", unfollowed := true, recurses := true, apart := false }
def StockPartsSaid : Prop := stockPartsRow.holds Try.pinned (OpenSpec.ofChange stockPartsSpec)

/-- ITS FALSE NEIGHBOUR: 'it returns false'. Refute it at one input. -/
def stockPartsWrong : ChangeSpec := { name := "stockParts", fn := fun _ => fun
  | [d1, d2, d3, d4] => { results := [.lit (.bool false)], args := [d1, d2, d3, d4] }
  | _ => none }
def StockPartsWrongFalsely : Prop := stockPartsRow.holds Try.pinned (OpenSpec.ofChange stockPartsWrong)

/- THE SECOND FORM. 'bulk': how many values and letters a reading holds, each counted each time it is reached (what is shared counts as often as it is met; a slice's spare places count too). A statement '..UptoSaid' is the law's where the arguments, and the package variables that the reading takes, are together of bulk at most 1048576: NARROWER than '..Said'. Prove '..Said' where nothing that the law and all that it calls make is longer than what came in: it says more and counts as full. Else prove '..UptoSaid'. A law counts once. -/
mutual
def uptoBulk {H : Type} : DataW H → Nat
  | .lit (.string bytes) => bytes.length + 1
  | .lit _ => 1
  | .nil => 1
  | .ptr d => uptoBulk d + 1
  | .slice elems spare => uptoBulkAll elems + uptoBulkAll spare + 1
  | .agg parts => uptoBulkAll parts + 1
  | .iface _ d => uptoBulk d + 1
  | .map entries => uptoBulkEntries entries + 1
  | .held _ => 1
def uptoBulkAll {H : Type} : List (DataW H) → Nat
  | [] => 0
  | d :: r => uptoBulk d + uptoBulkAll r
def uptoBulkEntries {H : Type} : List (Lit × DataW H) → Nat
  | [] => 0
  | x :: r => uptoBulkEntry x + uptoBulkEntries r
def uptoBulkEntry {H : Type} : Lit × DataW H → Nat
  | (.string bytes, d) => bytes.length + uptoBulk d + 1
  | (_, d) => uptoBulk d + 1
 end
def uptoSmall : (H : Type) → List (DataW H) → Bool := fun _ ds => decide (uptoBulkAll ds ≤ 1048576)
def OpenSpec.upto (s : _root_.Go.ChangeSpec) : _root_.Go.OpenSpec := { _root_.Go.OpenSpec.ofChange s with cond := some uptoSmall }

/-- 'hindsightlaw07.StockFull', WHERE WHAT IT READS IS OF BULK AT MOST 1048576: true; the input reads as it did. -/
def stockFullUptoRow : OpenClaim := { program := "ytianagpneoopeaa", sum := "de870a9b91bc9a39da7c459d3f0501484fd4ca39309b73a9f07c470f445ce6e3", func := "hindsight/hindsightlaw07.StockFull", spec := "stockFull", unfollowed := true, recurses := true, apart := false, narrowed := true }
def StockFullUptoSaid : Prop := stockFullUptoRow.holds Try.pinned (OpenSpec.upto stockFullSpec)

/-- 'hindsightlaw07.StockBack', WHERE WHAT IT READS IS OF BULK AT MOST 1048576: true; the input reads as it did. -/
def stockBackUptoRow : OpenClaim := { program := "ytianagpneoopeaa", sum := "de870a9b91bc9a39da7c459d3f0501484fd4ca39309b73a9f07c470f445ce6e3", func := "hindsight/hindsightlaw07.StockBack", spec := "stockBack", unfollowed := true, recurses := true, apart := false, narrowed := true }
def StockBackUptoSaid : Prop := stockBackUptoRow.holds Try.pinned (OpenSpec.upto stockBackSpec)

/-- 'hindsightlaw07.StockParts', WHERE WHAT IT READS IS OF BULK AT MOST 1048576: true; the input reads as it did. -/
def stockPartsUptoRow : OpenClaim := { program := "ytianagpneoopeaa", sum := "de870a9b91bc9a39da7c459d3f0501484fd4ca39309b73a9f07c470f445ce6e3", func := "hindsight/hindsightlaw07.StockParts", spec := "stockParts", unfollowed := true, recurses := true, apart := false, narrowed := true }
def StockPartsUptoSaid : Prop := stockPartsUptoRow.holds Try.pinned (OpenSpec.upto stockPartsSpec)

end Rows
end Go.Proofs.Ytianagpneoopeaa
