/-
  No cell of these rows narrows 'for every input' (looked for: loops, veiled, ifaces, maps, wideKeys, modest, calm, conditions, laid).
  DERIVED. THE GIVEN ROWS OF THIS SEAT. 4 by the template 'for every input the law returns true; each argument reads behind the call as it read before'; 0 by the template 'total and deterministic' (their statements: YtbcdjdbdjcflgaaTotals.lean).
  GIVEN WITH THE SEED: the statements are not yours to turn. If you find one false, say at which input.
  Laid BY PROGRAM, IN A SANDBOX (cutbox-rows.mjs): the forced cells as the released guide's own fill.sh prints them over the translation 0380ebc250715547… (all of the seat's roots in one cut). By AI agents, Wed Nov 11 2026. No macro, syntax, notation, axiom, sorry.
-/
import Derived.Test.YtbcdjdbdjcflgaaChecked
import GoSem.Claim
import GoSem.ClaimJoined
import GoSem.ClaimMapViews
import Derived.JoinedTies
import Derived.KernelRfl
namespace Go.Proofs.Ytbcdjdbdjcflgaa
/- THE CELL 'sum', in the pinned program and in every row, IS THE sha256 OF THE DUMP (.gsa) THAT YtbcdjdbdjcflgaaProg.lean LOADS. Nothing in Lean hashes anything: it is a label: what it is worth is what the hold of that sum in a sandbox is worth. -/
noncomputable def Try.pinned : Pinned := { name := "ytbcdjdbdjcflgaa", sum := "0380ebc250715547de0533ee2d78153559bac8ae4fab29b2736e6fd9b311b3be", checked := Try.checked }
namespace Rows
def none {H : Type} : Left H := { results := [], args := [] }

/-- 'hindsightlaw05.TextFull': WHATEVER THE INPUT: true; the input reads as it did. -/
def textFullSpec : ChangeSpec := { name := "textFull", fn := fun _ => fun
  | [d1, d2] => { results := [.lit (.bool true)], args := [d1, d2] }
  | _ => none }
def textFullRow : OpenClaim := { program := "ytbcdjdbdjcflgaa", sum := "0380ebc250715547de0533ee2d78153559bac8ae4fab29b2736e6fd9b311b3be", func := "hindsight/hindsightlaw05.TextFull", spec := "textFull", apart := false }
def TextFullSaid : Prop := textFullRow.holds Try.pinned (OpenSpec.ofChange textFullSpec)

/-- ITS FALSE NEIGHBOUR: 'it returns false'. Refute it at one input. -/
def textFullWrong : ChangeSpec := { name := "textFull", fn := fun _ => fun
  | [d1, d2] => { results := [.lit (.bool false)], args := [d1, d2] }
  | _ => none }
def TextFullWrongFalsely : Prop := textFullRow.holds Try.pinned (OpenSpec.ofChange textFullWrong)

/-- 'hindsightlaw05.TextBack': WHATEVER THE INPUT: true; the input reads as it did. -/
def textBackSpec : ChangeSpec := { name := "textBack", fn := fun _ => fun
  | [d] => { results := [.lit (.bool true)], args := [d] }
  | _ => none }
def textBackRow : OpenClaim := { program := "ytbcdjdbdjcflgaa", sum := "0380ebc250715547de0533ee2d78153559bac8ae4fab29b2736e6fd9b311b3be", func := "hindsight/hindsightlaw05.TextBack", spec := "textBack", apart := false }
def TextBackSaid : Prop := textBackRow.holds Try.pinned (OpenSpec.ofChange textBackSpec)

/-- ITS FALSE NEIGHBOUR: 'it returns false'. Refute it at one input. -/
def textBackWrong : ChangeSpec := { name := "textBack", fn := fun _ => fun
  | [d] => { results := [.lit (.bool false)], args := [d] }
  | _ => none }
def TextBackWrongFalsely : Prop := textBackRow.holds Try.pinned (OpenSpec.ofChange textBackWrong)

/-- 'hindsightlaw05.TextPlays': WHATEVER THE INPUT: true; the input reads as it did. -/
def textPlaysSpec : ChangeSpec := { name := "textPlays", fn := fun _ => fun
  | [d] => { results := [.lit (.bool true)], args := [d] }
  | _ => none }
def textPlaysRow : OpenClaim := { program := "ytbcdjdbdjcflgaa", sum := "0380ebc250715547de0533ee2d78153559bac8ae4fab29b2736e6fd9b311b3be", func := "hindsight/hindsightlaw05.TextPlays", spec := "textPlays", apart := false }
def TextPlaysSaid : Prop := textPlaysRow.holds Try.pinned (OpenSpec.ofChange textPlaysSpec)

/-- ITS FALSE NEIGHBOUR: 'it returns false'. Refute it at one input. -/
def textPlaysWrong : ChangeSpec := { name := "textPlays", fn := fun _ => fun
  | [d] => { results := [.lit (.bool false)], args := [d] }
  | _ => none }
def TextPlaysWrongFalsely : Prop := textPlaysRow.holds Try.pinned (OpenSpec.ofChange textPlaysWrong)

/-- 'hindsightlaw05.TextParts': WHATEVER THE INPUT: true; the input reads as it did. -/
def textPartsSpec : ChangeSpec := { name := "textParts", fn := fun _ => fun
  | [d1, d2, d3, d4] => { results := [.lit (.bool true)], args := [d1, d2, d3, d4] }
  | _ => none }
def textPartsRow : OpenClaim := { program := "ytbcdjdbdjcflgaa", sum := "0380ebc250715547de0533ee2d78153559bac8ae4fab29b2736e6fd9b311b3be", func := "hindsight/hindsightlaw05.TextParts", spec := "textParts", apart := false }
def TextPartsSaid : Prop := textPartsRow.holds Try.pinned (OpenSpec.ofChange textPartsSpec)

/-- ITS FALSE NEIGHBOUR: 'it returns false'. Refute it at one input. -/
def textPartsWrong : ChangeSpec := { name := "textParts", fn := fun _ => fun
  | [d1, d2, d3, d4] => { results := [.lit (.bool false)], args := [d1, d2, d3, d4] }
  | _ => none }
def TextPartsWrongFalsely : Prop := textPartsRow.holds Try.pinned (OpenSpec.ofChange textPartsWrong)

/- THE SECOND FORM. 'bulk': how many values and letters a reading holds, each counted each time it is reached (what is shared counts as often as it is met; a slice's spare places count too). A statement '..UptoSaid' is the law's where the arguments, and the package variables that the reading takes, are together of bulk at most 1048576: NARROWER than '..Said'. Prove '..Said' where nothing that the law and all that it calls make is longer than what came in: it says more and counts as full. Else prove '..UptoSaid'. A law counts once. -/
mutual
def uptoBulk {H : Type} : DataW H → Nat
  | .lit (.string bytes) => bytes.length + 1
  | .lit _ => 1
  | .nil => 1
  | .ptr d => uptoBulk d + 1
  | .slice elems spare => uptoBulkAll elems + uptoBulkAll spare + 1
  | .agg parts => uptoBulkAll parts + 1
  | .iface _ d => uptoBulk d + 1
  | .map entries => uptoBulkEntries entries + 1
  | .held _ => 1
def uptoBulkAll {H : Type} : List (DataW H) → Nat
  | [] => 0
  | d :: r => uptoBulk d + uptoBulkAll r
def uptoBulkEntries {H : Type} : List (Lit × DataW H) → Nat
  | [] => 0
  | x :: r => uptoBulkEntry x + uptoBulkEntries r
def uptoBulkEntry {H : Type} : Lit × DataW H → Nat
  | (.string bytes, d) => bytes.length + uptoBulk d + 1
  | (_, d) => uptoBulk d + 1
 end
def uptoSmall : (H : Type) → List (DataW H) → Bool := fun _ ds => decide (uptoBulkAll ds ≤ 1048576)
def OpenSpec.upto (s : _root_.Go.ChangeSpec) : _root_.Go.OpenSpec := { _root_.Go.OpenSpec.ofChange s with cond := some uptoSmall }

/-- 'hindsightlaw05.TextFull', WHERE WHAT IT READS IS OF BULK AT MOST 1048576: true; the input reads as it did. -/
def textFullUptoRow : OpenClaim := { program := "ytbcdjdbdjcflgaa", sum := "0380ebc250715547de0533ee2d78153559bac8ae4fab29b2736e6fd9b311b3be", func := "hindsight/hindsightlaw05.TextFull", spec := "textFull", apart := false, narrowed := true }
def TextFullUptoSaid : Prop := textFullUptoRow.holds Try.pinned (OpenSpec.upto textFullSpec)

/-- 'hindsightlaw05.TextBack', WHERE WHAT IT READS IS OF BULK AT MOST 1048576: true; the input reads as it did. -/
def textBackUptoRow : OpenClaim := { program := "ytbcdjdbdjcflgaa", sum := "0380ebc250715547de0533ee2d78153559bac8ae4fab29b2736e6fd9b311b3be", func := "hindsight/hindsightlaw05.TextBack", spec := "textBack", apart := false, narrowed := true }
def TextBackUptoSaid : Prop := textBackUptoRow.holds Try.pinned (OpenSpec.upto textBackSpec)

/-- 'hindsightlaw05.TextPlays', WHERE WHAT IT READS IS OF BULK AT MOST 1048576: true; the input reads as it did. -/
def textPlaysUptoRow : OpenClaim := { program := "ytbcdjdbdjcflgaa", sum := "0380ebc250715547de0533ee2d78153559bac8ae4fab29b2736e6fd9b311b3be", func := "hindsight/hindsightlaw05.TextPlays", spec := "textPlays", apart := false, narrowed := true }
def TextPlaysUptoSaid : Prop := textPlaysUptoRow.holds Try.pinned (OpenSpec.upto textPlaysSpec)

/-- 'hindsightlaw05.TextParts', WHERE WHAT IT READS IS OF BULK AT MOST 1048576: true; the input reads as it did. -/
def textPartsUptoRow : OpenClaim := { program := "ytbcdjdbdjcflgaa", sum := "0380ebc250715547de0533ee2d78153559bac8ae4fab29b2736e6fd9b311b3be", func := "hindsight/hindsightlaw05.TextParts", spec := "textParts", apart := false, narrowed := true }
def TextPartsUptoSaid : Prop := textPartsUptoRow.holds Try.pinned (OpenSpec.upto textPartsSpec)

end Rows
end Go.Proofs.Ytbcdjdbdjcflgaa
