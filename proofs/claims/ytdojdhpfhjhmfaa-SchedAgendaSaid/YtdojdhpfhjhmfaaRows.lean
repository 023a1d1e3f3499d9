/-
  No cell of these rows narrows 'for every input' (looked for: loops, veiled, ifaces, maps, wideKeys, modest, calm, conditions, laid).
  DERIVED. THE GIVEN ROWS OF THIS SEAT. 5 by the template 'for every input the law returns true; each argument reads behind the call as it read before'; 0 by the template 'total and deterministic' (their statements: YtdojdhpfhjhmfaaTotals.lean).
  GIVEN WITH THE SEED: the statements are not yours to turn. If you find one false, say at which input.
  Laid BY PROGRAM, IN A SANDBOX (cutbox-rows.mjs): the forced cells as the released guide's own fill.sh prints them over the translation 036bf6e621c307b6… (all of the seat's roots in one cut). By AI agents, Wed Nov 11 2026. No macro, syntax, notation, axiom, sorry.
-/
import Derived.Test.YtdojdhpfhjhmfaaChecked
import GoSem.Claim
import GoSem.ClaimJoined
import GoSem.ClaimMapViews
import Derived.JoinedTies
import Derived.KernelRfl
namespace Go.Proofs.Ytdojdhpfhjhmfaa
/- THE CELL 'sum', in the pinned program and in every row, IS THE sha256 OF THE DUMP (.gsa) THAT YtdojdhpfhjhmfaaProg.lean LOADS. Nothing in Lean hashes anything: it is a label: what it is worth is what the hold of that sum in a sandbox is worth. -/
noncomputable def Try.pinned : Pinned := { name := "ytdojdhpfhjhmfaa", sum := "036bf6e621c307b6d170eb9a05fc03016f958a30e171f7f756d9f9fc91c63ad3", checked := Try.checked }
namespace Rows
def none {H : Type} : Left H := { results := [], args := [] }

/-- 'hindsightlaw17.SchedShare': WHATEVER THE INPUT: true; the input reads as it did. -/
def schedShareSpec : ChangeSpec := { name := "schedShare", fn := fun _ => fun
  | [d1, d2] => { results := [.lit (.bool true)], args := [d1, d2] }
  | _ => none }
def schedShareRow : OpenClaim := { program := "ytdojdhpfhjhmfaa", sum := "036bf6e621c307b6d170eb9a05fc03016f958a30e171f7f756d9f9fc91c63ad3", func := "hindsight/hindsightlaw17.SchedShare", spec := "schedShare", unfollowed := true, recurses := true, apart := false }
def SchedShareSaid : Prop := schedShareRow.holds Try.pinned (OpenSpec.ofChange schedShareSpec)

/-- ITS FALSE NEIGHBOUR: 'it returns false'. Refute it at one input. -/
def schedShareWrong : ChangeSpec := { name := "schedShare", fn := fun _ => fun
  | [d1, d2] => { results := [.lit (.bool false)], args := [d1, d2] }
  | _ => none }
def SchedShareWrongFalsely : Prop := schedShareRow.holds Try.pinned (OpenSpec.ofChange schedShareWrong)

/-- 'hindsightlaw17.SchedFair': WHATEVER THE INPUT: true; the input reads as it did. -/
def schedFairSpec : ChangeSpec := { name := "schedFair", fn := fun _ => fun
  | [d1, d2, d3] => { results := [.lit (.bool true)], args := [d1, d2, d3] }
  | _ => none }
def schedFairRow : OpenClaim := { program := "ytdojdhpfhjhmfaa", sum := "036bf6e621c307b6d170eb9a05fc03016f958a30e171f7f756d9f9fc91c63ad3", func := "hindsight/hindsightlaw17.SchedFair", spec := "schedFair", unfollowed := true, recurses := true, apart := false }
def SchedFairSaid : Prop := schedFairRow.holds Try.pinned (OpenSpec.ofChange schedFairSpec)

/-- ITS FALSE NEIGHBOUR: 'it returns false'. Refute it at one input. -/
def schedFairWrong : ChangeSpec := { name := "schedFair", fn := fun _ => fun
  | [d1, d2, d3] => { results := [.lit (.bool false)], args := [d1, d2, d3] }
  | _ => none }
def SchedFairWrongFalsely : Prop := schedFairRow.holds Try.pinned (OpenSpec.ofChange schedFairWrong)

/-- 'hindsightlaw17.SchedPlays': WHATEVER THE INPUT: true; the input reads as it did. -/
def schedPlaysSpec : ChangeSpec := { name := "schedPlays", fn := fun _ => fun
  | [d1, d2] => { results := [.lit (.bool true)], args := [d1, d2] }
  | _ => none }
def schedPlaysRow : OpenClaim := { program := "ytdojdhpfhjhmfaa", sum := "036bf6e621c307b6d170eb9a05fc03016f958a30e171f7f756d9f9fc91c63ad3", func := "hindsight/hindsightlaw17.SchedPlays", spec := "schedPlays", unfollowed := true, recurses := true, apart := false }
def SchedPlaysSaid : Prop := schedPlaysRow.holds Try.pinned (OpenSpec.ofChange schedPlaysSpec)

/-- ITS FALSE NEIGHBOUR: 'it returns false'. Refute it at one input. -/
def schedPlaysWrong : ChangeSpec := { name := "schedPlays", fn := fun _ => fun
  | [d1, d2] => { results := [.lit (.bool false)], args := [d1, d2] }
  | _ => none }
def SchedPlaysWrongFalsely : Prop := schedPlaysRow.holds Try.pinned (OpenSpec.ofChange schedPlaysWrong)

/-- 'hindsightlaw17.SchedSet': WHATEVER THE INPUT: true; the input reads as it did. -/
def schedSetSpec : ChangeSpec := { name := "schedSet", fn := fun _ => fun
  | [d1, d2, d3, d4] => { results := [.lit (.bool true)], args := [d1, d2, d3, d4] }
  | _ => none }
def schedSetRow : OpenClaim := { program := "ytdojdhpfhjhmfaa", sum := "036bf6e621c307b6d170eb9a05fc03016f958a30e171f7f756d9f9fc91c63ad3", func := "hindsight/hindsightlaw17.SchedSet", spec := "schedSet", unfollowed := true, recurses := true, apart := false }
def SchedSetSaid : Prop := schedSetRow.holds Try.pinned (OpenSpec.ofChange schedSetSpec)

/-- ITS FALSE NEIGHBOUR: 'it returns false'. Refute it at one input. -/
def schedSetWrong : ChangeSpec := { name := "schedSet", fn := fun _ => fun
  | [d1, d2, d3, d4] => { results := [.lit (.bool false)], args := [d1, d2, d3, d4] }
  | _ => none }
def SchedSetWrongFalsely : Prop := schedSetRow.holds Try.pinned (OpenSpec.ofChange schedSetWrong)

/-- 'hindsightlaw17.SchedAgenda': WHATEVER THE INPUT: true; the input reads as it did. -/
def schedAgendaSpec : ChangeSpec := { name := "schedAgenda", fn := fun _ => fun
  | [d1, d2] => { results := [.lit (.bool true)], args := [d1, d2] }
  | _ => none }
def schedAgendaRow : OpenClaim := { program := "ytdojdhpfhjhmfaa", sum := "036bf6e621c307b6d170eb9a05fc03016f958a30e171f7f756d9f9fc91c63ad3", func := "hindsight/hindsightlaw17.SchedAgenda", spec := "schedAgenda", unfollowed := true, recurses := true, apart := false }
def SchedAgendaSaid : Prop := schedAgendaRow.holds Try.pinned (OpenSpec.ofChange schedAgendaSpec)

/-- ITS FALSE NEIGHBOUR: 'it returns false'. Refute it at one input. -/
def schedAgendaWrong : ChangeSpec := { name := "schedAgenda", fn := fun _ => fun
  | [d1, d2] => { results := [.lit (.bool false)], args := [d1, d2] }
  | _ => none }
def SchedAgendaWrongFalsely : Prop := schedAgendaRow.holds Try.pinned (OpenSpec.ofChange schedAgendaWrong)

/- THE SECOND FORM. 'bulk': how many values and letters a reading holds, each counted each time it is reached (what is shared counts as often as it is met; a slice's spare places count too). A statement '..UptoSaid' is the law's where the arguments, and the package variables that the reading takes, are together of bulk at most 1048576: NARROWER than '..Said'. Prove '..Said' where nothing that the law and all that it calls make is longer than what came in: it says more and counts as full. Else prove '..UptoSaid'. A law counts once. -/
mutual
def uptoBulk {H : Type} : DataW H → Nat
  | .lit (.string bytes) => bytes.length + 1
  | .lit _ => 1
  | .nil => 1
  | .ptr d => uptoBulk d + 1
  | .slice elems spare => uptoBulkAll elems + uptoBulkAll spare + 1
  | .agg parts => uptoBulkAll parts + 1
  | .iface _ d => uptoBulk d + 1
  | .map entries => uptoBulkEntries entries + 1
  | .held _ => 1
def uptoBulkAll {H : Type} : List (DataW H) → Nat
  | [] => 0
  | d :: r => uptoBulk d + uptoBulkAll r
def uptoBulkEntries {H : Type} : List (Lit × DataW H) → Nat
  | [] => 0
  | x :: r => uptoBulkEntry x + uptoBulkEntries r
def uptoBulkEntry {H : Type} : Lit × DataW H → Nat
  | (.string bytes, d) => bytes.length + uptoBulk d + 1
  | (_, d) => uptoBulk d + 1
 end
def uptoSmall : (H : Type) → List (DataW H) → Bool := fun _ ds => decide (uptoBulkAll ds ≤ 1048576)
def OpenSpec.upto (s : _root_.Go.ChangeSpec) : _root_.Go.OpenSpec := { _root_.Go.OpenSpec.ofChange s with cond := some uptoSmall }

/-- 'hindsightlaw17.SchedShare', WHERE WHAT IT READS IS OF BULK AT MOST 1048576: true; the input reads as it did. -/
def schedShareUptoRow : OpenClaim := { program := "ytdojdhpfhjhmfaa", sum := "036bf6e621c307b6d170eb9a05fc03016f958a30e171f7f756d9f9fc91c63ad3", func := "hindsight/hindsightlaw17.SchedShare", spec := "schedShare", unfollowed := true, recurses := true, apart := false, narrowed := true }
def SchedShareUptoSaid : Prop := schedShareUptoRow.holds Try.pinned (OpenSpec.upto schedShareSpec)

/-- 'hindsightlaw17.SchedFair', WHERE WHAT IT READS IS OF BULK AT MOST 1048576: true; the input reads as it did. -/
def schedFairUptoRow : OpenClaim := { program := "ytdojdhpfhjhmfaa", sum := "036bf6e621c307b6d170eb9a05fc03016f958a30e171f7f756d9f9fc91c63ad3", func := "hindsight/hindsightlaw17.SchedFair", spec := "schedFair", unfollowed := true, recurses := true, apart := false, narrowed := true }
def SchedFairUptoSaid : Prop := schedFairUptoRow.holds Try.pinned (OpenSpec.upto schedFairSpec)

/-- 'hindsightlaw17.SchedPlays', WHERE WHAT IT READS IS OF BULK AT MOST 1048576: true; the input reads as it did. -/
def schedPlaysUptoRow : OpenClaim := { program := "ytdojdhpfhjhmfaa", sum := "036bf6e621c307b6d170eb9a05fc03016f958a30e171f7f756d9f9fc91c63ad3", func := "hindsight/hindsightlaw17.SchedPlays", spec := "schedPlays", unfollowed := true, recurses := true, apart := false, narrowed := true }
def SchedPlaysUptoSaid : Prop := schedPlaysUptoRow.holds Try.pinned (OpenSpec.upto schedPlaysSpec)

/-- 'hindsightlaw17.SchedSet', WHERE WHAT IT READS IS OF BULK AT MOST 1048576: true; the input reads as it did. -/
def schedSetUptoRow : OpenClaim := { program := "ytdojdhpfhjhmfaa", sum := "036bf6e621c307b6d170eb9a05fc03016f958a30e171f7f756d9f9fc91c63ad3", func := "hindsight/hindsightlaw17.SchedSet", spec := "schedSet", unfollowed := true, recurses := true, apart := false, narrowed := true }
def SchedSetUptoSaid : Prop := schedSetUptoRow.holds Try.pinned (OpenSpec.upto schedSetSpec)

/-- 'hindsightlaw17.SchedAgenda', WHERE WHAT IT READS IS OF BULK AT MOST 1048576: true; the input reads as it did. -/
def schedAgendaUptoRow : OpenClaim := { program := "ytdojdhpfhjhmfaa", sum := "036bf6e621c307b6d170eb9a05fc03016f958a30e171f7f756d9f9fc91c63ad3", func := "hindsight/hindsightlaw17.SchedAgenda", spec := "schedAgenda", unfollowed := true, recurses := true, apart := false, narrowed := true }
def SchedAgendaUptoSaid : Prop := schedAgendaUptoRow.holds Try.pinned (OpenSpec.upto schedAgendaSpec)

end Rows
end Go.Proofs.Ytdojdhpfhjhmfaa
