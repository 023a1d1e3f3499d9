/-
  DERIVED. GIVEN WITH THE SEED: THE CARDS: each row of YtdkojpfhmohaeaaDoorRows.lean that lists a variable, with what it lists TIED to the program's text (the seventh form; the later family's looks); each row that meets fmt, with fmt's text TOLD by the authors' own Lean function (tested against real Go, not proved from fmt's source: count such statements apart). THE CARD IS WHAT COUNTS. Prove the row's statement (the work); the ties are given (YtdkojpfhmohaeaaDoorTie.lean); close each card by the builder's one call (the guide's Derived/Test/ToyasCard.lean, 'card_holds'). Laid BY PROGRAM, IN A SANDBOX (cutbox-door.mjs). By AI agents, Wed Nov 11 2026. No macro, syntax, notation, axiom, sorry.
-/
import Derived.Test.YtdkojpfhmohaeaaDoorRows
import GoSem.ClaimSeven
namespace Go.Proofs.YtdkojpfhmohaeaaDoor
namespace Rows

/-- THE TIED CARD OF 'hindsightlaw13.TowerHeights'. -/
def towerHeightsCard : Claim7 := { stood := { row := towerHeightsRow, standIns := [], harness := (true, "cfdd4bf041235d943f20b92c833c45d0d7f9726a233f276e4b2bb59b6f637a34"), looks := false }, kinds := [], alts := [], laidByText := true, laidKinds := [.data, .data], laidTests := true, laidLooks := .later }
def TowerHeightsCardSaid : Prop := Claim7.holds Tryd.pinned (.plain (OpenSpec.ofChange towerHeightsSpec)) towerHeightsCard

/-- THE TIED CARD OF 'hindsightlaw13.TowerShort'. -/
def towerShortCard : Claim7 := { stood := { row := towerShortRow, standIns := [], harness := (true, "cfdd4bf041235d943f20b92c833c45d0d7f9726a233f276e4b2bb59b6f637a34"), looks := false }, kinds := [], alts := [], laidByText := true, laidKinds := [.data, .data], laidTests := true, laidLooks := .later }
def TowerShortCardSaid : Prop := Claim7.holds Tryd.pinned (.plain (OpenSpec.ofChange towerShortSpec)) towerShortCard

/-- THE TIED CARD OF 'hindsightlaw13.TowerFloors'. -/
def towerFloorsCard : Claim7 := { stood := { row := towerFloorsRow, standIns := [], harness := (true, "cfdd4bf041235d943f20b92c833c45d0d7f9726a233f276e4b2bb59b6f637a34"), looks := false }, kinds := [], alts := [], laidByText := true, laidKinds := [.data, .data], laidTests := true, laidLooks := .later }
def TowerFloorsCardSaid : Prop := Claim7.holds Tryd.pinned (.plain (OpenSpec.ofChange towerFloorsSpec)) towerFloorsCard

/-- THE TIED CARD OF 'hindsightlaw13.TowerShape'. -/
def towerShapeCard : Claim7 := { stood := { row := towerShapeRow, standIns := [], harness := (true, "cfdd4bf041235d943f20b92c833c45d0d7f9726a233f276e4b2bb59b6f637a34"), looks := false }, kinds := [], alts := [], laidByText := true, laidKinds := [.data, .data], laidTests := true, laidLooks := .later }
def TowerShapeCardSaid : Prop := Claim7.holds Tryd.pinned (.plain (OpenSpec.ofChange towerShapeSpec)) towerShapeCard

/-- THE TIED CARD OF 'hindsightlaw13.TowerCuts'. -/
def towerCutsCard : Claim7 := { stood := { row := towerCutsRow, standIns := [], harness := (true, "cfdd4bf041235d943f20b92c833c45d0d7f9726a233f276e4b2bb59b6f637a34"), looks := false }, kinds := [], alts := [], laidByText := true, laidKinds := [.data, .data], laidTests := true, laidLooks := .later }
def TowerCutsCardSaid : Prop := Claim7.holds Tryd.pinned (.plain (OpenSpec.ofChange towerCutsSpec)) towerCutsCard

/-- THE TIED CARD OF 'hindsightlaw13.TowerPlays'. -/
def towerPlaysCard : Claim7 := { stood := { row := towerPlaysRow, standIns := [], harness := (true, "cfdd4bf041235d943f20b92c833c45d0d7f9726a233f276e4b2bb59b6f637a34"), looks := false }, kinds := [], alts := [], laidByText := true, laidKinds := [.data, .data], laidTests := true, laidLooks := .later }
def TowerPlaysCardSaid : Prop := Claim7.holds Tryd.pinned (.plain (OpenSpec.ofChange towerPlaysSpec)) towerPlaysCard

/-- THE SECOND FORM's CARD OF 'hindsightlaw13.TowerHeights'. -/
def towerHeightsUptoCard : Claim7 := { stood := { row := towerHeightsUptoRow, standIns := [], harness := (true, "cfdd4bf041235d943f20b92c833c45d0d7f9726a233f276e4b2bb59b6f637a34"), looks := false }, kinds := [], alts := [], laidByText := true, laidKinds := [.data, .data], laidTests := true, laidLooks := .later }
def TowerHeightsUptoCardSaid : Prop := Claim7.holds Tryd.pinned (.plain (OpenSpec.upto towerHeightsSpec)) towerHeightsUptoCard

/-- THE SECOND FORM's CARD OF 'hindsightlaw13.TowerShort'. -/
def towerShortUptoCard : Claim7 := { stood := { row := towerShortUptoRow, standIns := [], harness := (true, "cfdd4bf041235d943f20b92c833c45d0d7f9726a233f276e4b2bb59b6f637a34"), looks := false }, kinds := [], alts := [], laidByText := true, laidKinds := [.data, .data], laidTests := true, laidLooks := .later }
def TowerShortUptoCardSaid : Prop := Claim7.holds Tryd.pinned (.plain (OpenSpec.upto towerShortSpec)) towerShortUptoCard

/-- THE SECOND FORM's CARD OF 'hindsightlaw13.TowerFloors'. -/
def towerFloorsUptoCard : Claim7 := { stood := { row := towerFloorsUptoRow, standIns := [], harness := (true, "cfdd4bf041235d943f20b92c833c45d0d7f9726a233f276e4b2bb59b6f637a34"), looks := false }, kinds := [], alts := [], laidByText := true, laidKinds := [.data, .data], laidTests := true, laidLooks := .later }
def TowerFloorsUptoCardSaid : Prop := Claim7.holds Tryd.pinned (.plain (OpenSpec.upto towerFloorsSpec)) towerFloorsUptoCard

/-- THE SECOND FORM's CARD OF 'hindsightlaw13.TowerShape'. -/
def towerShapeUptoCard : Claim7 := { stood := { row := towerShapeUptoRow, standIns := [], harness := (true, "cfdd4bf041235d943f20b92c833c45d0d7f9726a233f276e4b2bb59b6f637a34"), looks := false }, kinds := [], alts := [], laidByText := true, laidKinds := [.data, .data], laidTests := true, laidLooks := .later }
def TowerShapeUptoCardSaid : Prop := Claim7.holds Tryd.pinned (.plain (OpenSpec.upto towerShapeSpec)) towerShapeUptoCard

/-- THE SECOND FORM's CARD OF 'hindsightlaw13.TowerCuts'. -/
def towerCutsUptoCard : Claim7 := { stood := { row := towerCutsUptoRow, standIns := [], harness := (true, "cfdd4bf041235d943f20b92c833c45d0d7f9726a233f276e4b2bb59b6f637a34"), looks := false }, kinds := [], alts := [], laidByText := true, laidKinds := [.data, .data], laidTests := true, laidLooks := .later }
def TowerCutsUptoCardSaid : Prop := Claim7.holds Tryd.pinned (.plain (OpenSpec.upto towerCutsSpec)) towerCutsUptoCard

/-- THE SECOND FORM's CARD OF 'hindsightlaw13.TowerPlays'. -/
def towerPlaysUptoCard : Claim7 := { stood := { row := towerPlaysUptoRow, standIns := [], harness := (true, "cfdd4bf041235d943f20b92c833c45d0d7f9726a233f276e4b2bb59b6f637a34"), looks := false }, kinds := [], alts := [], laidByText := true, laidKinds := [.data, .data], laidTests := true, laidLooks := .later }
def TowerPlaysUptoCardSaid : Prop := Claim7.holds Tryd.pinned (.plain (OpenSpec.upto towerPlaysSpec)) towerPlaysUptoCard
end Rows
end Go.Proofs.YtdkojpfhmohaeaaDoor
