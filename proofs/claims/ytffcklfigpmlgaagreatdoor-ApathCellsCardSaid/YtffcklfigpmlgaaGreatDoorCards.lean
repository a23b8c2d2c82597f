/-
  DERIVED. GIVEN WITH THE SEED: THE CARDS: each row of YtffcklfigpmlgaaGreatDoorRows.lean that lists a variable, with what it lists TIED to the program's text (the seventh form; the later family's looks); each row that meets fmt, with fmt's text TOLD by the authors' own Lean function (tested against real Go, not proved from fmt's source: count such statements apart). THE CARD IS WHAT COUNTS. Prove the row's statement (the work); the ties are given (YtffcklfigpmlgaaGreatDoorTie.lean); close each card by the builder's one call (the guide's Derived/Test/ToyasCard.lean, 'card_holds'). Laid BY PROGRAM, IN A SANDBOX (cutbox-door.mjs). By AI agents, Wed Nov 11 2026. No macro, syntax, notation, axiom, sorry.
-/
import Derived.Test.YtffcklfigpmlgaaGreatDoorRows
import GoSem.ClaimSeven
namespace Go.Proofs.YtffcklfigpmlgaaGreatDoor
namespace Rows

/-- THE TIED CARD OF 'dataflowlaw41.ApathCells'. -/
def apathCellsCard : Claim7 := { stood := { row := apathCellsRow, standIns := [], harness := (true, "b38b25807045dc13f574488773111b832a881b57ba362ed486e48d59ae579f59"), looks := true }, kinds := [], alts := [], laidByText := true, laidKinds := [.data, .data, .data, .data, .sentinel, .sentinel, .data, .data, .data, .pinned], laidTests := true, laidLooks := .later }
def ApathCellsCardSaid : Prop := Claim7.holds Tryz.pinned (.plain (OpenSpec.ofChange apathCellsSpec)) apathCellsCard

/-- THE SECOND FORM's CARD OF 'dataflowlaw41.ApathCells'. -/
def apathCellsUptoCard : Claim7 := { stood := { row := apathCellsUptoRow, standIns := [], harness := (true, "b38b25807045dc13f574488773111b832a881b57ba362ed486e48d59ae579f59"), looks := true }, kinds := [], alts := [], laidByText := true, laidKinds := [.data, .data, .data, .data, .sentinel, .sentinel, .data, .data, .data, .pinned], laidTests := true, laidLooks := .later }
def ApathCellsUptoCardSaid : Prop := Claim7.holds Tryz.pinned (.plain (OpenSpec.upto apathCellsSpec)) apathCellsUptoCard
end Rows
end Go.Proofs.YtffcklfigpmlgaaGreatDoor
