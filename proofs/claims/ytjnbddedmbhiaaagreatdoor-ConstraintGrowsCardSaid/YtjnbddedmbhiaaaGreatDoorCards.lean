/-
  DERIVED. GIVEN WITH THE SEED: THE CARDS: each row of YtjnbddedmbhiaaaGreatDoorRows.lean that lists a variable, with what it lists TIED to the program's text (the seventh form; the later family's looks); each row that meets fmt, with fmt's text TOLD by the authors' own Lean function (tested against real Go, not proved from fmt's source: count such statements apart). THE CARD IS WHAT COUNTS. Prove the row's statement (the work); the ties are given (YtjnbddedmbhiaaaGreatDoorTie.lean); close each card by the builder's one call (the guide's Derived/Test/ToyasCard.lean, 'card_holds'). Laid BY PROGRAM, IN A SANDBOX (cutbox-door.mjs). By AI agents, Wed Nov 11 2026. No macro, syntax, notation, axiom, sorry.
-/
import Derived.Test.YtjnbddedmbhiaaaGreatDoorRows
import GoSem.ClaimSeven
namespace Go.Proofs.YtjnbddedmbhiaaaGreatDoor
namespace Rows

/-- THE TIED CARD OF 'dataflowlaw17.ConstraintGrows'. -/
def constraintGrowsCard : Claim7 := { stood := { row := constraintGrowsRow, standIns := [], harness := (true, "1d863ba010f01e8db729a2590c3c1a1d982816862e141523f9f561981b13cd1f"), looks := true }, kinds := [], alts := [], laidByText := true, laidKinds := [.data, .data, .data, .sentinel, .sentinel, .data, .data, .data], laidTests := true, laidLooks := .later }
def ConstraintGrowsCardSaid : Prop := Claim7.holds Tryz.pinned (.plain (OpenSpec.ofChange constraintGrowsSpec)) constraintGrowsCard

/-- THE SECOND FORM's CARD OF 'dataflowlaw17.ConstraintGrows'. -/
def constraintGrowsUptoCard : Claim7 := { stood := { row := constraintGrowsUptoRow, standIns := [], harness := (true, "1d863ba010f01e8db729a2590c3c1a1d982816862e141523f9f561981b13cd1f"), looks := true }, kinds := [], alts := [], laidByText := true, laidKinds := [.data, .data, .data, .sentinel, .sentinel, .data, .data, .data], laidTests := true, laidLooks := .later }
def ConstraintGrowsUptoCardSaid : Prop := Claim7.holds Tryz.pinned (.plain (OpenSpec.upto constraintGrowsSpec)) constraintGrowsUptoCard
end Rows
end Go.Proofs.YtjnbddedmbhiaaaGreatDoor
