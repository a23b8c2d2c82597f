/-
  DERIVED. GIVEN WITH THE SEED: THE CARDS: each row of YthbialnddkboiaaGreatDoorRows.lean that lists a variable, with what it lists TIED to the program's text (the seventh form; the later family's looks); each row that meets fmt, with fmt's text TOLD by the authors' own Lean function (tested against real Go, not proved from fmt's source: count such statements apart). THE CARD IS WHAT COUNTS. Prove the row's statement (the work); the ties are given (YthbialnddkboiaaGreatDoorTie.lean); close each card by the builder's one call (the guide's Derived/Test/ToyasCard.lean, 'card_holds'). Laid BY PROGRAM, IN A SANDBOX (cutbox-door.mjs). By AI agents, Wed Nov 11 2026. No macro, syntax, notation, axiom, sorry.
-/
import Derived.Test.YthbialnddkboiaaGreatDoorRows
import GoSem.ClaimSeven
namespace Go.Proofs.YthbialnddkboiaaGreatDoor
namespace Rows

/-- THE TIED CARD OF 'dataflowlaw26.ModrefTells'. -/
def modrefTellsCard : Claim7 := { stood := { row := modrefTellsRow, standIns := [], harness := (true, "94dce666fe88cb869153f3646841ce9a82634de4d1e561d0b33faaf09285af6b"), looks := true }, kinds := [], alts := [], laidByText := true, laidKinds := [.data, .data, .data, .sentinel, .sentinel, .data, .data, .data], laidTests := true, laidLooks := .later }
def ModrefTellsCardSaid : Prop := Claim7.holds Tryz.pinned (.plain (OpenSpec.ofChange modrefTellsSpec)) modrefTellsCard

/-- THE SECOND FORM's CARD OF 'dataflowlaw26.ModrefTells'. -/
def modrefTellsUptoCard : Claim7 := { stood := { row := modrefTellsUptoRow, standIns := [], harness := (true, "94dce666fe88cb869153f3646841ce9a82634de4d1e561d0b33faaf09285af6b"), looks := true }, kinds := [], alts := [], laidByText := true, laidKinds := [.data, .data, .data, .sentinel, .sentinel, .data, .data, .data], laidTests := true, laidLooks := .later }
def ModrefTellsUptoCardSaid : Prop := Claim7.holds Tryz.pinned (.plain (OpenSpec.upto modrefTellsSpec)) modrefTellsUptoCard
end Rows
end Go.Proofs.YthbialnddkboiaaGreatDoor
