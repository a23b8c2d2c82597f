/-
  DERIVED. GIVEN WITH THE SEED: THE CARDS: each row of YtdbmmdjmkbnboaaGreatDoorRows.lean that lists a variable, with what it lists TIED to the program's text (the seventh form; the later family's looks); each row that meets fmt, with fmt's text TOLD by the authors' own Lean function (tested against real Go, not proved from fmt's source: count such statements apart). THE CARD IS WHAT COUNTS. Prove the row's statement (the work); the ties are given (YtdbmmdjmkbnboaaGreatDoorTie.lean); close each card by the builder's one call (the guide's Derived/Test/ToyasCard.lean, 'card_holds'). Laid BY PROGRAM, IN A SANDBOX (cutbox-door.mjs). By AI agents, Wed Nov 11 2026. No macro, syntax, notation, axiom, sorry.
-/
import Derived.Test.YtdbmmdjmkbnboaaGreatDoorRows
import GoSem.ClaimSeven
namespace Go.Proofs.YtdbmmdjmkbnboaaGreatDoor
namespace Rows

/-- THE TIED CARD OF 'dataflowlaw25.RefineLevels'. -/
def refineLevelsCard : Claim7 := { stood := { row := refineLevelsRow, standIns := [], harness := (true, "3309836acdab0bca2f269b279c6ebae5991dcdaee05b9873ff4d6e6f9912da27"), looks := true }, kinds := [], alts := [], laidByText := true, laidKinds := [.data, .data, .data, .sentinel, .sentinel, .data, .data, .data], laidTests := true, laidLooks := .later }
def RefineLevelsCardSaid : Prop := Claim7.holds Tryz.pinned (.plain (OpenSpec.ofChange refineLevelsSpec)) refineLevelsCard

/-- THE TIED CARD OF 'dataflowlaw23.SensitiveTells'. -/
def sensitiveTellsCard : Claim7 := { stood := { row := sensitiveTellsRow, standIns := [], harness := (true, "3309836acdab0bca2f269b279c6ebae5991dcdaee05b9873ff4d6e6f9912da27"), looks := true }, kinds := [], alts := [], laidByText := true, laidKinds := [.data, .data, .data, .sentinel, .sentinel, .data, .data, .data], laidTests := true, laidLooks := .later }
def SensitiveTellsCardSaid : Prop := Claim7.holds Tryz.pinned (.plain (OpenSpec.ofChange sensitiveTellsSpec)) sensitiveTellsCard

/-- THE SECOND FORM's CARD OF 'dataflowlaw25.RefineLevels'. -/
def refineLevelsUptoCard : Claim7 := { stood := { row := refineLevelsUptoRow, standIns := [], harness := (true, "3309836acdab0bca2f269b279c6ebae5991dcdaee05b9873ff4d6e6f9912da27"), looks := true }, kinds := [], alts := [], laidByText := true, laidKinds := [.data, .data, .data, .sentinel, .sentinel, .data, .data, .data], laidTests := true, laidLooks := .later }
def RefineLevelsUptoCardSaid : Prop := Claim7.holds Tryz.pinned (.plain (OpenSpec.upto refineLevelsSpec)) refineLevelsUptoCard

/-- THE SECOND FORM's CARD OF 'dataflowlaw23.SensitiveTells'. -/
def sensitiveTellsUptoCard : Claim7 := { stood := { row := sensitiveTellsUptoRow, standIns := [], harness := (true, "3309836acdab0bca2f269b279c6ebae5991dcdaee05b9873ff4d6e6f9912da27"), looks := true }, kinds := [], alts := [], laidByText := true, laidKinds := [.data, .data, .data, .sentinel, .sentinel, .data, .data, .data], laidTests := true, laidLooks := .later }
def SensitiveTellsUptoCardSaid : Prop := Claim7.holds Tryz.pinned (.plain (OpenSpec.upto sensitiveTellsSpec)) sensitiveTellsUptoCard
end Rows
end Go.Proofs.YtdbmmdjmkbnboaaGreatDoor
