/-
  DERIVED. GIVEN WITH THE SEED: THE CARDS: each row of YtkbmnfijeknenaaGreatDoorRows.lean that lists a variable, with what it lists TIED to the program's text (the seventh form; the later family's looks); each row that meets fmt, with fmt's text TOLD by the authors' own Lean function (tested against real Go, not proved from fmt's source: count such statements apart). THE CARD IS WHAT COUNTS. Prove the row's statement (the work); the ties are given (YtkbmnfijeknenaaGreatDoorTie.lean); close each card by the builder's one call (the guide's Derived/Test/ToyasCard.lean, 'card_holds'). Laid BY PROGRAM, IN A SANDBOX (cutbox-door.mjs). By AI agents, Wed Nov 11 2026. No macro, syntax, notation, axiom, sorry.
-/
import Derived.Test.YtkbmnfijeknenaaGreatDoorRows
import GoSem.ClaimSeven
namespace Go.Proofs.YtkbmnfijeknenaaGreatDoor
namespace Rows

/-- THE TIED CARD OF 'dataflowlaw20.ChaTargets'. -/
def chaTargetsCard : Claim7 := { stood := { row := chaTargetsRow, standIns := [], harness := (true, "66d136669cdbef860219f8fbf6081be20e5c80634cc36a9abdb53f4257e40c32"), looks := true }, kinds := [], alts := [], laidByText := true, laidKinds := [.data, .data, .data, .sentinel, .sentinel, .data, .data], laidTests := true, laidLooks := .later }
def ChaTargetsCardSaid : Prop := Claim7.holds Tryz.pinned (.plain (OpenSpec.ofChange chaTargetsSpec)) chaTargetsCard

/-- THE TIED CARD OF 'dataflowlaw20.ChaReached'. -/
def chaReachedCard : Claim7 := { stood := { row := chaReachedRow, standIns := [], harness := (true, "66d136669cdbef860219f8fbf6081be20e5c80634cc36a9abdb53f4257e40c32"), looks := true }, kinds := [], alts := [], laidByText := true, laidKinds := [.data, .data, .data, .sentinel, .sentinel, .data, .data], laidTests := true, laidLooks := .later }
def ChaReachedCardSaid : Prop := Claim7.holds Tryz.pinned (.plain (OpenSpec.ofChange chaReachedSpec)) chaReachedCard

/-- THE TIED CARD OF 'dataflowlaw20.ChaRapid'. -/
def chaRapidCard : Claim7 := { stood := { row := chaRapidRow, standIns := [], harness := (true, "66d136669cdbef860219f8fbf6081be20e5c80634cc36a9abdb53f4257e40c32"), looks := true }, kinds := [], alts := [], laidByText := true, laidKinds := [.data, .data, .data, .sentinel, .sentinel, .data, .data], laidTests := true, laidLooks := .later }
def ChaRapidCardSaid : Prop := Claim7.holds Tryz.pinned (.plain (OpenSpec.ofChange chaRapidSpec)) chaRapidCard

/-- THE TIED CARD OF 'dataflowlaw20.ChaWithin'. -/
def chaWithinCard : Claim7 := { stood := { row := chaWithinRow, standIns := [], harness := (true, "66d136669cdbef860219f8fbf6081be20e5c80634cc36a9abdb53f4257e40c32"), looks := true }, kinds := [], alts := [], laidByText := true, laidKinds := [.data, .data, .data, .sentinel, .sentinel, .data, .data], laidTests := true, laidLooks := .later }
def ChaWithinCardSaid : Prop := Claim7.holds Tryz.pinned (.plain (OpenSpec.ofChange chaWithinSpec)) chaWithinCard

/-- THE TIED CARD OF 'dataflowlaw20.ChaDispatch'. -/
def chaDispatchCard : Claim7 := { stood := { row := chaDispatchRow, standIns := [], harness := (true, "66d136669cdbef860219f8fbf6081be20e5c80634cc36a9abdb53f4257e40c32"), looks := true }, kinds := [], alts := [], laidByText := true, laidKinds := [.data, .data, .data, .sentinel, .sentinel, .data, .data], laidTests := true, laidLooks := .later }
def ChaDispatchCardSaid : Prop := Claim7.holds Tryz.pinned (.plain (OpenSpec.ofChange chaDispatchSpec)) chaDispatchCard

/-- THE TIED CARD OF 'dataflowlaw17.ConstraintNumbers'. -/
def constraintNumbersCard : Claim7 := { stood := { row := constraintNumbersRow, standIns := [], harness := (true, "66d136669cdbef860219f8fbf6081be20e5c80634cc36a9abdb53f4257e40c32"), looks := true }, kinds := [], alts := [], laidByText := true, laidKinds := [.data, .data, .data, .sentinel, .sentinel, .data, .data, .data], laidTests := true, laidLooks := .later }
def ConstraintNumbersCardSaid : Prop := Claim7.holds Tryz.pinned (.plain (OpenSpec.ofChange constraintNumbersSpec)) constraintNumbersCard

/-- THE TIED CARD OF 'dataflowlaw17.ConstraintGrows'. -/
def constraintGrowsCard : Claim7 := { stood := { row := constraintGrowsRow, standIns := [], harness := (true, "66d136669cdbef860219f8fbf6081be20e5c80634cc36a9abdb53f4257e40c32"), looks := true }, kinds := [], alts := [], laidByText := true, laidKinds := [.data, .data, .data, .sentinel, .sentinel, .data, .data, .data], laidTests := true, laidLooks := .later }
def ConstraintGrowsCardSaid : Prop := Claim7.holds Tryz.pinned (.plain (OpenSpec.ofChange constraintGrowsSpec)) constraintGrowsCard

/-- THE TIED CARD OF 'dataflowlaw17.ConstraintReceivers'. -/
def constraintReceiversCard : Claim7 := { stood := { row := constraintReceiversRow, standIns := [], harness := (true, "66d136669cdbef860219f8fbf6081be20e5c80634cc36a9abdb53f4257e40c32"), looks := true }, kinds := [], alts := [], laidByText := true, laidKinds := [.data, .data, .data, .sentinel, .sentinel, .data, .data, .data], laidTests := true, laidLooks := .later }
def ConstraintReceiversCardSaid : Prop := Claim7.holds Tryz.pinned (.plain (OpenSpec.ofChange constraintReceiversSpec)) constraintReceiversCard

/-- THE SECOND FORM's CARD OF 'dataflowlaw20.ChaTargets'. -/
def chaTargetsUptoCard : Claim7 := { stood := { row := chaTargetsUptoRow, standIns := [], harness := (true, "66d136669cdbef860219f8fbf6081be20e5c80634cc36a9abdb53f4257e40c32"), looks := true }, kinds := [], alts := [], laidByText := true, laidKinds := [.data, .data, .data, .sentinel, .sentinel, .data, .data], laidTests := true, laidLooks := .later }
def ChaTargetsUptoCardSaid : Prop := Claim7.holds Tryz.pinned (.plain (OpenSpec.upto chaTargetsSpec)) chaTargetsUptoCard

/-- THE SECOND FORM's CARD OF 'dataflowlaw20.ChaReached'. -/
def chaReachedUptoCard : Claim7 := { stood := { row := chaReachedUptoRow, standIns := [], harness := (true, "66d136669cdbef860219f8fbf6081be20e5c80634cc36a9abdb53f4257e40c32"), looks := true }, kinds := [], alts := [], laidByText := true, laidKinds := [.data, .data, .data, .sentinel, .sentinel, .data, .data], laidTests := true, laidLooks := .later }
def ChaReachedUptoCardSaid : Prop := Claim7.holds Tryz.pinned (.plain (OpenSpec.upto chaReachedSpec)) chaReachedUptoCard

/-- THE SECOND FORM's CARD OF 'dataflowlaw20.ChaRapid'. -/
def chaRapidUptoCard : Claim7 := { stood := { row := chaRapidUptoRow, standIns := [], harness := (true, "66d136669cdbef860219f8fbf6081be20e5c80634cc36a9abdb53f4257e40c32"), looks := true }, kinds := [], alts := [], laidByText := true, laidKinds := [.data, .data, .data, .sentinel, .sentinel, .data, .data], laidTests := true, laidLooks := .later }
def ChaRapidUptoCardSaid : Prop := Claim7.holds Tryz.pinned (.plain (OpenSpec.upto chaRapidSpec)) chaRapidUptoCard

/-- THE SECOND FORM's CARD OF 'dataflowlaw20.ChaWithin'. -/
def chaWithinUptoCard : Claim7 := { stood := { row := chaWithinUptoRow, standIns := [], harness := (true, "66d136669cdbef860219f8fbf6081be20e5c80634cc36a9abdb53f4257e40c32"), looks := true }, kinds := [], alts := [], laidByText := true, laidKinds := [.data, .data, .data, .sentinel, .sentinel, .data, .data], laidTests := true, laidLooks := .later }
def ChaWithinUptoCardSaid : Prop := Claim7.holds Tryz.pinned (.plain (OpenSpec.upto chaWithinSpec)) chaWithinUptoCard

/-- THE SECOND FORM's CARD OF 'dataflowlaw20.ChaDispatch'. -/
def chaDispatchUptoCard : Claim7 := { stood := { row := chaDispatchUptoRow, standIns := [], harness := (true, "66d136669cdbef860219f8fbf6081be20e5c80634cc36a9abdb53f4257e40c32"), looks := true }, kinds := [], alts := [], laidByText := true, laidKinds := [.data, .data, .data, .sentinel, .sentinel, .data, .data], laidTests := true, laidLooks := .later }
def ChaDispatchUptoCardSaid : Prop := Claim7.holds Tryz.pinned (.plain (OpenSpec.upto chaDispatchSpec)) chaDispatchUptoCard

/-- THE SECOND FORM's CARD OF 'dataflowlaw17.ConstraintNumbers'. -/
def constraintNumbersUptoCard : Claim7 := { stood := { row := constraintNumbersUptoRow, standIns := [], harness := (true, "66d136669cdbef860219f8fbf6081be20e5c80634cc36a9abdb53f4257e40c32"), looks := true }, kinds := [], alts := [], laidByText := true, laidKinds := [.data, .data, .data, .sentinel, .sentinel, .data, .data, .data], laidTests := true, laidLooks := .later }
def ConstraintNumbersUptoCardSaid : Prop := Claim7.holds Tryz.pinned (.plain (OpenSpec.upto constraintNumbersSpec)) constraintNumbersUptoCard

/-- THE SECOND FORM's CARD OF 'dataflowlaw17.ConstraintGrows'. -/
def constraintGrowsUptoCard : Claim7 := { stood := { row := constraintGrowsUptoRow, standIns := [], harness := (true, "66d136669cdbef860219f8fbf6081be20e5c80634cc36a9abdb53f4257e40c32"), looks := true }, kinds := [], alts := [], laidByText := true, laidKinds := [.data, .data, .data, .sentinel, .sentinel, .data, .data, .data], laidTests := true, laidLooks := .later }
def ConstraintGrowsUptoCardSaid : Prop := Claim7.holds Tryz.pinned (.plain (OpenSpec.upto constraintGrowsSpec)) constraintGrowsUptoCard

/-- THE SECOND FORM's CARD OF 'dataflowlaw17.ConstraintReceivers'. -/
def constraintReceiversUptoCard : Claim7 := { stood := { row := constraintReceiversUptoRow, standIns := [], harness := (true, "66d136669cdbef860219f8fbf6081be20e5c80634cc36a9abdb53f4257e40c32"), looks := true }, kinds := [], alts := [], laidByText := true, laidKinds := [.data, .data, .data, .sentinel, .sentinel, .data, .data, .data], laidTests := true, laidLooks := .later }
def ConstraintReceiversUptoCardSaid : Prop := Claim7.holds Tryz.pinned (.plain (OpenSpec.upto constraintReceiversSpec)) constraintReceiversUptoCard
end Rows
end Go.Proofs.YtkbmnfijeknenaaGreatDoor
