/-
  DERIVED. GIVEN WITH THE SEED: THE CARDS: each row of YthlnhinjcffllaaGreatDoorRows.lean that lists a variable, with what it lists TIED to the program's text (the seventh form; the later family's looks); each row that meets fmt, with fmt's text TOLD by the authors' own Lean function (tested against real Go, not proved from fmt's source: count such statements apart). THE CARD IS WHAT COUNTS. Prove the row's statement (the work); the ties are given (YthlnhinjcffllaaGreatDoorTie.lean); close each card by the builder's one call (the guide's Derived/Test/ToyasCard.lean, 'card_holds'). Laid BY PROGRAM, IN A SANDBOX (cutbox-door.mjs). By AI agents, Wed Nov 11 2026. No macro, syntax, notation, axiom, sorry.
-/
import Derived.Test.YthlnhinjcffllaaGreatDoorRows
import GoSem.ClaimSeven
namespace Go.Proofs.YthlnhinjcffllaaGreatDoor
namespace Rows

/-- THE TIED CARD OF 'dataflowlaw41.ApathPaths'. -/
def apathPathsCard : Claim7 := { stood := { row := apathPathsRow, standIns := [], harness := (true, "ec2f51ed052a68f51d2180bb8654fa973b27ad0d1a659489081788a5ccb81a69"), looks := true }, kinds := [], alts := [], laidByText := true, laidKinds := [.data, .data, .data, .data, .sentinel, .sentinel, .data, .data, .data, .pinned], laidTests := true, laidLooks := .later }
def ApathPathsCardSaid : Prop := Claim7.holds Tryz.pinned (.plain (OpenSpec.ofChange apathPathsSpec)) apathPathsCard

/-- THE TIED CARD OF 'dataflowlaw41.ApathReplace'. -/
def apathReplaceCard : Claim7 := { stood := { row := apathReplaceRow, standIns := [], harness := (true, "ec2f51ed052a68f51d2180bb8654fa973b27ad0d1a659489081788a5ccb81a69"), looks := true }, kinds := [], alts := [], laidByText := true, laidKinds := [.data, .data, .data, .data, .sentinel, .sentinel, .data, .data, .data, .pinned], laidTests := true, laidLooks := .later }
def ApathReplaceCardSaid : Prop := Claim7.holds Tryz.pinned (.plain (OpenSpec.ofChange apathReplaceSpec)) apathReplaceCard

/-- THE TIED CARD OF 'dataflowlaw41.ApathTexts'. -/
def apathTextsCard : Claim7 := { stood := { row := apathTextsRow, standIns := [], harness := (true, "ec2f51ed052a68f51d2180bb8654fa973b27ad0d1a659489081788a5ccb81a69"), looks := true }, kinds := [], alts := [], laidByText := true, laidKinds := [.data, .data, .data, .data, .sentinel, .sentinel, .data, .data, .data, .pinned], laidTests := true, laidLooks := .later }
def ApathTextsCardSaid : Prop := Claim7.holds Tryz.pinned (.plain (OpenSpec.ofChange apathTextsSpec)) apathTextsCard

/-- THE TIED CARD OF 'dataflowlaw41.ApathBack'. -/
def apathBackCard : Claim7 := { stood := { row := apathBackRow, standIns := [], harness := (true, "ec2f51ed052a68f51d2180bb8654fa973b27ad0d1a659489081788a5ccb81a69"), looks := true }, kinds := [], alts := [], laidByText := true, laidKinds := [.data, .data, .data, .data, .sentinel, .sentinel, .data, .data, .data, .pinned], laidTests := true, laidLooks := .later }
def ApathBackCardSaid : Prop := Claim7.holds Tryz.pinned (.plain (OpenSpec.ofChange apathBackSpec)) apathBackCard

/-- THE TIED CARD OF 'dataflowlaw41.ApathOrder'. -/
def apathOrderCard : Claim7 := { stood := { row := apathOrderRow, standIns := [], harness := (true, "ec2f51ed052a68f51d2180bb8654fa973b27ad0d1a659489081788a5ccb81a69"), looks := true }, kinds := [], alts := [], laidByText := true, laidKinds := [.data, .data, .data, .data, .sentinel, .sentinel, .data, .data, .data, .pinned], laidTests := true, laidLooks := .later }
def ApathOrderCardSaid : Prop := Claim7.holds Tryz.pinned (.plain (OpenSpec.ofChange apathOrderSpec)) apathOrderCard

/-- THE SECOND FORM's CARD OF 'dataflowlaw41.ApathPaths'. -/
def apathPathsUptoCard : Claim7 := { stood := { row := apathPathsUptoRow, standIns := [], harness := (true, "ec2f51ed052a68f51d2180bb8654fa973b27ad0d1a659489081788a5ccb81a69"), looks := true }, kinds := [], alts := [], laidByText := true, laidKinds := [.data, .data, .data, .data, .sentinel, .sentinel, .data, .data, .data, .pinned], laidTests := true, laidLooks := .later }
def ApathPathsUptoCardSaid : Prop := Claim7.holds Tryz.pinned (.plain (OpenSpec.upto apathPathsSpec)) apathPathsUptoCard

/-- THE SECOND FORM's CARD OF 'dataflowlaw41.ApathReplace'. -/
def apathReplaceUptoCard : Claim7 := { stood := { row := apathReplaceUptoRow, standIns := [], harness := (true, "ec2f51ed052a68f51d2180bb8654fa973b27ad0d1a659489081788a5ccb81a69"), looks := true }, kinds := [], alts := [], laidByText := true, laidKinds := [.data, .data, .data, .data, .sentinel, .sentinel, .data, .data, .data, .pinned], laidTests := true, laidLooks := .later }
def ApathReplaceUptoCardSaid : Prop := Claim7.holds Tryz.pinned (.plain (OpenSpec.upto apathReplaceSpec)) apathReplaceUptoCard

/-- THE SECOND FORM's CARD OF 'dataflowlaw41.ApathTexts'. -/
def apathTextsUptoCard : Claim7 := { stood := { row := apathTextsUptoRow, standIns := [], harness := (true, "ec2f51ed052a68f51d2180bb8654fa973b27ad0d1a659489081788a5ccb81a69"), looks := true }, kinds := [], alts := [], laidByText := true, laidKinds := [.data, .data, .data, .data, .sentinel, .sentinel, .data, .data, .data, .pinned], laidTests := true, laidLooks := .later }
def ApathTextsUptoCardSaid : Prop := Claim7.holds Tryz.pinned (.plain (OpenSpec.upto apathTextsSpec)) apathTextsUptoCard

/-- THE SECOND FORM's CARD OF 'dataflowlaw41.ApathBack'. -/
def apathBackUptoCard : Claim7 := { stood := { row := apathBackUptoRow, standIns := [], harness := (true, "ec2f51ed052a68f51d2180bb8654fa973b27ad0d1a659489081788a5ccb81a69"), looks := true }, kinds := [], alts := [], laidByText := true, laidKinds := [.data, .data, .data, .data, .sentinel, .sentinel, .data, .data, .data, .pinned], laidTests := true, laidLooks := .later }
def ApathBackUptoCardSaid : Prop := Claim7.holds Tryz.pinned (.plain (OpenSpec.upto apathBackSpec)) apathBackUptoCard

/-- THE SECOND FORM's CARD OF 'dataflowlaw41.ApathOrder'. -/
def apathOrderUptoCard : Claim7 := { stood := { row := apathOrderUptoRow, standIns := [], harness := (true, "ec2f51ed052a68f51d2180bb8654fa973b27ad0d1a659489081788a5ccb81a69"), looks := true }, kinds := [], alts := [], laidByText := true, laidKinds := [.data, .data, .data, .data, .sentinel, .sentinel, .data, .data, .data, .pinned], laidTests := true, laidLooks := .later }
def ApathOrderUptoCardSaid : Prop := Claim7.holds Tryz.pinned (.plain (OpenSpec.upto apathOrderSpec)) apathOrderUptoCard
end Rows
end Go.Proofs.YthlnhinjcffllaaGreatDoor
