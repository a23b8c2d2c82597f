/-
  DERIVED. GIVEN WITH THE SEED: THE CARDS: each row of YtlkafolgbkobpaaDoorRows.lean that lists a variable, with what it lists TIED to the program's text (the seventh form; the later family's looks); each row that meets fmt, with fmt's text TOLD by the authors' own Lean function (tested against real Go, not proved from fmt's source: count such statements apart). THE CARD IS WHAT COUNTS. Prove the row's statement (the work); the ties are given (YtlkafolgbkobpaaDoorTie.lean); close each card by the builder's one call (the guide's Derived/Test/ToyasCard.lean, 'card_holds'). Laid BY PROGRAM, IN A SANDBOX (cutbox-door.mjs). By AI agents, Wed Nov 11 2026. No macro, syntax, notation, axiom, sorry.
-/
import Derived.Test.YtlkafolgbkobpaaDoorRows
import GoSem.ClaimSeven
namespace Go.Proofs.YtlkafolgbkobpaaDoor
namespace Rows

/-- THE TIED CARD OF 'dataflowlaw39.ProtocolSteps'. -/
def protocolStepsCard : Claim7 := { stood := { row := protocolStepsRow, standIns := [], harness := (true, "f45b787662c10b75e44dafb0a5d182254974d839aec1a27f3911fad64aeb8827"), looks := false }, kinds := [], alts := [], laidByText := true, laidKinds := [.data], laidTests := true, laidLooks := .later }
def ProtocolStepsCardSaid : Prop := Claim7.holds Tryd.pinned (.plain (OpenSpec.ofChange protocolStepsSpec)) protocolStepsCard

/-- THE TIED CARD OF 'dataflowlaw39.ProtocolChecks'. -/
def protocolChecksCard : Claim7 := { stood := { row := protocolChecksRow, standIns := [], harness := (true, "f45b787662c10b75e44dafb0a5d182254974d839aec1a27f3911fad64aeb8827"), looks := false }, kinds := [], alts := [], laidByText := true, laidKinds := [.data], laidTests := true, laidLooks := .later }
def ProtocolChecksCardSaid : Prop := Claim7.holds Tryd.pinned (.plain (OpenSpec.ofChange protocolChecksSpec)) protocolChecksCard

/-- THE TIED CARD OF 'dataflowlaw39.ProtocolAbsorbs'. -/
def protocolAbsorbsCard : Claim7 := { stood := { row := protocolAbsorbsRow, standIns := [], harness := (true, "f45b787662c10b75e44dafb0a5d182254974d839aec1a27f3911fad64aeb8827"), looks := false }, kinds := [], alts := [], laidByText := true, laidKinds := [.data], laidTests := true, laidLooks := .later }
def ProtocolAbsorbsCardSaid : Prop := Claim7.holds Tryd.pinned (.plain (OpenSpec.ofChange protocolAbsorbsSpec)) protocolAbsorbsCard

/-- THE TIED CARD OF 'dataflowlaw39.ProtocolBack'. -/
def protocolBackCard : Claim7 := { stood := { row := protocolBackRow, standIns := [], harness := (true, "f45b787662c10b75e44dafb0a5d182254974d839aec1a27f3911fad64aeb8827"), looks := false }, kinds := [], alts := [], laidByText := true, laidKinds := [.data, .data, .pinned], laidTests := true, laidLooks := .later }
def ProtocolBackCardSaid : Prop := Claim7.holds Tryd.pinned (.plain (OpenSpec.ofChange protocolBackSpec)) protocolBackCard

/-- THE TIED CARD OF 'dataflowlaw39.ProtocolParses'. -/
def protocolParsesCard : Claim7 := { stood := { row := protocolParsesRow, standIns := [], harness := (true, "f45b787662c10b75e44dafb0a5d182254974d839aec1a27f3911fad64aeb8827"), looks := false }, kinds := [], alts := [], laidByText := true, laidKinds := [.data, .data, .pinned], laidTests := true, laidLooks := .later }
def ProtocolParsesCardSaid : Prop := Claim7.holds Tryd.pinned (.plain (OpenSpec.ofChange protocolParsesSpec)) protocolParsesCard

/-- THE SECOND FORM's CARD OF 'dataflowlaw39.ProtocolSteps'. -/
def protocolStepsUptoCard : Claim7 := { stood := { row := protocolStepsUptoRow, standIns := [], harness := (true, "f45b787662c10b75e44dafb0a5d182254974d839aec1a27f3911fad64aeb8827"), looks := false }, kinds := [], alts := [], laidByText := true, laidKinds := [.data], laidTests := true, laidLooks := .later }
def ProtocolStepsUptoCardSaid : Prop := Claim7.holds Tryd.pinned (.plain (OpenSpec.upto protocolStepsSpec)) protocolStepsUptoCard

/-- THE SECOND FORM's CARD OF 'dataflowlaw39.ProtocolChecks'. -/
def protocolChecksUptoCard : Claim7 := { stood := { row := protocolChecksUptoRow, standIns := [], harness := (true, "f45b787662c10b75e44dafb0a5d182254974d839aec1a27f3911fad64aeb8827"), looks := false }, kinds := [], alts := [], laidByText := true, laidKinds := [.data], laidTests := true, laidLooks := .later }
def ProtocolChecksUptoCardSaid : Prop := Claim7.holds Tryd.pinned (.plain (OpenSpec.upto protocolChecksSpec)) protocolChecksUptoCard

/-- THE SECOND FORM's CARD OF 'dataflowlaw39.ProtocolAbsorbs'. -/
def protocolAbsorbsUptoCard : Claim7 := { stood := { row := protocolAbsorbsUptoRow, standIns := [], harness := (true, "f45b787662c10b75e44dafb0a5d182254974d839aec1a27f3911fad64aeb8827"), looks := false }, kinds := [], alts := [], laidByText := true, laidKinds := [.data], laidTests := true, laidLooks := .later }
def ProtocolAbsorbsUptoCardSaid : Prop := Claim7.holds Tryd.pinned (.plain (OpenSpec.upto protocolAbsorbsSpec)) protocolAbsorbsUptoCard

/-- THE SECOND FORM's CARD OF 'dataflowlaw39.ProtocolBack'. -/
def protocolBackUptoCard : Claim7 := { stood := { row := protocolBackUptoRow, standIns := [], harness := (true, "f45b787662c10b75e44dafb0a5d182254974d839aec1a27f3911fad64aeb8827"), looks := false }, kinds := [], alts := [], laidByText := true, laidKinds := [.data, .data, .pinned], laidTests := true, laidLooks := .later }
def ProtocolBackUptoCardSaid : Prop := Claim7.holds Tryd.pinned (.plain (OpenSpec.upto protocolBackSpec)) protocolBackUptoCard

/-- THE SECOND FORM's CARD OF 'dataflowlaw39.ProtocolParses'. -/
def protocolParsesUptoCard : Claim7 := { stood := { row := protocolParsesUptoRow, standIns := [], harness := (true, "f45b787662c10b75e44dafb0a5d182254974d839aec1a27f3911fad64aeb8827"), looks := false }, kinds := [], alts := [], laidByText := true, laidKinds := [.data, .data, .pinned], laidTests := true, laidLooks := .later }
def ProtocolParsesUptoCardSaid : Prop := Claim7.holds Tryd.pinned (.plain (OpenSpec.upto protocolParsesSpec)) protocolParsesUptoCard
end Rows
end Go.Proofs.YtlkafolgbkobpaaDoor
