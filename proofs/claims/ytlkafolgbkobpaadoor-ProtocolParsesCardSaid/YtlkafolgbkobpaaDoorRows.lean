/-
  NARROWER THAN 'FOR EVERY INPUT', by the rows' own cells (each row's printed sentence says how): ProtocolSteps: laid · ProtocolChecks: laid · ProtocolAbsorbs: laid · ProtocolBack: laid · ProtocolParses: laid.
  DERIVED. THE GIVEN ROWS OF THIS SEAT. 5 by the template 'for every input the law returns true; each argument reads behind the call as it read before'; 0 by the template 'total and deterministic' (their statements: YtlkafolgbkobpaaDoorTotals.lean).
  GIVEN WITH THE SEED: the statements are not yours to turn. If you find one false, say at which input.
  Laid BY PROGRAM, IN A SANDBOX (cutbox-rows.mjs): the forced cells as the released guide's own fill.sh prints them over the translation aca9b2e3a4fd2929… (all of the seat's roots in one cut). By AI agents, Wed Nov 11 2026. No macro, syntax, notation, axiom, sorry.
-/
import Derived.Test.YtlkafolgbkobpaaDoorChecked
import GoSem.PinnedTables
import GoSem.Claim
import GoSem.ClaimJoined
import GoSem.ClaimMapViews
import Derived.JoinedTies
import Derived.KernelRfl
namespace Go.Proofs.YtlkafolgbkobpaaDoor
/- THE CELL 'sum', in the pinned program and in every row, IS THE sha256 OF THE DUMP (.gsa) THAT YtlkafolgbkobpaaDoorProg.lean LOADS. Nothing in Lean hashes anything: it is a label: what it is worth is what the hold of that sum in a sandbox is worth. -/
noncomputable def Tryd.pinned : Pinned := { name := "ytlkafolgbkobpaadoor", sum := "aca9b2e3a4fd292967e1ae2a5d514ed793a0da7358cacd2f231c200af0c23d09", checked := Tryd.checked }
namespace Rows
def none {H : Type} : Left H := { results := [], args := [] }

/- WHAT THE LISTED PACKAGE-LEVEL VARIABLES READ AS WHEN THE CALL BEGINS. Each datum BY PROGRAM (the guide's laid-datum.mjs) off the statement by which the dump's own 'gosem.cut.vars' lays the variable. In a bare row this is a premise. The card (YtlkafolgbkobpaaDoorCards.lean) ties it to the program's text. -/
def laid_dataflow_lex_keywords {H : Type} : DataW H := .agg [.lit (.string [99, 108, 97, 115, 115]), .lit (.string [101, 120, 116, 101, 110, 100, 115]), .lit (.string [118, 97, 114]), .lit (.string [100, 101, 102]), .lit (.string [115, 116, 97, 116, 105, 99]), .lit (.string [105, 102]), .lit (.string [101, 108, 115, 101]), .lit (.string [119, 104, 105, 108, 101]), .lit (.string [116, 114, 121]), .lit (.string [99, 97, 116, 99, 104]), .lit (.string [116, 104, 114, 111, 119]), .lit (.string [114, 101, 116, 117, 114, 110]), .lit (.string [110, 101, 119]), .lit (.string [110, 117, 108, 108]), .lit (.string [116, 104, 105, 115]), .lit (.string [105, 110, 112, 117, 116]), .lit (.string [105, 110, 116])]
def laid_unicode_utf8_acceptRanges {H : Type} : DataW H := .agg [.agg [.lit (.int .u8 128), .lit (.int .u8 191)], .agg [.lit (.int .u8 160), .lit (.int .u8 191)], .agg [.lit (.int .u8 128), .lit (.int .u8 159)], .agg [.lit (.int .u8 144), .lit (.int .u8 191)], .agg [.lit (.int .u8 128), .lit (.int .u8 143)], .agg [.lit (.int .u8 0), .lit (.int .u8 0)], .agg [.lit (.int .u8 0), .lit (.int .u8 0)], .agg [.lit (.int .u8 0), .lit (.int .u8 0)], .agg [.lit (.int .u8 0), .lit (.int .u8 0)], .agg [.lit (.int .u8 0), .lit (.int .u8 0)], .agg [.lit (.int .u8 0), .lit (.int .u8 0)], .agg [.lit (.int .u8 0), .lit (.int .u8 0)], .agg [.lit (.int .u8 0), .lit (.int .u8 0)], .agg [.lit (.int .u8 0), .lit (.int .u8 0)], .agg [.lit (.int .u8 0), .lit (.int .u8 0)], .agg [.lit (.int .u8 0), .lit (.int .u8 0)]]
/-- One of Go's own tables, pinned by name: the form's constant. -/
def laid_unicode_utf8_first : DataW Unit := Go.Pinned.utf8First

/-- 'dataflowlaw39.ProtocolSteps': WHATEVER THE INPUT: true; the input reads as it did. -/
def protocolStepsSpec : ChangeSpec := { name := "protocolSteps", fn := fun _ => fun
  | [d1, d2, d3] => { results := [.lit (.bool true)], args := [d1, d2, d3] }
  | _ => none }
def protocolStepsRow : OpenClaim := { program := "ytlkafolgbkobpaadoor", sum := "aca9b2e3a4fd292967e1ae2a5d514ed793a0da7358cacd2f231c200af0c23d09", func := "dataflow/dataflowlaw39.ProtocolSteps", spec := "protocolSteps", inPlace := ["internal/abi.NoEscape", "internal/bytealg.MakeNoZero"], unfollowed := true, recurses := true, named := ["dataflow/lex.keywords"], apart := false, laid := [("dataflow/lex.keywords", laid_dataflow_lex_keywords)] }
def ProtocolStepsSaid : Prop := protocolStepsRow.holds Tryd.pinned (OpenSpec.ofChange protocolStepsSpec)

/-- ITS FALSE NEIGHBOUR: 'it returns false'. Refute it at one input. -/
def protocolStepsWrong : ChangeSpec := { name := "protocolSteps", fn := fun _ => fun
  | [d1, d2, d3] => { results := [.lit (.bool false)], args := [d1, d2, d3] }
  | _ => none }
def ProtocolStepsWrongFalsely : Prop := protocolStepsRow.holds Tryd.pinned (OpenSpec.ofChange protocolStepsWrong)

/-- 'dataflowlaw39.ProtocolChecks': WHATEVER THE INPUT: true; the input reads as it did. -/
def protocolChecksSpec : ChangeSpec := { name := "protocolChecks", fn := fun _ => fun
  | [d] => { results := [.lit (.bool true)], args := [d] }
  | _ => none }
def protocolChecksRow : OpenClaim := { program := "ytlkafolgbkobpaadoor", sum := "aca9b2e3a4fd292967e1ae2a5d514ed793a0da7358cacd2f231c200af0c23d09", func := "dataflow/dataflowlaw39.ProtocolChecks", spec := "protocolChecks", inPlace := ["internal/abi.NoEscape", "internal/bytealg.MakeNoZero"], unfollowed := true, recurses := true, named := ["dataflow/lex.keywords"], apart := false, laid := [("dataflow/lex.keywords", laid_dataflow_lex_keywords)] }
def ProtocolChecksSaid : Prop := protocolChecksRow.holds Tryd.pinned (OpenSpec.ofChange protocolChecksSpec)

/-- ITS FALSE NEIGHBOUR: 'it returns false'. Refute it at one input. -/
def protocolChecksWrong : ChangeSpec := { name := "protocolChecks", fn := fun _ => fun
  | [d] => { results := [.lit (.bool false)], args := [d] }
  | _ => none }
def ProtocolChecksWrongFalsely : Prop := protocolChecksRow.holds Tryd.pinned (OpenSpec.ofChange protocolChecksWrong)

/-- 'dataflowlaw39.ProtocolAbsorbs': WHATEVER THE INPUT: true; the input reads as it did. -/
def protocolAbsorbsSpec : ChangeSpec := { name := "protocolAbsorbs", fn := fun _ => fun
  | [d1, d2] => { results := [.lit (.bool true)], args := [d1, d2] }
  | _ => none }
def protocolAbsorbsRow : OpenClaim := { program := "ytlkafolgbkobpaadoor", sum := "aca9b2e3a4fd292967e1ae2a5d514ed793a0da7358cacd2f231c200af0c23d09", func := "dataflow/dataflowlaw39.ProtocolAbsorbs", spec := "protocolAbsorbs", inPlace := ["internal/abi.NoEscape", "internal/bytealg.MakeNoZero"], unfollowed := true, recurses := true, named := ["dataflow/lex.keywords"], apart := false, laid := [("dataflow/lex.keywords", laid_dataflow_lex_keywords)] }
def ProtocolAbsorbsSaid : Prop := protocolAbsorbsRow.holds Tryd.pinned (OpenSpec.ofChange protocolAbsorbsSpec)

/-- ITS FALSE NEIGHBOUR: 'it returns false'. Refute it at one input. -/
def protocolAbsorbsWrong : ChangeSpec := { name := "protocolAbsorbs", fn := fun _ => fun
  | [d1, d2] => { results := [.lit (.bool false)], args := [d1, d2] }
  | _ => none }
def ProtocolAbsorbsWrongFalsely : Prop := protocolAbsorbsRow.holds Tryd.pinned (OpenSpec.ofChange protocolAbsorbsWrong)

/-- 'dataflowlaw39.ProtocolBack': WHATEVER THE INPUT: true; the input reads as it did. -/
def protocolBackSpec : ChangeSpec := { name := "protocolBack", fn := fun _ => fun
  | [d] => { results := [.lit (.bool true)], args := [d] }
  | _ => none }
def protocolBackRow : OpenClaim := { program := "ytlkafolgbkobpaadoor", sum := "aca9b2e3a4fd292967e1ae2a5d514ed793a0da7358cacd2f231c200af0c23d09", func := "dataflow/dataflowlaw39.ProtocolBack", spec := "protocolBack", inPlace := ["internal/abi.NoEscape", "internal/bytealg.MakeNoZero", "internal/bytealg.IndexByteString", "internal/bytealg.IndexString", "internal/bytealg.CountString"], unfollowed := true, recurses := true, named := ["dataflow/lex.keywords", "internal/bytealg.MaxLen", "unicode/utf8.first", "unicode/utf8.acceptRanges"], apart := false, laid := [("unicode/utf8.acceptRanges", laid_unicode_utf8_acceptRanges), ("dataflow/lex.keywords", laid_dataflow_lex_keywords), ("unicode/utf8.first", laid_unicode_utf8_first)] }
def ProtocolBackSaid : Prop := protocolBackRow.holds Tryd.pinned (OpenSpec.ofChange protocolBackSpec)

/-- ITS FALSE NEIGHBOUR: 'it returns false'. Refute it at one input. -/
def protocolBackWrong : ChangeSpec := { name := "protocolBack", fn := fun _ => fun
  | [d] => { results := [.lit (.bool false)], args := [d] }
  | _ => none }
def ProtocolBackWrongFalsely : Prop := protocolBackRow.holds Tryd.pinned (OpenSpec.ofChange protocolBackWrong)

/-- 'dataflowlaw39.ProtocolParses': WHATEVER THE INPUT: true; the input reads as it did. -/
def protocolParsesSpec : ChangeSpec := { name := "protocolParses", fn := fun _ => fun
  | [d] => { results := [.lit (.bool true)], args := [d] }
  | _ => none }
def protocolParsesRow : OpenClaim := { program := "ytlkafolgbkobpaadoor", sum := "aca9b2e3a4fd292967e1ae2a5d514ed793a0da7358cacd2f231c200af0c23d09", func := "dataflow/dataflowlaw39.ProtocolParses", spec := "protocolParses", inPlace := ["internal/abi.NoEscape", "internal/bytealg.MakeNoZero", "internal/bytealg.IndexByteString", "internal/bytealg.IndexString", "internal/bytealg.CountString"], unfollowed := true, recurses := true, named := ["dataflow/lex.keywords", "internal/bytealg.MaxLen", "unicode/utf8.first", "unicode/utf8.acceptRanges"], apart := false, laid := [("unicode/utf8.acceptRanges", laid_unicode_utf8_acceptRanges), ("dataflow/lex.keywords", laid_dataflow_lex_keywords), ("unicode/utf8.first", laid_unicode_utf8_first)] }
def ProtocolParsesSaid : Prop := protocolParsesRow.holds Tryd.pinned (OpenSpec.ofChange protocolParsesSpec)

/-- ITS FALSE NEIGHBOUR: 'it returns false'. Refute it at one input. -/
def protocolParsesWrong : ChangeSpec := { name := "protocolParses", fn := fun _ => fun
  | [d] => { results := [.lit (.bool false)], args := [d] }
  | _ => none }
def ProtocolParsesWrongFalsely : Prop := protocolParsesRow.holds Tryd.pinned (OpenSpec.ofChange protocolParsesWrong)

/- THE SECOND FORM. 'bulk': how many values and letters a reading holds, each counted each time it is reached (what is shared counts as often as it is met; a slice's spare places count too). A statement '..UptoSaid' is the law's where the arguments, and the package variables that the reading takes, are together of bulk at most 1048576: NARROWER than '..Said'. Prove '..Said' where nothing that the law and all that it calls make is longer than what came in: it says more and counts as full. Else prove '..UptoSaid'. A law counts once. -/
mutual
def uptoBulk {H : Type} : DataW H → Nat
  | .lit (.string bytes) => bytes.length + 1
  | .lit _ => 1
  | .nil => 1
  | .ptr d => uptoBulk d + 1
  | .slice elems spare => uptoBulkAll elems + uptoBulkAll spare + 1
  | .agg parts => uptoBulkAll parts + 1
  | .iface _ d => uptoBulk d + 1
  | .map entries => uptoBulkEntries entries + 1
  | .held _ => 1
def uptoBulkAll {H : Type} : List (DataW H) → Nat
  | [] => 0
  | d :: r => uptoBulk d + uptoBulkAll r
def uptoBulkEntries {H : Type} : List (Lit × DataW H) → Nat
  | [] => 0
  | x :: r => uptoBulkEntry x + uptoBulkEntries r
def uptoBulkEntry {H : Type} : Lit × DataW H → Nat
  | (.string bytes, d) => bytes.length + uptoBulk d + 1
  | (_, d) => uptoBulk d + 1
 end
def uptoSmall : (H : Type) → List (DataW H) → Bool := fun _ ds => decide (uptoBulkAll ds ≤ 1048576)
def OpenSpec.upto (s : _root_.Go.ChangeSpec) : _root_.Go.OpenSpec := { _root_.Go.OpenSpec.ofChange s with cond := some uptoSmall }

/-- 'dataflowlaw39.ProtocolSteps', WHERE WHAT IT READS IS OF BULK AT MOST 1048576: true; the input reads as it did. -/
def protocolStepsUptoRow : OpenClaim := { program := "ytlkafolgbkobpaadoor", sum := "aca9b2e3a4fd292967e1ae2a5d514ed793a0da7358cacd2f231c200af0c23d09", func := "dataflow/dataflowlaw39.ProtocolSteps", spec := "protocolSteps", inPlace := ["internal/abi.NoEscape", "internal/bytealg.MakeNoZero"], unfollowed := true, recurses := true, named := ["dataflow/lex.keywords"], apart := false, laid := [("dataflow/lex.keywords", laid_dataflow_lex_keywords)], narrowed := true }
def ProtocolStepsUptoSaid : Prop := protocolStepsUptoRow.holds Tryd.pinned (OpenSpec.upto protocolStepsSpec)

/-- 'dataflowlaw39.ProtocolChecks', WHERE WHAT IT READS IS OF BULK AT MOST 1048576: true; the input reads as it did. -/
def protocolChecksUptoRow : OpenClaim := { program := "ytlkafolgbkobpaadoor", sum := "aca9b2e3a4fd292967e1ae2a5d514ed793a0da7358cacd2f231c200af0c23d09", func := "dataflow/dataflowlaw39.ProtocolChecks", spec := "protocolChecks", inPlace := ["internal/abi.NoEscape", "internal/bytealg.MakeNoZero"], unfollowed := true, recurses := true, named := ["dataflow/lex.keywords"], apart := false, laid := [("dataflow/lex.keywords", laid_dataflow_lex_keywords)], narrowed := true }
def ProtocolChecksUptoSaid : Prop := protocolChecksUptoRow.holds Tryd.pinned (OpenSpec.upto protocolChecksSpec)

/-- 'dataflowlaw39.ProtocolAbsorbs', WHERE WHAT IT READS IS OF BULK AT MOST 1048576: true; the input reads as it did. -/
def protocolAbsorbsUptoRow : OpenClaim := { program := "ytlkafolgbkobpaadoor", sum := "aca9b2e3a4fd292967e1ae2a5d514ed793a0da7358cacd2f231c200af0c23d09", func := "dataflow/dataflowlaw39.ProtocolAbsorbs", spec := "protocolAbsorbs", inPlace := ["internal/abi.NoEscape", "internal/bytealg.MakeNoZero"], unfollowed := true, recurses := true, named := ["dataflow/lex.keywords"], apart := false, laid := [("dataflow/lex.keywords", laid_dataflow_lex_keywords)], narrowed := true }
def ProtocolAbsorbsUptoSaid : Prop := protocolAbsorbsUptoRow.holds Tryd.pinned (OpenSpec.upto protocolAbsorbsSpec)

/-- 'dataflowlaw39.ProtocolBack', WHERE WHAT IT READS IS OF BULK AT MOST 1048576: true; the input reads as it did. -/
def protocolBackUptoRow : OpenClaim := { program := "ytlkafolgbkobpaadoor", sum := "aca9b2e3a4fd292967e1ae2a5d514ed793a0da7358cacd2f231c200af0c23d09", func := "dataflow/dataflowlaw39.ProtocolBack", spec := "protocolBack", inPlace := ["internal/abi.NoEscape", "internal/bytealg.MakeNoZero", "internal/bytealg.IndexByteString", "internal/bytealg.IndexString", "internal/bytealg.CountString"], unfollowed := true, recurses := true, named := ["dataflow/lex.keywords", "internal/bytealg.MaxLen", "unicode/utf8.first", "unicode/utf8.acceptRanges"], apart := false, laid := [("unicode/utf8.acceptRanges", laid_unicode_utf8_acceptRanges), ("dataflow/lex.keywords", laid_dataflow_lex_keywords), ("unicode/utf8.first", laid_unicode_utf8_first)], narrowed := true }
def ProtocolBackUptoSaid : Prop := protocolBackUptoRow.holds Tryd.pinned (OpenSpec.upto protocolBackSpec)

/-- 'dataflowlaw39.ProtocolParses', WHERE WHAT IT READS IS OF BULK AT MOST 1048576: true; the input reads as it did. -/
def protocolParsesUptoRow : OpenClaim := { program := "ytlkafolgbkobpaadoor", sum := "aca9b2e3a4fd292967e1ae2a5d514ed793a0da7358cacd2f231c200af0c23d09", func := "dataflow/dataflowlaw39.ProtocolParses", spec := "protocolParses", inPlace := ["internal/abi.NoEscape", "internal/bytealg.MakeNoZero", "internal/bytealg.IndexByteString", "internal/bytealg.IndexString", "internal/bytealg.CountString"], unfollowed := true, recurses := true, named := ["dataflow/lex.keywords", "internal/bytealg.MaxLen", "unicode/utf8.first", "unicode/utf8.acceptRanges"], apart := false, laid := [("unicode/utf8.acceptRanges", laid_unicode_utf8_acceptRanges), ("dataflow/lex.keywords", laid_dataflow_lex_keywords), ("unicode/utf8.first", laid_unicode_utf8_first)], narrowed := true }
def ProtocolParsesUptoSaid : Prop := protocolParsesUptoRow.holds Tryd.pinned (OpenSpec.upto protocolParsesSpec)

end Rows
end Go.Proofs.YtlkafolgbkobpaaDoor
