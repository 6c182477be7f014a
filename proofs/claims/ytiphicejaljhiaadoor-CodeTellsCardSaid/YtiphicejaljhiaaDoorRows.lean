/-
  NARROWER THAN 'FOR EVERY INPUT', by the rows' own cells (each row's printed sentence says how): OpTells: laid · OpNames: laid · OpEffects: laid · OpStrange: laid · CodeTells: laid · CodeBack: laid · CodeLengths: laid · CodeSpoilt: laid · VerifyTells: laid · VerifyFlows: laid · VerifyMore: laid · VerifyBounds: laid.
  DERIVED. THE GIVEN ROWS OF THIS SEAT. 12 by the template 'for every input the law returns true; each argument reads behind the call as it read before'; 0 by the template 'total and deterministic' (their statements: YtiphicejaljhiaaDoorTotals.lean).
  GIVEN WITH THE SEED: the statements are not yours to turn. If you find one false, say at which input.
  Laid BY PROGRAM, IN A SANDBOX (cutbox-rows.mjs): the forced cells as the released guide's own fill.sh prints them over the translation f2a9fd7e52079e49… (all of the seat's roots in one cut). By AI agents, Wed Nov 11 2026. No macro, syntax, notation, axiom, sorry.
-/
import Derived.Test.YtiphicejaljhiaaDoorChecked
import GoSem.Claim
import GoSem.ClaimJoined
import GoSem.ClaimMapViews
import Derived.JoinedTies
import Derived.KernelRfl
namespace Go.Proofs.YtiphicejaljhiaaDoor
/- THE CELL 'sum', in the pinned program and in every row, IS THE sha256 OF THE DUMP (.gsa) THAT YtiphicejaljhiaaDoorProg.lean LOADS. Nothing in Lean hashes anything: it is a label: what it is worth is what the hold of that sum in a sandbox is worth. -/
noncomputable def Tryd.pinned : Pinned := { name := "ytiphicejaljhiaadoor", sum := "f2a9fd7e52079e492e547bc5e4c3d518af597c5343b5e8002d438ade1c0a9aef", checked := Tryd.checked }
namespace Rows
def none {H : Type} : Left H := { results := [], args := [] }

/- WHAT THE LISTED PACKAGE-LEVEL VARIABLES READ AS WHEN THE CALL BEGINS. Each datum BY PROGRAM (the guide's laid-datum.mjs) off the statement by which the dump's own 'gosem.cut.vars' lays the variable. In a bare row this is a premise. The card (YtiphicejaljhiaaDoorCards.lean) ties it to the program's text. -/
def laid_stockpot_op_rows {H : Type} : DataW H := .agg [.agg [.lit (.string [105, 110, 116]), .agg [.lit (.int .i64 (-4611686018427387904)), .lit (.int .i64 4611686018427387903)], .agg [.lit (.int .i64 0), .lit (.int .i64 0)], .lit (.int .i64 0), .lit (.int .i64 1)], .agg [.lit (.string [115, 116, 114]), .agg [.lit (.int .i64 0), .lit (.int .i64 39)], .agg [.lit (.int .i64 0), .lit (.int .i64 0)], .lit (.int .i64 0), .lit (.int .i64 1)], .agg [.lit (.string [108, 111, 99, 97, 108]), .agg [.lit (.int .i64 0), .lit (.int .i64 59)], .agg [.lit (.int .i64 0), .lit (.int .i64 0)], .lit (.int .i64 0), .lit (.int .i64 1)], .agg [.lit (.string [115, 101, 116]), .agg [.lit (.int .i64 0), .lit (.int .i64 59)], .agg [.lit (.int .i64 0), .lit (.int .i64 0)], .lit (.int .i64 1), .lit (.int .i64 0)], .agg [.lit (.string [101, 110, 118]), .agg [.lit (.int .i64 0), .lit (.int .i64 29)], .agg [.lit (.int .i64 0), .lit (.int .i64 0)], .lit (.int .i64 0), .lit (.int .i64 1)], .agg [.lit (.string [115, 101, 108, 102]), .agg [.lit (.int .i64 0), .lit (.int .i64 0)], .agg [.lit (.int .i64 0), .lit (.int .i64 0)], .lit (.int .i64 0), .lit (.int .i64 1)], .agg [.lit (.string [99, 108, 111, 115, 101]), .agg [.lit (.int .i64 1), .lit (.int .i64 59)], .agg [.lit (.int .i64 0), .lit (.int .i64 30)], .lit (.int .i64 0), .lit (.int .i64 1)], .agg [.lit (.string [99, 97, 108, 108]), .agg [.lit (.int .i64 0), .lit (.int .i64 0)], .agg [.lit (.int .i64 0), .lit (.int .i64 0)], .lit (.int .i64 2), .lit (.int .i64 1)], .agg [.lit (.string [116, 97, 105, 108]), .agg [.lit (.int .i64 0), .lit (.int .i64 0)], .agg [.lit (.int .i64 0), .lit (.int .i64 0)], .lit (.int .i64 2), .lit (.int .i64 0)], .agg [.lit (.string [114, 101, 116]), .agg [.lit (.int .i64 0), .lit (.int .i64 0)], .agg [.lit (.int .i64 0), .lit (.int .i64 0)], .lit (.int .i64 1), .lit (.int .i64 0)], .agg [.lit (.string [106, 117, 109, 112]), .agg [.lit (.int .i64 0), .lit (.int .i64 599)], .agg [.lit (.int .i64 0), .lit (.int .i64 0)], .lit (.int .i64 0), .lit (.int .i64 0)], .agg [.lit (.string [106, 117, 109, 112, 122]), .agg [.lit (.int .i64 0), .lit (.int .i64 599)], .agg [.lit (.int .i64 0), .lit (.int .i64 0)], .lit (.int .i64 1), .lit (.int .i64 0)], .agg [.lit (.string [97, 100, 100]), .agg [.lit (.int .i64 0), .lit (.int .i64 0)], .agg [.lit (.int .i64 0), .lit (.int .i64 0)], .lit (.int .i64 2), .lit (.int .i64 1)], .agg [.lit (.string [115, 117, 98]), .agg [.lit (.int .i64 0), .lit (.int .i64 0)], .agg [.lit (.int .i64 0), .lit (.int .i64 0)], .lit (.int .i64 2), .lit (.int .i64 1)], .agg [.lit (.string [109, 117, 108]), .agg [.lit (.int .i64 0), .lit (.int .i64 0)], .agg [.lit (.int .i64 0), .lit (.int .i64 0)], .lit (.int .i64 2), .lit (.int .i64 1)], .agg [.lit (.string [100, 105, 118]), .agg [.lit (.int .i64 0), .lit (.int .i64 0)], .agg [.lit (.int .i64 0), .lit (.int .i64 0)], .lit (.int .i64 2), .lit (.int .i64 1)], .agg [.lit (.string [109, 111, 100]), .agg [.lit (.int .i64 0), .lit (.int .i64 0)], .agg [.lit (.int .i64 0), .lit (.int .i64 0)], .lit (.int .i64 2), .lit (.int .i64 1)], .agg [.lit (.string [101, 113]), .agg [.lit (.int .i64 0), .lit (.int .i64 0)], .agg [.lit (.int .i64 0), .lit (.int .i64 0)], .lit (.int .i64 2), .lit (.int .i64 1)], .agg [.lit (.string [108, 101, 115, 115]), .agg [.lit (.int .i64 0), .lit (.int .i64 0)], .agg [.lit (.int .i64 0), .lit (.int .i64 0)], .lit (.int .i64 2), .lit (.int .i64 1)], .agg [.lit (.string [98, 108, 111, 99, 107]), .agg [.lit (.int .i64 0), .lit (.int .i64 255)], .agg [.lit (.int .i64 1), .lit (.int .i64 8)], .lit (.int .i64 0), .lit (.int .i64 1)], .agg [.lit (.string [102, 105, 101, 108, 100]), .agg [.lit (.int .i64 0), .lit (.int .i64 7)], .agg [.lit (.int .i64 0), .lit (.int .i64 0)], .lit (.int .i64 1), .lit (.int .i64 1)], .agg [.lit (.string [105, 115, 105, 110, 116]), .agg [.lit (.int .i64 (-4611686018427387904)), .lit (.int .i64 4611686018427387903)], .agg [.lit (.int .i64 0), .lit (.int .i64 0)], .lit (.int .i64 1), .lit (.int .i64 1)], .agg [.lit (.string [105, 115, 116, 97, 103]), .agg [.lit (.int .i64 0), .lit (.int .i64 255)], .agg [.lit (.int .i64 0), .lit (.int .i64 0)], .lit (.int .i64 1), .lit (.int .i64 1)], .agg [.lit (.string [115, 116, 111, 114, 101]), .agg [.lit (.int .i64 0), .lit (.int .i64 0)], .agg [.lit (.int .i64 0), .lit (.int .i64 0)], .lit (.int .i64 2), .lit (.int .i64 1)], .agg [.lit (.string [97, 114, 114, 97, 121]), .agg [.lit (.int .i64 0), .lit (.int .i64 0)], .agg [.lit (.int .i64 0), .lit (.int .i64 0)], .lit (.int .i64 2), .lit (.int .i64 1)], .agg [.lit (.string [103, 101, 116]), .agg [.lit (.int .i64 0), .lit (.int .i64 0)], .agg [.lit (.int .i64 0), .lit (.int .i64 0)], .lit (.int .i64 2), .lit (.int .i64 1)], .agg [.lit (.string [112, 117, 116]), .agg [.lit (.int .i64 0), .lit (.int .i64 0)], .agg [.lit (.int .i64 0), .lit (.int .i64 0)], .lit (.int .i64 3), .lit (.int .i64 1)], .agg [.lit (.string [108, 101, 110]), .agg [.lit (.int .i64 0), .lit (.int .i64 0)], .agg [.lit (.int .i64 0), .lit (.int .i64 0)], .lit (.int .i64 1), .lit (.int .i64 1)], .agg [.lit (.string [99, 97, 116]), .agg [.lit (.int .i64 0), .lit (.int .i64 0)], .agg [.lit (.int .i64 0), .lit (.int .i64 0)], .lit (.int .i64 2), .lit (.int .i64 1)], .agg [.lit (.string [115, 105, 122, 101]), .agg [.lit (.int .i64 0), .lit (.int .i64 0)], .agg [.lit (.int .i64 0), .lit (.int .i64 0)], .lit (.int .i64 1), .lit (.int .i64 1)], .agg [.lit (.string [98, 121, 116, 101]), .agg [.lit (.int .i64 0), .lit (.int .i64 0)], .agg [.lit (.int .i64 0), .lit (.int .i64 0)], .lit (.int .i64 2), .lit (.int .i64 1)], .agg [.lit (.string [116, 101, 120, 116]), .agg [.lit (.int .i64 0), .lit (.int .i64 0)], .agg [.lit (.int .i64 0), .lit (.int .i64 0)], .lit (.int .i64 1), .lit (.int .i64 1)], .agg [.lit (.string [115, 97, 109, 101]), .agg [.lit (.int .i64 0), .lit (.int .i64 0)], .agg [.lit (.int .i64 0), .lit (.int .i64 0)], .lit (.int .i64 2), .lit (.int .i64 1)], .agg [.lit (.string [116, 114, 121]), .agg [.lit (.int .i64 0), .lit (.int .i64 599)], .agg [.lit (.int .i64 0), .lit (.int .i64 0)], .lit (.int .i64 0), .lit (.int .i64 0)], .agg [.lit (.string [117, 110, 116, 114, 121]), .agg [.lit (.int .i64 0), .lit (.int .i64 0)], .agg [.lit (.int .i64 0), .lit (.int .i64 0)], .lit (.int .i64 0), .lit (.int .i64 0)], .agg [.lit (.string [114, 97, 105, 115, 101]), .agg [.lit (.int .i64 0), .lit (.int .i64 0)], .agg [.lit (.int .i64 0), .lit (.int .i64 0)], .lit (.int .i64 1), .lit (.int .i64 0)], .agg [.lit (.string [104, 111, 115, 116]), .agg [.lit (.int .i64 0), .lit (.int .i64 3)], .agg [.lit (.int .i64 0), .lit (.int .i64 39)], .lit (.int .i64 0), .lit (.int .i64 1)], .agg [.lit (.string [112, 111, 112]), .agg [.lit (.int .i64 0), .lit (.int .i64 0)], .agg [.lit (.int .i64 0), .lit (.int .i64 0)], .lit (.int .i64 1), .lit (.int .i64 0)]]
def laid_stockpot_code_widths {H : Type} : DataW H := .agg [.lit (.int .i64 8), .lit (.int .i64 2), .lit (.int .i64 2), .lit (.int .i64 2), .lit (.int .i64 2), .lit (.int .i64 0), .lit (.int .i64 2), .lit (.int .i64 0), .lit (.int .i64 0), .lit (.int .i64 0), .lit (.int .i64 2), .lit (.int .i64 2), .lit (.int .i64 0), .lit (.int .i64 0), .lit (.int .i64 0), .lit (.int .i64 0), .lit (.int .i64 0), .lit (.int .i64 0), .lit (.int .i64 0), .lit (.int .i64 2), .lit (.int .i64 2), .lit (.int .i64 8), .lit (.int .i64 2), .lit (.int .i64 0), .lit (.int .i64 0), .lit (.int .i64 0), .lit (.int .i64 0), .lit (.int .i64 0), .lit (.int .i64 0), .lit (.int .i64 0), .lit (.int .i64 0), .lit (.int .i64 0), .lit (.int .i64 0), .lit (.int .i64 2), .lit (.int .i64 0), .lit (.int .i64 0), .lit (.int .i64 2), .lit (.int .i64 0)]
def laid_stockpot_code_second {H : Type} : DataW H := .agg [.lit (.bool false), .lit (.bool false), .lit (.bool false), .lit (.bool false), .lit (.bool false), .lit (.bool false), .lit (.bool true), .lit (.bool false), .lit (.bool false), .lit (.bool false), .lit (.bool false), .lit (.bool false), .lit (.bool false), .lit (.bool false), .lit (.bool false), .lit (.bool false), .lit (.bool false), .lit (.bool false), .lit (.bool false), .lit (.bool true), .lit (.bool false), .lit (.bool false), .lit (.bool false), .lit (.bool false), .lit (.bool false), .lit (.bool false), .lit (.bool false), .lit (.bool false), .lit (.bool false), .lit (.bool false), .lit (.bool false), .lit (.bool false), .lit (.bool false), .lit (.bool false), .lit (.bool false), .lit (.bool false), .lit (.bool true), .lit (.bool false)]
def laid_stockpot_verify_unknown {H : Type} : DataW H := .agg [.lit (.int .i64 (-1)), .lit (.int .i64 (-1))]

/-- 'stockpotlaw06.OpTells': WHATEVER THE INPUT: true; the input reads as it did. -/
def opTellsSpec : ChangeSpec := { name := "opTells", fn := fun _ => fun
  | [d1, d2] => { results := [.lit (.bool true)], args := [d1, d2] }
  | _ => none }
def opTellsRow : OpenClaim := { program := "ytiphicejaljhiaadoor", sum := "f2a9fd7e52079e492e547bc5e4c3d518af597c5343b5e8002d438ade1c0a9aef", func := "stockpot/stockpotlaw06.OpTells", spec := "opTells", named := ["stockpot/op.rows"], apart := false, laid := [("stockpot/op.rows", laid_stockpot_op_rows)] }
def OpTellsSaid : Prop := opTellsRow.holds Tryd.pinned (OpenSpec.ofChange opTellsSpec)

/-- ITS FALSE NEIGHBOUR: 'it returns false'. Refute it at one input. -/
def opTellsWrong : ChangeSpec := { name := "opTells", fn := fun _ => fun
  | [d1, d2] => { results := [.lit (.bool false)], args := [d1, d2] }
  | _ => none }
def OpTellsWrongFalsely : Prop := opTellsRow.holds Tryd.pinned (OpenSpec.ofChange opTellsWrong)

/-- 'stockpotlaw06.OpNames': WHATEVER THE INPUT: true; the input reads as it did. -/
def opNamesSpec : ChangeSpec := { name := "opNames", fn := fun _ => fun
  | [d1, d2] => { results := [.lit (.bool true)], args := [d1, d2] }
  | _ => none }
def opNamesRow : OpenClaim := { program := "ytiphicejaljhiaadoor", sum := "f2a9fd7e52079e492e547bc5e4c3d518af597c5343b5e8002d438ade1c0a9aef", func := "stockpot/stockpotlaw06.OpNames", spec := "opNames", named := ["stockpot/op.rows"], apart := false, laid := [("stockpot/op.rows", laid_stockpot_op_rows)] }
def OpNamesSaid : Prop := opNamesRow.holds Tryd.pinned (OpenSpec.ofChange opNamesSpec)

/-- ITS FALSE NEIGHBOUR: 'it returns false'. Refute it at one input. -/
def opNamesWrong : ChangeSpec := { name := "opNames", fn := fun _ => fun
  | [d1, d2] => { results := [.lit (.bool false)], args := [d1, d2] }
  | _ => none }
def OpNamesWrongFalsely : Prop := opNamesRow.holds Tryd.pinned (OpenSpec.ofChange opNamesWrong)

/-- 'stockpotlaw06.OpEffects': WHATEVER THE INPUT: true; the input reads as it did. -/
def opEffectsSpec : ChangeSpec := { name := "opEffects", fn := fun _ => fun
  | [d1, d2] => { results := [.lit (.bool true)], args := [d1, d2] }
  | _ => none }
def opEffectsRow : OpenClaim := { program := "ytiphicejaljhiaadoor", sum := "f2a9fd7e52079e492e547bc5e4c3d518af597c5343b5e8002d438ade1c0a9aef", func := "stockpot/stockpotlaw06.OpEffects", spec := "opEffects", named := ["stockpot/op.rows"], apart := false, laid := [("stockpot/op.rows", laid_stockpot_op_rows)] }
def OpEffectsSaid : Prop := opEffectsRow.holds Tryd.pinned (OpenSpec.ofChange opEffectsSpec)

/-- ITS FALSE NEIGHBOUR: 'it returns false'. Refute it at one input. -/
def opEffectsWrong : ChangeSpec := { name := "opEffects", fn := fun _ => fun
  | [d1, d2] => { results := [.lit (.bool false)], args := [d1, d2] }
  | _ => none }
def OpEffectsWrongFalsely : Prop := opEffectsRow.holds Tryd.pinned (OpenSpec.ofChange opEffectsWrong)

/-- 'stockpotlaw06.OpStrange': WHATEVER THE INPUT: true; the input reads as it did. -/
def opStrangeSpec : ChangeSpec := { name := "opStrange", fn := fun _ => fun
  | [d1, d2] => { results := [.lit (.bool true)], args := [d1, d2] }
  | _ => none }
def opStrangeRow : OpenClaim := { program := "ytiphicejaljhiaadoor", sum := "f2a9fd7e52079e492e547bc5e4c3d518af597c5343b5e8002d438ade1c0a9aef", func := "stockpot/stockpotlaw06.OpStrange", spec := "opStrange", named := ["stockpot/op.rows"], apart := false, laid := [("stockpot/op.rows", laid_stockpot_op_rows)] }
def OpStrangeSaid : Prop := opStrangeRow.holds Tryd.pinned (OpenSpec.ofChange opStrangeSpec)

/-- ITS FALSE NEIGHBOUR: 'it returns false'. Refute it at one input. -/
def opStrangeWrong : ChangeSpec := { name := "opStrange", fn := fun _ => fun
  | [d1, d2] => { results := [.lit (.bool false)], args := [d1, d2] }
  | _ => none }
def OpStrangeWrongFalsely : Prop := opStrangeRow.holds Tryd.pinned (OpenSpec.ofChange opStrangeWrong)

/-- 'stockpotlaw07.CodeTells': WHATEVER THE INPUT: true; the input reads as it did. -/
def codeTellsSpec : ChangeSpec := { name := "codeTells", fn := fun _ => fun
  | [d1, d2] => { results := [.lit (.bool true)], args := [d1, d2] }
  | _ => none }
def codeTellsRow : OpenClaim := { program := "ytiphicejaljhiaadoor", sum := "f2a9fd7e52079e492e547bc5e4c3d518af597c5343b5e8002d438ade1c0a9aef", func := "stockpot/stockpotlaw07.CodeTells", spec := "codeTells", named := ["stockpot/op.rows", "stockpot/code.widths", "stockpot/code.second"], apart := false, laid := [("stockpot/op.rows", laid_stockpot_op_rows), ("stockpot/code.widths", laid_stockpot_code_widths), ("stockpot/code.second", laid_stockpot_code_second)] }
def CodeTellsSaid : Prop := codeTellsRow.holds Tryd.pinned (OpenSpec.ofChange codeTellsSpec)

/-- ITS FALSE NEIGHBOUR: 'it returns false'. Refute it at one input. -/
def codeTellsWrong : ChangeSpec := { name := "codeTells", fn := fun _ => fun
  | [d1, d2] => { results := [.lit (.bool false)], args := [d1, d2] }
  | _ => none }
def CodeTellsWrongFalsely : Prop := codeTellsRow.holds Tryd.pinned (OpenSpec.ofChange codeTellsWrong)

/-- 'stockpotlaw07.CodeBack': WHATEVER THE INPUT: true; the input reads as it did. -/
def codeBackSpec : ChangeSpec := { name := "codeBack", fn := fun _ => fun
  | [d1, d2, d3] => { results := [.lit (.bool true)], args := [d1, d2, d3] }
  | _ => none }
def codeBackRow : OpenClaim := { program := "ytiphicejaljhiaadoor", sum := "f2a9fd7e52079e492e547bc5e4c3d518af597c5343b5e8002d438ade1c0a9aef", func := "stockpot/stockpotlaw07.CodeBack", spec := "codeBack", named := ["stockpot/op.rows", "stockpot/code.widths", "stockpot/code.second"], apart := false, laid := [("stockpot/op.rows", laid_stockpot_op_rows), ("stockpot/code.widths", laid_stockpot_code_widths), ("stockpot/code.second", laid_stockpot_code_second)] }
def CodeBackSaid : Prop := codeBackRow.holds Tryd.pinned (OpenSpec.ofChange codeBackSpec)

/-- ITS FALSE NEIGHBOUR: 'it returns false'. Refute it at one input. -/
def codeBackWrong : ChangeSpec := { name := "codeBack", fn := fun _ => fun
  | [d1, d2, d3] => { results := [.lit (.bool false)], args := [d1, d2, d3] }
  | _ => none }
def CodeBackWrongFalsely : Prop := codeBackRow.holds Tryd.pinned (OpenSpec.ofChange codeBackWrong)

/-- 'stockpotlaw07.CodeLengths': WHATEVER THE INPUT: true; the input reads as it did. -/
def codeLengthsSpec : ChangeSpec := { name := "codeLengths", fn := fun _ => fun
  | [d] => { results := [.lit (.bool true)], args := [d] }
  | _ => none }
def codeLengthsRow : OpenClaim := { program := "ytiphicejaljhiaadoor", sum := "f2a9fd7e52079e492e547bc5e4c3d518af597c5343b5e8002d438ade1c0a9aef", func := "stockpot/stockpotlaw07.CodeLengths", spec := "codeLengths", named := ["stockpot/op.rows", "stockpot/code.widths", "stockpot/code.second"], apart := false, laid := [("stockpot/op.rows", laid_stockpot_op_rows), ("stockpot/code.widths", laid_stockpot_code_widths), ("stockpot/code.second", laid_stockpot_code_second)] }
def CodeLengthsSaid : Prop := codeLengthsRow.holds Tryd.pinned (OpenSpec.ofChange codeLengthsSpec)

/-- ITS FALSE NEIGHBOUR: 'it returns false'. Refute it at one input. -/
def codeLengthsWrong : ChangeSpec := { name := "codeLengths", fn := fun _ => fun
  | [d] => { results := [.lit (.bool false)], args := [d] }
  | _ => none }
def CodeLengthsWrongFalsely : Prop := codeLengthsRow.holds Tryd.pinned (OpenSpec.ofChange codeLengthsWrong)

/-- 'stockpotlaw07.CodeSpoilt': WHATEVER THE INPUT: true; the input reads as it did. -/
def codeSpoiltSpec : ChangeSpec := { name := "codeSpoilt", fn := fun _ => fun
  | [d1, d2, d3] => { results := [.lit (.bool true)], args := [d1, d2, d3] }
  | _ => none }
def codeSpoiltRow : OpenClaim := { program := "ytiphicejaljhiaadoor", sum := "f2a9fd7e52079e492e547bc5e4c3d518af597c5343b5e8002d438ade1c0a9aef", func := "stockpot/stockpotlaw07.CodeSpoilt", spec := "codeSpoilt", named := ["stockpot/op.rows", "stockpot/code.widths", "stockpot/code.second"], apart := false, laid := [("stockpot/op.rows", laid_stockpot_op_rows), ("stockpot/code.widths", laid_stockpot_code_widths), ("stockpot/code.second", laid_stockpot_code_second)] }
def CodeSpoiltSaid : Prop := codeSpoiltRow.holds Tryd.pinned (OpenSpec.ofChange codeSpoiltSpec)

/-- ITS FALSE NEIGHBOUR: 'it returns false'. Refute it at one input. -/
def codeSpoiltWrong : ChangeSpec := { name := "codeSpoilt", fn := fun _ => fun
  | [d1, d2, d3] => { results := [.lit (.bool false)], args := [d1, d2, d3] }
  | _ => none }
def CodeSpoiltWrongFalsely : Prop := codeSpoiltRow.holds Tryd.pinned (OpenSpec.ofChange codeSpoiltWrong)

/-- 'stockpotlaw08.VerifyTells': WHATEVER THE INPUT: true; the input reads as it did. -/
def verifyTellsSpec : ChangeSpec := { name := "verifyTells", fn := fun _ => fun
  | [d1, d2, d3] => { results := [.lit (.bool true)], args := [d1, d2, d3] }
  | _ => none }
def verifyTellsRow : OpenClaim := { program := "ytiphicejaljhiaadoor", sum := "f2a9fd7e52079e492e547bc5e4c3d518af597c5343b5e8002d438ade1c0a9aef", func := "stockpot/stockpotlaw08.VerifyTells", spec := "verifyTells", named := ["stockpot/op.rows", "stockpot/verify.unknown"], apart := false, laid := [("stockpot/op.rows", laid_stockpot_op_rows), ("stockpot/verify.unknown", laid_stockpot_verify_unknown)] }
def VerifyTellsSaid : Prop := verifyTellsRow.holds Tryd.pinned (OpenSpec.ofChange verifyTellsSpec)

/-- ITS FALSE NEIGHBOUR: 'it returns false'. Refute it at one input. -/
def verifyTellsWrong : ChangeSpec := { name := "verifyTells", fn := fun _ => fun
  | [d1, d2, d3] => { results := [.lit (.bool false)], args := [d1, d2, d3] }
  | _ => none }
def VerifyTellsWrongFalsely : Prop := verifyTellsRow.holds Tryd.pinned (OpenSpec.ofChange verifyTellsWrong)

/-- 'stockpotlaw08.VerifyFlows': WHATEVER THE INPUT: true; the input reads as it did. -/
def verifyFlowsSpec : ChangeSpec := { name := "verifyFlows", fn := fun _ => fun
  | [d1, d2, d3] => { results := [.lit (.bool true)], args := [d1, d2, d3] }
  | _ => none }
def verifyFlowsRow : OpenClaim := { program := "ytiphicejaljhiaadoor", sum := "f2a9fd7e52079e492e547bc5e4c3d518af597c5343b5e8002d438ade1c0a9aef", func := "stockpot/stockpotlaw08.VerifyFlows", spec := "verifyFlows", named := ["stockpot/op.rows", "stockpot/verify.unknown"], apart := false, laid := [("stockpot/op.rows", laid_stockpot_op_rows), ("stockpot/verify.unknown", laid_stockpot_verify_unknown)] }
def VerifyFlowsSaid : Prop := verifyFlowsRow.holds Tryd.pinned (OpenSpec.ofChange verifyFlowsSpec)

/-- ITS FALSE NEIGHBOUR: 'it returns false'. Refute it at one input. -/
def verifyFlowsWrong : ChangeSpec := { name := "verifyFlows", fn := fun _ => fun
  | [d1, d2, d3] => { results := [.lit (.bool false)], args := [d1, d2, d3] }
  | _ => none }
def VerifyFlowsWrongFalsely : Prop := verifyFlowsRow.holds Tryd.pinned (OpenSpec.ofChange verifyFlowsWrong)

/-- 'stockpotlaw08.VerifyMore': WHATEVER THE INPUT: true; the input reads as it did. -/
def verifyMoreSpec : ChangeSpec := { name := "verifyMore", fn := fun _ => fun
  | [d1, d2] => { results := [.lit (.bool true)], args := [d1, d2] }
  | _ => none }
def verifyMoreRow : OpenClaim := { program := "ytiphicejaljhiaadoor", sum := "f2a9fd7e52079e492e547bc5e4c3d518af597c5343b5e8002d438ade1c0a9aef", func := "stockpot/stockpotlaw08.VerifyMore", spec := "verifyMore", named := ["stockpot/op.rows", "stockpot/verify.unknown"], apart := false, laid := [("stockpot/op.rows", laid_stockpot_op_rows), ("stockpot/verify.unknown", laid_stockpot_verify_unknown)] }
def VerifyMoreSaid : Prop := verifyMoreRow.holds Tryd.pinned (OpenSpec.ofChange verifyMoreSpec)

/-- ITS FALSE NEIGHBOUR: 'it returns false'. Refute it at one input. -/
def verifyMoreWrong : ChangeSpec := { name := "verifyMore", fn := fun _ => fun
  | [d1, d2] => { results := [.lit (.bool false)], args := [d1, d2] }
  | _ => none }
def VerifyMoreWrongFalsely : Prop := verifyMoreRow.holds Tryd.pinned (OpenSpec.ofChange verifyMoreWrong)

/-- 'stockpotlaw08.VerifyBounds': WHATEVER THE INPUT: true; the input reads as it did. -/
def verifyBoundsSpec : ChangeSpec := { name := "verifyBounds", fn := fun _ => fun
  | [d1, d2] => { results := [.lit (.bool true)], args := [d1, d2] }
  | _ => none }
def verifyBoundsRow : OpenClaim := { program := "ytiphicejaljhiaadoor", sum := "f2a9fd7e52079e492e547bc5e4c3d518af597c5343b5e8002d438ade1c0a9aef", func := "stockpot/stockpotlaw08.VerifyBounds", spec := "verifyBounds", named := ["stockpot/op.rows", "stockpot/verify.unknown"], apart := false, laid := [("stockpot/op.rows", laid_stockpot_op_rows), ("stockpot/verify.unknown", laid_stockpot_verify_unknown)] }
def VerifyBoundsSaid : Prop := verifyBoundsRow.holds Tryd.pinned (OpenSpec.ofChange verifyBoundsSpec)

/-- ITS FALSE NEIGHBOUR: 'it returns false'. Refute it at one input. -/
def verifyBoundsWrong : ChangeSpec := { name := "verifyBounds", fn := fun _ => fun
  | [d1, d2] => { results := [.lit (.bool false)], args := [d1, d2] }
  | _ => none }
def VerifyBoundsWrongFalsely : Prop := verifyBoundsRow.holds Tryd.pinned (OpenSpec.ofChange verifyBoundsWrong)

/- THE SECOND FORM. 'bulk': how many values and letters a reading holds, each counted each time it is reached (what is shared counts as often as it is met; a slice's spare places count too). A statement '..UptoSaid' is the law's where the arguments, and the package variables that the reading takes, are together of bulk at most 1048576: NARROWER than '..Said'. Prove '..Said' where nothing that the law and all that it calls make is longer than what came in: it says more and counts as full. Else prove '..UptoSaid'. A law counts once. -/
mutual
def uptoBulk {H : Type} : DataW H → Nat
  | .lit (.string bytes) => bytes.length + 1
  | .lit _ => 1
  | .nil => 1
  | .ptr d => uptoBulk d + 1
  | .slice elems spare => uptoBulkAll elems + uptoBulkAll spare + 1
  | .agg parts => uptoBulkAll parts + 1
  | .iface _ d => uptoBulk d + 1
  | .map entries => uptoBulkEntries entries + 1
  | .held _ => 1
def uptoBulkAll {H : Type} : List (DataW H) → Nat
  | [] => 0
  | d :: r => uptoBulk d + uptoBulkAll r
def uptoBulkEntries {H : Type} : List (Lit × DataW H) → Nat
  | [] => 0
  | x :: r => uptoBulkEntry x + uptoBulkEntries r
def uptoBulkEntry {H : Type} : Lit × DataW H → Nat
  | (.string bytes, d) => bytes.length + uptoBulk d + 1
  | (_, d) => uptoBulk d + 1
 end
def uptoSmall : (H : Type) → List (DataW H) → Bool := fun _ ds => decide (uptoBulkAll ds ≤ 1048576)
def OpenSpec.upto (s : _root_.Go.ChangeSpec) : _root_.Go.OpenSpec := { _root_.Go.OpenSpec.ofChange s with cond := some uptoSmall }

/-- 'stockpotlaw06.OpTells', WHERE WHAT IT READS IS OF BULK AT MOST 1048576: true; the input reads as it did. -/
def opTellsUptoRow : OpenClaim := { program := "ytiphicejaljhiaadoor", sum := "f2a9fd7e52079e492e547bc5e4c3d518af597c5343b5e8002d438ade1c0a9aef", func := "stockpot/stockpotlaw06.OpTells", spec := "opTells", named := ["stockpot/op.rows"], apart := false, laid := [("stockpot/op.rows", laid_stockpot_op_rows)], narrowed := true }
def OpTellsUptoSaid : Prop := opTellsUptoRow.holds Tryd.pinned (OpenSpec.upto opTellsSpec)

/-- 'stockpotlaw06.OpNames', WHERE WHAT IT READS IS OF BULK AT MOST 1048576: true; the input reads as it did. -/
def opNamesUptoRow : OpenClaim := { program := "ytiphicejaljhiaadoor", sum := "f2a9fd7e52079e492e547bc5e4c3d518af597c5343b5e8002d438ade1c0a9aef", func := "stockpot/stockpotlaw06.OpNames", spec := "opNames", named := ["stockpot/op.rows"], apart := false, laid := [("stockpot/op.rows", laid_stockpot_op_rows)], narrowed := true }
def OpNamesUptoSaid : Prop := opNamesUptoRow.holds Tryd.pinned (OpenSpec.upto opNamesSpec)

/-- 'stockpotlaw06.OpEffects', WHERE WHAT IT READS IS OF BULK AT MOST 1048576: true; the input reads as it did. -/
def opEffectsUptoRow : OpenClaim := { program := "ytiphicejaljhiaadoor", sum := "f2a9fd7e52079e492e547bc5e4c3d518af597c5343b5e8002d438ade1c0a9aef", func := "stockpot/stockpotlaw06.OpEffects", spec := "opEffects", named := ["stockpot/op.rows"], apart := false, laid := [("stockpot/op.rows", laid_stockpot_op_rows)], narrowed := true }
def OpEffectsUptoSaid : Prop := opEffectsUptoRow.holds Tryd.pinned (OpenSpec.upto opEffectsSpec)

/-- 'stockpotlaw06.OpStrange', WHERE WHAT IT READS IS OF BULK AT MOST 1048576: true; the input reads as it did. -/
def opStrangeUptoRow : OpenClaim := { program := "ytiphicejaljhiaadoor", sum := "f2a9fd7e52079e492e547bc5e4c3d518af597c5343b5e8002d438ade1c0a9aef", func := "stockpot/stockpotlaw06.OpStrange", spec := "opStrange", named := ["stockpot/op.rows"], apart := false, laid := [("stockpot/op.rows", laid_stockpot_op_rows)], narrowed := true }
def OpStrangeUptoSaid : Prop := opStrangeUptoRow.holds Tryd.pinned (OpenSpec.upto opStrangeSpec)

/-- 'stockpotlaw07.CodeTells', WHERE WHAT IT READS IS OF BULK AT MOST 1048576: true; the input reads as it did. -/
def codeTellsUptoRow : OpenClaim := { program := "ytiphicejaljhiaadoor", sum := "f2a9fd7e52079e492e547bc5e4c3d518af597c5343b5e8002d438ade1c0a9aef", func := "stockpot/stockpotlaw07.CodeTells", spec := "codeTells", named := ["stockpot/op.rows", "stockpot/code.widths", "stockpot/code.second"], apart := false, laid := [("stockpot/op.rows", laid_stockpot_op_rows), ("stockpot/code.widths", laid_stockpot_code_widths), ("stockpot/code.second", laid_stockpot_code_second)], narrowed := true }
def CodeTellsUptoSaid : Prop := codeTellsUptoRow.holds Tryd.pinned (OpenSpec.upto codeTellsSpec)

/-- 'stockpotlaw07.CodeBack', WHERE WHAT IT READS IS OF BULK AT MOST 1048576: true; the input reads as it did. -/
def codeBackUptoRow : OpenClaim := { program := "ytiphicejaljhiaadoor", sum := "f2a9fd7e52079e492e547bc5e4c3d518af597c5343b5e8002d438ade1c0a9aef", func := "stockpot/stockpotlaw07.CodeBack", spec := "codeBack", named := ["stockpot/op.rows", "stockpot/code.widths", "stockpot/code.second"], apart := false, laid := [("stockpot/op.rows", laid_stockpot_op_rows), ("stockpot/code.widths", laid_stockpot_code_widths), ("stockpot/code.second", laid_stockpot_code_second)], narrowed := true }
def CodeBackUptoSaid : Prop := codeBackUptoRow.holds Tryd.pinned (OpenSpec.upto codeBackSpec)

/-- 'stockpotlaw07.CodeLengths', WHERE WHAT IT READS IS OF BULK AT MOST 1048576: true; the input reads as it did. -/
def codeLengthsUptoRow : OpenClaim := { program := "ytiphicejaljhiaadoor", sum := "f2a9fd7e52079e492e547bc5e4c3d518af597c5343b5e8002d438ade1c0a9aef", func := "stockpot/stockpotlaw07.CodeLengths", spec := "codeLengths", named := ["stockpot/op.rows", "stockpot/code.widths", "stockpot/code.second"], apart := false, laid := [("stockpot/op.rows", laid_stockpot_op_rows), ("stockpot/code.widths", laid_stockpot_code_widths), ("stockpot/code.second", laid_stockpot_code_second)], narrowed := true }
def CodeLengthsUptoSaid : Prop := codeLengthsUptoRow.holds Tryd.pinned (OpenSpec.upto codeLengthsSpec)

/-- 'stockpotlaw07.CodeSpoilt', WHERE WHAT IT READS IS OF BULK AT MOST 1048576: true; the input reads as it did. -/
def codeSpoiltUptoRow : OpenClaim := { program := "ytiphicejaljhiaadoor", sum := "f2a9fd7e52079e492e547bc5e4c3d518af597c5343b5e8002d438ade1c0a9aef", func := "stockpot/stockpotlaw07.CodeSpoilt", spec := "codeSpoilt", named := ["stockpot/op.rows", "stockpot/code.widths", "stockpot/code.second"], apart := false, laid := [("stockpot/op.rows", laid_stockpot_op_rows), ("stockpot/code.widths", laid_stockpot_code_widths), ("stockpot/code.second", laid_stockpot_code_second)], narrowed := true }
def CodeSpoiltUptoSaid : Prop := codeSpoiltUptoRow.holds Tryd.pinned (OpenSpec.upto codeSpoiltSpec)

/-- 'stockpotlaw08.VerifyTells', WHERE WHAT IT READS IS OF BULK AT MOST 1048576: true; the input reads as it did. -/
def verifyTellsUptoRow : OpenClaim := { program := "ytiphicejaljhiaadoor", sum := "f2a9fd7e52079e492e547bc5e4c3d518af597c5343b5e8002d438ade1c0a9aef", func := "stockpot/stockpotlaw08.VerifyTells", spec := "verifyTells", named := ["stockpot/op.rows", "stockpot/verify.unknown"], apart := false, laid := [("stockpot/op.rows", laid_stockpot_op_rows), ("stockpot/verify.unknown", laid_stockpot_verify_unknown)], narrowed := true }
def VerifyTellsUptoSaid : Prop := verifyTellsUptoRow.holds Tryd.pinned (OpenSpec.upto verifyTellsSpec)

/-- 'stockpotlaw08.VerifyFlows', WHERE WHAT IT READS IS OF BULK AT MOST 1048576: true; the input reads as it did. -/
def verifyFlowsUptoRow : OpenClaim := { program := "ytiphicejaljhiaadoor", sum := "f2a9fd7e52079e492e547bc5e4c3d518af597c5343b5e8002d438ade1c0a9aef", func := "stockpot/stockpotlaw08.VerifyFlows", spec := "verifyFlows", named := ["stockpot/op.rows", "stockpot/verify.unknown"], apart := false, laid := [("stockpot/op.rows", laid_stockpot_op_rows), ("stockpot/verify.unknown", laid_stockpot_verify_unknown)], narrowed := true }
def VerifyFlowsUptoSaid : Prop := verifyFlowsUptoRow.holds Tryd.pinned (OpenSpec.upto verifyFlowsSpec)

/-- 'stockpotlaw08.VerifyMore', WHERE WHAT IT READS IS OF BULK AT MOST 1048576: true; the input reads as it did. -/
def verifyMoreUptoRow : OpenClaim := { program := "ytiphicejaljhiaadoor", sum := "f2a9fd7e52079e492e547bc5e4c3d518af597c5343b5e8002d438ade1c0a9aef", func := "stockpot/stockpotlaw08.VerifyMore", spec := "verifyMore", named := ["stockpot/op.rows", "stockpot/verify.unknown"], apart := false, laid := [("stockpot/op.rows", laid_stockpot_op_rows), ("stockpot/verify.unknown", laid_stockpot_verify_unknown)], narrowed := true }
def VerifyMoreUptoSaid : Prop := verifyMoreUptoRow.holds Tryd.pinned (OpenSpec.upto verifyMoreSpec)

/-- 'stockpotlaw08.VerifyBounds', WHERE WHAT IT READS IS OF BULK AT MOST 1048576: true; the input reads as it did. -/
def verifyBoundsUptoRow : OpenClaim := { program := "ytiphicejaljhiaadoor", sum := "f2a9fd7e52079e492e547bc5e4c3d518af597c5343b5e8002d438ade1c0a9aef", func := "stockpot/stockpotlaw08.VerifyBounds", spec := "verifyBounds", named := ["stockpot/op.rows", "stockpot/verify.unknown"], apart := false, laid := [("stockpot/op.rows", laid_stockpot_op_rows), ("stockpot/verify.unknown", laid_stockpot_verify_unknown)], narrowed := true }
def VerifyBoundsUptoSaid : Prop := verifyBoundsUptoRow.holds Tryd.pinned (OpenSpec.upto verifyBoundsSpec)

end Rows
end Go.Proofs.YtiphicejaljhiaaDoor
