/-
  NARROWER THAN 'FOR EVERY INPUT', by the rows' own cells (each row's printed sentence says how): AstLeaves: laid · ScopeBinds: calm, laid · ScopeCons: laid.
  DERIVED. THE GIVEN ROWS OF THIS SEAT. 3 by the template 'for every input the law returns true; each argument reads behind the call as it read before'; 0 by the template 'total and deterministic' (their statements: YtphojigdapaaiaaDoorTotals.lean).
  GIVEN WITH THE SEED: the statements are not yours to turn. If you find one false, say at which input.
  Laid BY PROGRAM, IN A SANDBOX (cutbox-rows.mjs): the forced cells as the released guide's own fill.sh prints them over the translation 475444856502c4ca… (all of the seat's roots in one cut). By AI agents, Wed Nov 11 2026. No macro, syntax, notation, axiom, sorry.
-/
import Derived.Test.YtphojigdapaaiaaDoorChecked
import GoSem.Claim
import GoSem.ClaimJoined
import GoSem.ClaimMapViews
import Derived.JoinedTies
import Derived.KernelRfl
namespace Go.Proofs.YtphojigdapaaiaaDoor
/- THE CELL 'sum', in the pinned program and in every row, IS THE sha256 OF THE DUMP (.gsa) THAT YtphojigdapaaiaaDoorProg.lean LOADS. Nothing in Lean hashes anything: it is a label: what it is worth is what the hold of that sum in a sandbox is worth. -/
noncomputable def Tryd.pinned : Pinned := { name := "ytphojigdapaaiaadoor", sum := "475444856502c4ca34e3b050d034a2c6ec2e1de4e21c639acc7da8cf9eca53d1", checked := Tryd.checked }
namespace Rows
def none {H : Type} : Left H := { results := [], args := [] }

/- WHAT THE LISTED PACKAGE-LEVEL VARIABLES READ AS WHEN THE CALL BEGINS. Each datum BY PROGRAM (the guide's laid-datum.mjs) off the statement by which the dump's own 'gosem.cut.vars' lays the variable. In a bare row this is a premise. The card (YtphojigdapaaiaaDoorCards.lean) ties it to the program's text. -/
def laid_stockpot_lex_words {H : Type} : DataW H := .agg [.lit (.string [108, 101, 116]), .lit (.string [114, 101, 99]), .lit (.string [105, 110]), .lit (.string [102, 117, 110]), .lit (.string [105, 102]), .lit (.string [116, 104, 101, 110]), .lit (.string [101, 108, 115, 101]), .lit (.string [109, 97, 116, 99, 104]), .lit (.string [119, 105, 116, 104]), .lit (.string [101, 110, 100]), .lit (.string [116, 114, 121]), .lit (.string [114, 97, 105, 115, 101]), .lit (.string [116, 121, 112, 101]), .lit (.string [111, 102]), .lit (.string [116, 114, 117, 101]), .lit (.string [102, 97, 108, 115, 101]), .lit (.string [114, 101, 102]), .lit (.string [101, 109, 105, 116]), .lit (.string [108, 111, 103]), .lit (.string [115, 101, 110, 100]), .lit (.string [114, 101, 99, 118]), .lit (.string [115, 105, 122, 101]), .lit (.string [98, 121, 116, 101]), .lit (.string [116, 101, 120, 116]), .lit (.string [115, 97, 109, 101]), .lit (.string [97, 114, 114, 97, 121]), .lit (.string [103, 101, 116]), .lit (.string [112, 117, 116]), .lit (.string [108, 101, 110]), .lit (.string [105, 110, 116]), .lit (.string [98, 111, 111, 108]), .lit (.string [117, 110, 105, 116]), .lit (.string [115, 116, 114, 105, 110, 103]), .lit (.string [108, 105, 115, 116])]
def laid_stockpot_ast_rows {H : Type} : DataW H := .agg [.agg [.lit (.int .u8 0), .lit (.int .u8 0), .lit (.int .u8 0), .lit (.int .u8 0), .lit (.int .i64 0), .lit (.int .i64 0), .lit (.int .i64 0), .lit (.int .i64 0)], .agg [.lit (.int .u8 101), .lit (.int .u8 0), .lit (.int .u8 0), .lit (.int .u8 0), .lit (.int .i64 0), .lit (.int .i64 0), .lit (.int .i64 0), .lit (.int .i64 4611686018427387903)], .agg [.lit (.int .u8 101), .lit (.int .u8 0), .lit (.int .u8 0), .lit (.int .u8 0), .lit (.int .i64 0), .lit (.int .i64 0), .lit (.int .i64 0), .lit (.int .i64 1)], .agg [.lit (.int .u8 101), .lit (.int .u8 0), .lit (.int .u8 0), .lit (.int .u8 0), .lit (.int .i64 0), .lit (.int .i64 0), .lit (.int .i64 0), .lit (.int .i64 0)], .agg [.lit (.int .u8 101), .lit (.int .u8 0), .lit (.int .u8 0), .lit (.int .u8 0), .lit (.int .i64 4), .lit (.int .i64 0), .lit (.int .i64 0), .lit (.int .i64 0)], .agg [.lit (.int .u8 101), .lit (.int .u8 0), .lit (.int .u8 0), .lit (.int .u8 0), .lit (.int .i64 1), .lit (.int .i64 0), .lit (.int .i64 0), .lit (.int .i64 0)], .agg [.lit (.int .u8 101), .lit (.int .u8 69), .lit (.int .u8 0), .lit (.int .u8 0), .lit (.int .i64 3), .lit (.int .i64 0), .lit (.int .i64 0), .lit (.int .i64 0)], .agg [.lit (.int .u8 101), .lit (.int .u8 0), .lit (.int .u8 0), .lit (.int .u8 0), .lit (.int .i64 0), .lit (.int .i64 0), .lit (.int .i64 0), .lit (.int .i64 0)], .agg [.lit (.int .u8 101), .lit (.int .u8 101), .lit (.int .u8 101), .lit (.int .u8 0), .lit (.int .i64 0), .lit (.int .i64 0), .lit (.int .i64 0), .lit (.int .i64 0)], .agg [.lit (.int .u8 101), .lit (.int .u8 101), .lit (.int .u8 101), .lit (.int .u8 0), .lit (.int .i64 0), .lit (.int .i64 0), .lit (.int .i64 0), .lit (.int .i64 0)], .agg [.lit (.int .u8 101), .lit (.int .u8 101), .lit (.int .u8 0), .lit (.int .u8 0), .lit (.int .i64 2), .lit (.int .i64 0), .lit (.int .i64 0), .lit (.int .i64 0)], .agg [.lit (.int .u8 101), .lit (.int .u8 101), .lit (.int .u8 101), .lit (.int .u8 0), .lit (.int .i64 0), .lit (.int .i64 0), .lit (.int .i64 0), .lit (.int .i64 0)], .agg [.lit (.int .u8 101), .lit (.int .u8 101), .lit (.int .u8 101), .lit (.int .u8 0), .lit (.int .i64 2), .lit (.int .i64 0), .lit (.int .i64 0), .lit (.int .i64 0)], .agg [.lit (.int .u8 101), .lit (.int .u8 101), .lit (.int .u8 101), .lit (.int .u8 0), .lit (.int .i64 1), .lit (.int .i64 1), .lit (.int .i64 0), .lit (.int .i64 0)], .agg [.lit (.int .u8 101), .lit (.int .u8 101), .lit (.int .u8 101), .lit (.int .u8 101), .lit (.int .i64 0), .lit (.int .i64 0), .lit (.int .i64 0), .lit (.int .i64 0)], .agg [.lit (.int .u8 101), .lit (.int .u8 101), .lit (.int .u8 101), .lit (.int .u8 0), .lit (.int .i64 0), .lit (.int .i64 0), .lit (.int .i64 0), .lit (.int .i64 38)], .agg [.lit (.int .u8 101), .lit (.int .u8 101), .lit (.int .u8 101), .lit (.int .u8 0), .lit (.int .i64 0), .lit (.int .i64 0), .lit (.int .i64 0), .lit (.int .i64 0)], .agg [.lit (.int .u8 101), .lit (.int .u8 101), .lit (.int .u8 101), .lit (.int .u8 0), .lit (.int .i64 0), .lit (.int .i64 0), .lit (.int .i64 0), .lit (.int .i64 0)], .agg [.lit (.int .u8 101), .lit (.int .u8 101), .lit (.int .u8 99), .lit (.int .u8 0), .lit (.int .i64 0), .lit (.int .i64 0), .lit (.int .i64 0), .lit (.int .i64 0)], .agg [.lit (.int .u8 99), .lit (.int .u8 112), .lit (.int .u8 101), .lit (.int .u8 67), .lit (.int .i64 0), .lit (.int .i64 0), .lit (.int .i64 0), .lit (.int .i64 0)], .agg [.lit (.int .u8 101), .lit (.int .u8 101), .lit (.int .u8 0), .lit (.int .u8 0), .lit (.int .i64 0), .lit (.int .i64 0), .lit (.int .i64 0), .lit (.int .i64 0)], .agg [.lit (.int .u8 101), .lit (.int .u8 101), .lit (.int .u8 101), .lit (.int .u8 0), .lit (.int .i64 1), .lit (.int .i64 0), .lit (.int .i64 0), .lit (.int .i64 0)], .agg [.lit (.int .u8 101), .lit (.int .u8 101), .lit (.int .u8 0), .lit (.int .u8 0), .lit (.int .i64 0), .lit (.int .i64 0), .lit (.int .i64 0), .lit (.int .i64 0)], .agg [.lit (.int .u8 101), .lit (.int .u8 101), .lit (.int .u8 0), .lit (.int .u8 0), .lit (.int .i64 0), .lit (.int .i64 0), .lit (.int .i64 0), .lit (.int .i64 0)], .agg [.lit (.int .u8 101), .lit (.int .u8 101), .lit (.int .u8 69), .lit (.int .u8 69), .lit (.int .i64 0), .lit (.int .i64 0), .lit (.int .i64 0), .lit (.int .i64 38)], .agg [.lit (.int .u8 101), .lit (.int .u8 69), .lit (.int .u8 69), .lit (.int .u8 0), .lit (.int .i64 0), .lit (.int .i64 0), .lit (.int .i64 0), .lit (.int .i64 3)], .agg [.lit (.int .u8 112), .lit (.int .u8 0), .lit (.int .u8 0), .lit (.int .u8 0), .lit (.int .i64 0), .lit (.int .i64 0), .lit (.int .i64 0), .lit (.int .i64 0)], .agg [.lit (.int .u8 112), .lit (.int .u8 0), .lit (.int .u8 0), .lit (.int .u8 0), .lit (.int .i64 1), .lit (.int .i64 0), .lit (.int .i64 0), .lit (.int .i64 0)], .agg [.lit (.int .u8 112), .lit (.int .u8 0), .lit (.int .u8 0), .lit (.int .u8 0), .lit (.int .i64 0), .lit (.int .i64 0), .lit (.int .i64 (-4611686018427387903)), .lit (.int .i64 4611686018427387903)], .agg [.lit (.int .u8 112), .lit (.int .u8 0), .lit (.int .u8 0), .lit (.int .u8 0), .lit (.int .i64 0), .lit (.int .i64 0), .lit (.int .i64 0), .lit (.int .i64 1)], .agg [.lit (.int .u8 112), .lit (.int .u8 0), .lit (.int .u8 0), .lit (.int .u8 0), .lit (.int .i64 0), .lit (.int .i64 0), .lit (.int .i64 0), .lit (.int .i64 0)], .agg [.lit (.int .u8 112), .lit (.int .u8 0), .lit (.int .u8 0), .lit (.int .u8 0), .lit (.int .i64 0), .lit (.int .i64 0), .lit (.int .i64 0), .lit (.int .i64 0)], .agg [.lit (.int .u8 112), .lit (.int .u8 112), .lit (.int .u8 112), .lit (.int .u8 0), .lit (.int .i64 0), .lit (.int .i64 0), .lit (.int .i64 0), .lit (.int .i64 0)], .agg [.lit (.int .u8 112), .lit (.int .u8 112), .lit (.int .u8 112), .lit (.int .u8 0), .lit (.int .i64 0), .lit (.int .i64 0), .lit (.int .i64 0), .lit (.int .i64 0)], .agg [.lit (.int .u8 112), .lit (.int .u8 80), .lit (.int .u8 0), .lit (.int .u8 0), .lit (.int .i64 3), .lit (.int .i64 0), .lit (.int .i64 0), .lit (.int .i64 0)], .agg [.lit (.int .u8 116), .lit (.int .u8 0), .lit (.int .u8 0), .lit (.int .u8 0), .lit (.int .i64 0), .lit (.int .i64 0), .lit (.int .i64 0), .lit (.int .i64 0)], .agg [.lit (.int .u8 116), .lit (.int .u8 0), .lit (.int .u8 0), .lit (.int .u8 0), .lit (.int .i64 0), .lit (.int .i64 0), .lit (.int .i64 0), .lit (.int .i64 0)], .agg [.lit (.int .u8 116), .lit (.int .u8 0), .lit (.int .u8 0), .lit (.int .u8 0), .lit (.int .i64 0), .lit (.int .i64 0), .lit (.int .i64 0), .lit (.int .i64 0)], .agg [.lit (.int .u8 116), .lit (.int .u8 0), .lit (.int .u8 0), .lit (.int .u8 0), .lit (.int .i64 0), .lit (.int .i64 0), .lit (.int .i64 0), .lit (.int .i64 0)], .agg [.lit (.int .u8 116), .lit (.int .u8 0), .lit (.int .u8 0), .lit (.int .u8 0), .lit (.int .i64 1), .lit (.int .i64 0), .lit (.int .i64 0), .lit (.int .i64 0)], .agg [.lit (.int .u8 116), .lit (.int .u8 116), .lit (.int .u8 0), .lit (.int .u8 0), .lit (.int .i64 0), .lit (.int .i64 0), .lit (.int .i64 0), .lit (.int .i64 0)], .agg [.lit (.int .u8 116), .lit (.int .u8 116), .lit (.int .u8 116), .lit (.int .u8 0), .lit (.int .i64 0), .lit (.int .i64 0), .lit (.int .i64 0), .lit (.int .i64 0)], .agg [.lit (.int .u8 0), .lit (.int .u8 107), .lit (.int .u8 0), .lit (.int .u8 0), .lit (.int .i64 1), .lit (.int .i64 0), .lit (.int .i64 0), .lit (.int .i64 0)], .agg [.lit (.int .u8 107), .lit (.int .u8 84), .lit (.int .u8 75), .lit (.int .u8 0), .lit (.int .i64 3), .lit (.int .i64 0), .lit (.int .i64 0), .lit (.int .i64 0)]]

/-- 'stockpotlaw15.AstLeaves': WHATEVER THE INPUT: true; the input reads as it did. -/
def astLeavesSpec : ChangeSpec := { name := "astLeaves", fn := fun _ => fun
  | [d] => { results := [.lit (.bool true)], args := [d] }
  | _ => none }
def astLeavesRow : OpenClaim := { program := "ytphojigdapaaiaadoor", sum := "475444856502c4ca34e3b050d034a2c6ec2e1de4e21c639acc7da8cf9eca53d1", func := "stockpot/stockpotlaw15.AstLeaves", spec := "astLeaves", unfollowed := true, recurses := true, named := ["stockpot/ast.rows", "stockpot/lex.words", "stockpot/op.rows"], apart := false, laid := [("stockpot/lex.words", laid_stockpot_lex_words), ("stockpot/ast.rows", laid_stockpot_ast_rows)] }
def AstLeavesSaid : Prop := astLeavesRow.holds Tryd.pinned (OpenSpec.ofChange astLeavesSpec)

/-- ITS FALSE NEIGHBOUR: 'it returns false'. Refute it at one input. -/
def astLeavesWrong : ChangeSpec := { name := "astLeaves", fn := fun _ => fun
  | [d] => { results := [.lit (.bool false)], args := [d] }
  | _ => none }
def AstLeavesWrongFalsely : Prop := astLeavesRow.holds Tryd.pinned (OpenSpec.ofChange astLeavesWrong)

/-- 'stockpotlaw18.ScopeBinds': WHATEVER THE INPUT: true; the input reads as it did. -/
def scopeBindsSpec : ChangeSpec := { name := "scopeBinds", fn := fun _ => fun
  | [d1, d2] => { results := [.lit (.bool true)], args := [d1, d2] }
  | _ => none }
def scopeBindsRow : OpenClaim := { program := "ytphojigdapaaiaadoor", sum := "475444856502c4ca34e3b050d034a2c6ec2e1de4e21c639acc7da8cf9eca53d1", func := "stockpot/stockpotlaw18.ScopeBinds", spec := "scopeBinds", unfollowed := true, recurses := true, named := ["stockpot/ast.rows", "stockpot/lex.words", "stockpot/op.rows"], apart := false, calm := true, outside := [.timePasses], laid := [("stockpot/lex.words", laid_stockpot_lex_words), ("stockpot/ast.rows", laid_stockpot_ast_rows)] }
def ScopeBindsSaid : Prop := scopeBindsRow.holds Tryd.pinned (OpenSpec.ofChange scopeBindsSpec)

/-- ITS FALSE NEIGHBOUR: 'it returns false'. Refute it at one input. -/
def scopeBindsWrong : ChangeSpec := { name := "scopeBinds", fn := fun _ => fun
  | [d1, d2] => { results := [.lit (.bool false)], args := [d1, d2] }
  | _ => none }
def ScopeBindsWrongFalsely : Prop := scopeBindsRow.holds Tryd.pinned (OpenSpec.ofChange scopeBindsWrong)

/-- 'stockpotlaw18.ScopeCons': WHATEVER THE INPUT: true; the input reads as it did. -/
def scopeConsSpec : ChangeSpec := { name := "scopeCons", fn := fun _ => fun
  | [d] => { results := [.lit (.bool true)], args := [d] }
  | _ => none }
def scopeConsRow : OpenClaim := { program := "ytphojigdapaaiaadoor", sum := "475444856502c4ca34e3b050d034a2c6ec2e1de4e21c639acc7da8cf9eca53d1", func := "stockpot/stockpotlaw18.ScopeCons", spec := "scopeCons", unfollowed := true, recurses := true, named := ["stockpot/ast.rows", "stockpot/lex.words", "stockpot/op.rows"], apart := false, laid := [("stockpot/lex.words", laid_stockpot_lex_words), ("stockpot/ast.rows", laid_stockpot_ast_rows)] }
def ScopeConsSaid : Prop := scopeConsRow.holds Tryd.pinned (OpenSpec.ofChange scopeConsSpec)

/-- ITS FALSE NEIGHBOUR: 'it returns false'. Refute it at one input. -/
def scopeConsWrong : ChangeSpec := { name := "scopeCons", fn := fun _ => fun
  | [d] => { results := [.lit (.bool false)], args := [d] }
  | _ => none }
def ScopeConsWrongFalsely : Prop := scopeConsRow.holds Tryd.pinned (OpenSpec.ofChange scopeConsWrong)

/- THE SECOND FORM. 'bulk': how many values and letters a reading holds, each counted each time it is reached (what is shared counts as often as it is met; a slice's spare places count too). A statement '..UptoSaid' is the law's where the arguments, and the package variables that the reading takes, are together of bulk at most 1048576: NARROWER than '..Said'. Prove '..Said' where nothing that the law and all that it calls make is longer than what came in: it says more and counts as full. Else prove '..UptoSaid'. A law counts once. -/
mutual
def uptoBulk {H : Type} : DataW H → Nat
  | .lit (.string bytes) => bytes.length + 1
  | .lit _ => 1
  | .nil => 1
  | .ptr d => uptoBulk d + 1
  | .slice elems spare => uptoBulkAll elems + uptoBulkAll spare + 1
  | .agg parts => uptoBulkAll parts + 1
  | .iface _ d => uptoBulk d + 1
  | .map entries => uptoBulkEntries entries + 1
  | .held _ => 1
def uptoBulkAll {H : Type} : List (DataW H) → Nat
  | [] => 0
  | d :: r => uptoBulk d + uptoBulkAll r
def uptoBulkEntries {H : Type} : List (Lit × DataW H) → Nat
  | [] => 0
  | x :: r => uptoBulkEntry x + uptoBulkEntries r
def uptoBulkEntry {H : Type} : Lit × DataW H → Nat
  | (.string bytes, d) => bytes.length + uptoBulk d + 1
  | (_, d) => uptoBulk d + 1
 end
def uptoSmall : (H : Type) → List (DataW H) → Bool := fun _ ds => decide (uptoBulkAll ds ≤ 1048576)
def OpenSpec.upto (s : _root_.Go.ChangeSpec) : _root_.Go.OpenSpec := { _root_.Go.OpenSpec.ofChange s with cond := some uptoSmall }

/-- 'stockpotlaw15.AstLeaves', WHERE WHAT IT READS IS OF BULK AT MOST 1048576: true; the input reads as it did. -/
def astLeavesUptoRow : OpenClaim := { program := "ytphojigdapaaiaadoor", sum := "475444856502c4ca34e3b050d034a2c6ec2e1de4e21c639acc7da8cf9eca53d1", func := "stockpot/stockpotlaw15.AstLeaves", spec := "astLeaves", unfollowed := true, recurses := true, named := ["stockpot/ast.rows", "stockpot/lex.words", "stockpot/op.rows"], apart := false, laid := [("stockpot/lex.words", laid_stockpot_lex_words), ("stockpot/ast.rows", laid_stockpot_ast_rows)], narrowed := true }
def AstLeavesUptoSaid : Prop := astLeavesUptoRow.holds Tryd.pinned (OpenSpec.upto astLeavesSpec)

/-- 'stockpotlaw18.ScopeCons', WHERE WHAT IT READS IS OF BULK AT MOST 1048576: true; the input reads as it did. -/
def scopeConsUptoRow : OpenClaim := { program := "ytphojigdapaaiaadoor", sum := "475444856502c4ca34e3b050d034a2c6ec2e1de4e21c639acc7da8cf9eca53d1", func := "stockpot/stockpotlaw18.ScopeCons", spec := "scopeCons", unfollowed := true, recurses := true, named := ["stockpot/ast.rows", "stockpot/lex.words", "stockpot/op.rows"], apart := false, laid := [("stockpot/lex.words", laid_stockpot_lex_words), ("stockpot/ast.rows", laid_stockpot_ast_rows)], narrowed := true }
def ScopeConsUptoSaid : Prop := scopeConsUptoRow.holds Tryd.pinned (OpenSpec.upto scopeConsSpec)

end Rows
end Go.Proofs.YtphojigdapaaiaaDoor
