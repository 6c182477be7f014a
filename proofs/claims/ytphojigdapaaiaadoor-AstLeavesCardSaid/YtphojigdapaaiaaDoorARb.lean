/- Pieces of the document's tokens: the ways of one round. -/
import Derived.Test.YtphojigdapaaiaaDoorARg
import Derived.Test.YtphojigdapaaiaaDoorARt
import Derived.Test.YtphojigdapaaiaaDoorAAs
namespace Go.Proofs.YtphojigdapaaiaaDoor
open Go.ChangeShapes Go.WideShapes Go.ChangeAt Go.RowKit
set_option linter.unusedVariables false
set_option linter.unusedSimpArgs false
/-- A block of a function's text, by its number. -/
def blockOf (n : Nat) : Code → Option Code
  | .block m c => if m = n then some (.block m c) else blockOf n c
  | .seq a b => match blockOf n a with
    | some c => some c
    | none => blockOf n b
  | .cond _ a b => match blockOf n a with
    | some c => some c
    | none => blockOf n b
  | .loop c => blockOf n c
  | .scope c => blockOf n c
  | _ => none
theorem run_field112 (v : Int) (r : Bool) (w : World) : (Instr.field 112 (.agg #[.int .i64 v, .bool r]) 1).run Tryd.prog w = .ok (.bool r) w := by
  kernel_rfl
noncomputable def block43 (n : Nat) : Code := ((Tryd.f43.body).bind (blockOf n)).getD .skip
end Go.Proofs.YtphojigdapaaiaaDoor
