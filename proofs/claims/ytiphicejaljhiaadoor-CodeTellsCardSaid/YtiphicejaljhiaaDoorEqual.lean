/- bytes.Equal, keep.Bytes: are two slices of bytes alike. -/
import Derived.Test.YtiphicejaljhiaaDoorWr
import Derived.Test.YtiphicejaljhiaaDoorWrNum
import Derived.Laws.BytesArg
import Derived.Laws.IdiomStrings
namespace Go.Proofs.YtiphicejaljhiaaDoor
open Go.ChangeShapes Go.WideShapes Go.ChangeAt Go.RowKit
theorem run_conv {w : World} {B : Nat} {A : Option Addr} {c : Nat} {l : List UInt8} (hr : Reads w B 1 A l.length (cellsB l)) : (convert 43 9 (.slice A l.length c)).run Tryd.prog w = .ok (.string ⟨l.toArray⟩) w := by
  cases A with
  | none =>
    have hl : l = [] := by
      cases l with
      | nil => rfl
      | cons x l => obtain ⟨ad, e, _⟩ := hr.2 (by simp); cases e
    subst hl
    exact run_convert_bytes_nil _ 43 5 Tryd.underlying43 Tryd.underlying5 _ _ 9 Tryd.underlying9
  | some ad =>
    refine run_convert_bytes_back w 43 9 5 ad c l Tryd.underlying43 Tryd.underlying5 Tryd.underlying9 (fun j hj => ?_)
    obtain ⟨ad', e, _, hc⟩ := hr.2 (by omega)
    cases e
    refine hc j _ ?_
    unfold cellsB
    rw [List.getElem?_map, List.getElem?_eq_getElem hj]
    rfl
theorem c59 (l l' : List UInt8) (A A' : Option Addr) (c c' B B' : Nat) (w : World) (h : Reads w B 1 A l.length (cellsB l)) (h' : Reads w B' 1 A' l'.length (cellsB l')) :
    Calls Tryd.prog 59 #[.slice A l.length c, .slice A' l'.length c'] w fun e w' => e = .returned (.bool (l == l')) ∧ w = w' := by
  have e1 := run_conv (c := c) h
  have e2 := run_conv (c := c') h'
  go_enter Tryd.func59, Tryd.ntmps59
  go_wp2_with fail
  go_ret
  exact ⟨rfl, rfl⟩
theorem c34 (l l' : List UInt8) (A A' : Option Addr) (c c' B B' : Nat) (w : World) (h : Reads w B 1 A l.length (cellsB l)) (h' : Reads w B' 1 A' l'.length (cellsB l')) :
    Calls Tryd.prog 34 #[.slice A l.length c, .slice A' l'.length c'] w fun e w' => e = .returned (.bool (l == l')) ∧ w = w' := by
  have e1 := run_conv (c := c) h
  have e2 := run_conv (c := c') h'
  go_enter Tryd.func34, Tryd.ntmps34
  go_wp2_with fail
  go_ret
  exact ⟨rfl, rfl⟩
end Go.Proofs.YtiphicejaljhiaaDoor
