/- Walks of the reference of op: in, Name, Good, Of. -/
import Derived.Test.YtiphicejaljhiaaDoorOpOf
namespace Go.Proofs.YtiphicejaljhiaaDoor
open Go.ChangeShapes Go.WideShapes Go.ChangeAt Go.RowKit
theorem c44 (v lo hi : Int) (w : World) : Calls Tryd.prog 44 #[.int .i64 v, .int .i64 lo, .int .i64 hi] w fun e w' => e = .returned (.bool (decide (lo ≤ v ∧ v ≤ hi))) ∧ w = w' := by
  go_enter Tryd.func44, Tryd.ntmps44
  go_wp2
  all_goals go_ret
  all_goals refine ⟨ret_bool ?_, rfl⟩
  all_goals (rw [Bool.eq_iff_iff]; simp at *; try omega)
theorem ret_name {a b : List UInt8} (h : a = b) : Ending.returned (strV a) = .returned (strV b) := by rw [h]
set_option maxHeartbeats 2000000 in
theorem c18 (o : Int) (w : World) : Calls Tryd.prog 18 #[.int .i64 o] w fun e w' => e = .returned (strV (gName o)) ∧ w = w' := by
  go_enter Tryd.func18, Tryd.ntmps18
  go_wp2
  all_goals go_ret
  all_goals first
    | (refine ⟨?_, rfl⟩; refine ret_name (a := []) (gName_no ?_).symm; simp only [beq_eq_false_iff_ne, ne_eq] at *; omega)
    | (refine ⟨?_, rfl⟩; simp only [beq_iff_eq] at *; subst_vars; kernel_rfl)
end Go.Proofs.YtiphicejaljhiaaDoor
