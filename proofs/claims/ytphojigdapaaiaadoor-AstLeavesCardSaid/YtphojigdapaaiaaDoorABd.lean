/- op: a number within bounds. -/
import Derived.Test.YtphojigdapaaiaaDoorALg
namespace Go.Proofs.YtphojigdapaaiaaDoor
open Go.ChangeShapes Go.WideShapes Go.ChangeAt Go.RowKit
set_option linter.unusedVariables false
set_option linter.unusedSimpArgs false
def inB (a b v : Int) : Bool := decide (a ≤ v) && decide (v ≤ b)
set_option maxRecDepth 100000 in
set_option maxHeartbeats 4000000 in
theorem c87 (a b v : Int) (w : World) : Calls Tryd.prog 87 #[.agg #[.int .i64 a, .int .i64 b], .int .i64 v] w fun e w' => e = .returned (.bool (inB a b v)) ∧ Below w.heap.size w w' := by
  by_cases h1 : a ≤ v
  · by_cases h2 : v ≤ b
    · have H := Lib.hid (show inB a b v = true by simp [inB, h1, h2])
      go_enter Tryd.func87, Tryd.ntmps87
      go_wp2_with fail
      go_ret
      exact ⟨by rw [H.out]; rfl, below_new w _⟩
    · have H := Lib.hid (show inB a b v = false by simp [inB, h1, h2])
      go_enter Tryd.func87, Tryd.ntmps87
      go_wp2_with fail
      go_ret
      exact ⟨by rw [H.out]; rfl, below_new w _⟩
  · have H := Lib.hid (show inB a b v = false by simp [inB, h1])
    go_enter Tryd.func87, Tryd.ntmps87
    go_wp2_with fail
    go_ret
    exact ⟨by rw [H.out]; rfl, below_new w _⟩
end Go.Proofs.YtphojigdapaaiaaDoor
