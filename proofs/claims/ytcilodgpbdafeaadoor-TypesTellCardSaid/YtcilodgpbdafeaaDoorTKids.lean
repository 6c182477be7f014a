/- The document's kids. -/
import Derived.Test.YtcilodgpbdafeaaDoorTGood
namespace Go.Proofs.YtcilodgpbdafeaaDoor
open Go.ChangeShapes Go.WideShapes Go.ChangeAt Go.RowKit
set_option linter.unusedVariables false
set_option linter.unusedSimpArgs false
theorem kids_lit (k : Int) : (k = 1 ∨ k = 2 ∨ k = 3 ∨ k = 4 ∨ k = 5 ∨ k = 10 ∨ k = 11 ∨ k = 7 ∨ k = 9 ∨ k = 6 ∨ k = 8) ∨
    ((k == 1) = false ∧ (k == 2) = false ∧ (k == 3) = false ∧ (k == 4) = false ∧ (k == 5) = false ∧ (k == 10) = false ∧ (k == 11) = false ∧ (k == 7) = false ∧ (k == 9) = false ∧ (k == 6) = false ∧ (k == 8) = false ∧ kids k = -1) := by
  by_cases h : k = 1 ∨ k = 2 ∨ k = 3 ∨ k = 4 ∨ k = 5 ∨ k = 10 ∨ k = 11 ∨ k = 7 ∨ k = 9 ∨ k = 6 ∨ k = 8
  · exact .inl h
  · refine .inr ⟨?_, ?_, ?_, ?_, ?_, ?_, ?_, ?_, ?_, ?_, ?_, ?_⟩
    all_goals first | (exact beq_eq_false_iff_ne.2 (by omega)) | skip
    unfold kids
    rw [if_neg (by omega), if_neg (by omega), if_neg (by omega)]
set_option maxRecDepth 100000 in
set_option maxHeartbeats 4000000 in
theorem c27 (k : Int) (w : World) : Calls Tryd.prog 27 #[.int .i64 k] w fun e w' => e = .returned (.int .i64 (kids k)) ∧ w = w' := by
  rcases kids_lit k with h | ⟨h1, h2, h3, h4, h5, h6, h7, h8, h9, h10, h11, hk⟩
  · rcases h with rfl | rfl | rfl | rfl | rfl | rfl | rfl | rfl | rfl | rfl | rfl
    all_goals
      go_enter Tryd.func27, Tryd.ntmps27
      go_wp2_with fail
      go_ret
      exact ⟨rfl, by first | rfl | trivial⟩
  · go_enter Tryd.func27, Tryd.ntmps27
    go_wp2_with fail
    go_ret
    rw [hk]
    exact ⟨rfl, by first | rfl | trivial⟩
end Go.Proofs.YtcilodgpbdafeaaDoor
