/- The document's groups of kinds. -/
import Derived.Test.YtphojigdapaaiaaDoorALg
namespace Go.Proofs.YtphojigdapaaiaaDoor
open Go.ChangeShapes Go.WideShapes Go.ChangeAt Go.RowKit
set_option linter.unusedVariables false
set_option linter.unusedSimpArgs false
def grp (k : Int) : Int := if k = 19 then 4 else if 1 ≤ k ∧ k ≤ 25 then 1 else if 26 ≤ k ∧ k ≤ 34 then 2 else if 35 ≤ k ∧ k ≤ 41 then 3 else if k = 42 then 5 else if k = 43 then 6 else 0
set_option maxRecDepth 100000 in
set_option maxHeartbeats 4000000 in
theorem c18 (k : Int) (w : World) : Calls Tryd.prog 18 #[.int .i64 k] w fun e w' => e = .returned (.int .i64 (grp k)) ∧ w = w' := by
  have hc : (k = 19) ∨ (1 ≤ k ∧ k ≤ 25 ∧ k ≠ 19) ∨ (26 ≤ k ∧ k ≤ 34) ∨ (35 ≤ k ∧ k ≤ 41) ∨ (k = 42) ∨ (k = 43) ∨ (k < 1) ∨ (44 ≤ k) := by omega
  rcases hc with rfl | h | h | h | rfl | rfl | h | h
  · have H := Lib.hid (show grp 19 = 4 from by decide)
    go_enter Tryd.func18, Tryd.ntmps18
    go_wp2_with fail
    go_ret
    exact ⟨by rw [H.out]; rfl, rfl⟩
  · have H := Lib.hid (show grp k = 1 by unfold grp; repeat (first | rw [if_pos (by omega)] | rw [if_neg (by omega)]))
    have f19 : (k == 19) = false := beq_false_of_ne (by omega)
    have f42 : (k == 42) = false := beq_false_of_ne (by omega)
    have f43 : (k == 43) = false := beq_false_of_ne (by omega)
    have a1 : 1 ≤ k := h.1
    have a2 : k ≤ 25 := h.2.1
    clear h
    go_enter Tryd.func18, Tryd.ntmps18
    go_wp2_with fail
    go_ret
    exact ⟨by rw [H.out]; rfl, rfl⟩
  · have H := Lib.hid (show grp k = 2 by unfold grp; repeat (first | rw [if_pos (by omega)] | rw [if_neg (by omega)]))
    have f19 : (k == 19) = false := beq_false_of_ne (by omega)
    have f42 : (k == 42) = false := beq_false_of_ne (by omega)
    have f43 : (k == 43) = false := beq_false_of_ne (by omega)
    have a1 : 1 ≤ k := by omega
    have a2 : ¬ k ≤ 25 := by omega
    have a3 : 26 ≤ k := h.1
    have a4 : k ≤ 34 := h.2
    clear h
    go_enter Tryd.func18, Tryd.ntmps18
    go_wp2_with fail
    go_ret
    exact ⟨by rw [H.out]; rfl, rfl⟩
  · have H := Lib.hid (show grp k = 3 by unfold grp; repeat (first | rw [if_pos (by omega)] | rw [if_neg (by omega)]))
    have f19 : (k == 19) = false := beq_false_of_ne (by omega)
    have f42 : (k == 42) = false := beq_false_of_ne (by omega)
    have f43 : (k == 43) = false := beq_false_of_ne (by omega)
    have a1 : 1 ≤ k := by omega
    have a2 : ¬ k ≤ 25 := by omega
    have a3 : 26 ≤ k := by omega
    have a4 : ¬ k ≤ 34 := by omega
    have a5 : 35 ≤ k := h.1
    have a6 : k ≤ 41 := h.2
    clear h
    go_enter Tryd.func18, Tryd.ntmps18
    go_wp2_with fail
    go_ret
    exact ⟨by rw [H.out]; rfl, rfl⟩
  · have H := Lib.hid (show grp 42 = 5 from by decide)
    go_enter Tryd.func18, Tryd.ntmps18
    go_wp2_with fail
    go_ret
    exact ⟨by rw [H.out]; rfl, rfl⟩
  · have H := Lib.hid (show grp 43 = 6 from by decide)
    go_enter Tryd.func18, Tryd.ntmps18
    go_wp2_with fail
    go_ret
    exact ⟨by rw [H.out]; rfl, rfl⟩
  · have H := Lib.hid (show grp k = 0 by unfold grp; repeat (first | rw [if_pos (by omega)] | rw [if_neg (by omega)]))
    have f19 : (k == 19) = false := beq_false_of_ne (by omega)
    have f42 : (k == 42) = false := beq_false_of_ne (by omega)
    have f43 : (k == 43) = false := beq_false_of_ne (by omega)
    have a1 : ¬ 1 ≤ k := by omega
    have a3 : ¬ 26 ≤ k := by omega
    have a5 : ¬ 35 ≤ k := by omega
    clear h
    go_enter Tryd.func18, Tryd.ntmps18
    go_wp2_with fail
    go_ret
    exact ⟨by rw [H.out]; rfl, rfl⟩
  · have H := Lib.hid (show grp k = 0 by unfold grp; repeat (first | rw [if_pos (by omega)] | rw [if_neg (by omega)]))
    have f19 : (k == 19) = false := beq_false_of_ne (by omega)
    have f42 : (k == 42) = false := beq_false_of_ne (by omega)
    have f43 : (k == 43) = false := beq_false_of_ne (by omega)
    have a1 : 1 ≤ k := by omega
    have a2 : ¬ k ≤ 25 := by omega
    have a3 : 26 ≤ k := by omega
    have a4 : ¬ k ≤ 34 := by omega
    have a5 : 35 ≤ k := by omega
    have a6 : ¬ k ≤ 41 := by omega
    clear h
    go_enter Tryd.func18, Tryd.ntmps18
    go_wp2_with fail
    go_ret
    exact ⟨by rw [H.out]; rfl, rfl⟩
end Go.Proofs.YtphojigdapaaiaaDoor
