/- stockpotref07.wide and second: how many bytes an instruction's numbers have. -/
import Derived.Test.YtiphicejaljhiaaDoorPlain
namespace Go.Proofs.YtiphicejaljhiaaDoor
open Go.ChangeShapes Go.WideShapes Go.ChangeAt Go.RowKit
set_option linter.unusedSimpArgs false
set_option maxRecDepth 100000 in
set_option maxHeartbeats 2000000 in
theorem c52 (o : Int) (w : World) : Calls Tryd.prog 52 #[.int .i64 o] w fun e w' => e = .returned (.int .i64 (wid o)) ∧ w = w' := by
  by_cases h0 : o = 0
  · subst h0
    go_enter Tryd.func52, Tryd.ntmps52
    go_wp2_with fail
    go_ret
    exact ⟨rfl, rfl⟩
  have f0 : (o == 0) = false := beq_eq_false_iff_ne.2 h0
  by_cases h21 : o = 21
  · subst h21
    go_enter Tryd.func52, Tryd.ntmps52
    go_wp2_with fail
    go_ret
    exact ⟨rfl, rfl⟩
  have f21 : (o == 21) = false := beq_eq_false_iff_ne.2 h21
  by_cases h1 : o = 1
  · subst h1
    go_enter Tryd.func52, Tryd.ntmps52
    go_wp2_with fail
    go_ret
    exact ⟨rfl, rfl⟩
  have f1 : (o == 1) = false := beq_eq_false_iff_ne.2 h1
  by_cases h2 : o = 2
  · subst h2
    go_enter Tryd.func52, Tryd.ntmps52
    go_wp2_with fail
    go_ret
    exact ⟨rfl, rfl⟩
  have f2 : (o == 2) = false := beq_eq_false_iff_ne.2 h2
  by_cases h3 : o = 3
  · subst h3
    go_enter Tryd.func52, Tryd.ntmps52
    go_wp2_with fail
    go_ret
    exact ⟨rfl, rfl⟩
  have f3 : (o == 3) = false := beq_eq_false_iff_ne.2 h3
  by_cases h4 : o = 4
  · subst h4
    go_enter Tryd.func52, Tryd.ntmps52
    go_wp2_with fail
    go_ret
    exact ⟨rfl, rfl⟩
  have f4 : (o == 4) = false := beq_eq_false_iff_ne.2 h4
  by_cases h6 : o = 6
  · subst h6
    go_enter Tryd.func52, Tryd.ntmps52
    go_wp2_with fail
    go_ret
    exact ⟨rfl, rfl⟩
  have f6 : (o == 6) = false := beq_eq_false_iff_ne.2 h6
  by_cases h10 : o = 10
  · subst h10
    go_enter Tryd.func52, Tryd.ntmps52
    go_wp2_with fail
    go_ret
    exact ⟨rfl, rfl⟩
  have f10 : (o == 10) = false := beq_eq_false_iff_ne.2 h10
  by_cases h11 : o = 11
  · subst h11
    go_enter Tryd.func52, Tryd.ntmps52
    go_wp2_with fail
    go_ret
    exact ⟨rfl, rfl⟩
  have f11 : (o == 11) = false := beq_eq_false_iff_ne.2 h11
  by_cases h19 : o = 19
  · subst h19
    go_enter Tryd.func52, Tryd.ntmps52
    go_wp2_with fail
    go_ret
    exact ⟨rfl, rfl⟩
  have f19 : (o == 19) = false := beq_eq_false_iff_ne.2 h19
  by_cases h20 : o = 20
  · subst h20
    go_enter Tryd.func52, Tryd.ntmps52
    go_wp2_with fail
    go_ret
    exact ⟨rfl, rfl⟩
  have f20 : (o == 20) = false := beq_eq_false_iff_ne.2 h20
  by_cases h22 : o = 22
  · subst h22
    go_enter Tryd.func52, Tryd.ntmps52
    go_wp2_with fail
    go_ret
    exact ⟨rfl, rfl⟩
  have f22 : (o == 22) = false := beq_eq_false_iff_ne.2 h22
  by_cases h33 : o = 33
  · subst h33
    go_enter Tryd.func52, Tryd.ntmps52
    go_wp2_with fail
    go_ret
    exact ⟨rfl, rfl⟩
  have f33 : (o == 33) = false := beq_eq_false_iff_ne.2 h33
  by_cases h36 : o = 36
  · subst h36
    go_enter Tryd.func52, Tryd.ntmps52
    go_wp2_with fail
    go_ret
    exact ⟨rfl, rfl⟩
  have f36 : (o == 36) = false := beq_eq_false_iff_ne.2 h36
  have HW := Lib.hid (show wid o = 0 by unfold wid; rw [if_neg (by omega), if_neg (by omega)])
  clear h0 h21 h1 h2 h3 h4 h6 h10 h11 h19 h20 h22 h33 h36
  go_enter Tryd.func52, Tryd.ntmps52
  go_wp2_with fail
  go_ret
  exact ⟨by rw [HW.out]; rfl, rfl⟩
set_option maxRecDepth 100000 in
set_option maxHeartbeats 2000000 in
theorem c53 (o : Int) (w : World) : Calls Tryd.prog 53 #[.int .i64 o] w fun e w' => e = .returned (.bool (sec o)) ∧ w = w' := by
  by_cases h6 : o = 6
  · subst h6
    go_enter Tryd.func53, Tryd.ntmps53
    go_wp2_with fail
    go_ret
    exact ⟨rfl, rfl⟩
  have f6 : (o == 6) = false := beq_eq_false_iff_ne.2 h6
  by_cases h19 : o = 19
  · subst h19
    go_enter Tryd.func53, Tryd.ntmps53
    go_wp2_with fail
    go_ret
    exact ⟨rfl, rfl⟩
  have f19 : (o == 19) = false := beq_eq_false_iff_ne.2 h19
  by_cases h36 : o = 36
  · subst h36
    go_enter Tryd.func53, Tryd.ntmps53
    go_wp2_with fail
    go_ret
    exact ⟨rfl, rfl⟩
  have f36 : (o == 36) = false := beq_eq_false_iff_ne.2 h36
  have HW := Lib.hid (show sec o = false by unfold sec; exact decide_eq_false (by omega))
  clear h6 h19 h36
  go_enter Tryd.func53, Tryd.ntmps53
  go_wp2_with fail
  go_ret
  exact ⟨by rw [HW.out]; rfl, rfl⟩
end Go.Proofs.YtiphicejaljhiaaDoor
