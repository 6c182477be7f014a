/- ast.text. -/
import Derived.Test.YtphojigdapaaiaaDoorAQu
import Derived.Test.YtphojigdapaaiaaDoorAIs
namespace Go.Proofs.YtphojigdapaaiaaDoor
open Go.ChangeShapes Go.WideShapes Go.ChangeAt Go.RowKit
set_option linter.unusedVariables false
set_option linter.unusedSimpArgs false
def textL (s : List UInt8) (k : Int) : Bool := if k = 1 then isL s 1 else if k = 2 then (s == [95] || isL s 1) else if k = 3 then isL s 2 else s == []
/-- What ast.text gives; of a token of a text (4) just a bool. -/
def TextEnd (s : List UInt8) (k : Int) (w : World) (e : Ending) (w' : World) : Prop := ∃ r, e = .returned (.bool r) ∧ (k ≠ 4 → r = textL s k) ∧ Below w.heap.size w w'
set_option maxRecDepth 100000 in
set_option maxHeartbeats 4000000 in
theorem c35 (s : List UInt8) (k : Int) (hl : s.length ≤ 281474976710656) (w : World) (hw : WordsTab w) : Calls Tryd.prog 35 #[strV s, .int .i64 k] w (TextEnd s k w) := by
  have H1 := Lib.hid (c51 s hl w hw)
  have H2 := Lib.hid (c52 s hl w hw)
  have H4 := Lib.hid (c53 s hl w)
  clear hw
  show Calls Tryd.prog 35 #[.string ⟨s.toArray⟩, .int .i64 k] w _
  by_cases k1 : k = 1
  · subst k1
    go_enter Tryd.func35, Tryd.ntmps35
    go_wp2_with fail
    refine H1.out.mono ?_
    rintro e w1 ⟨rfl, hb⟩
    have HB := Lib.hid hb
    clear hb
    go_wp2_with fail
    go_ret
    exact ⟨_, rfl, fun _ => rfl, HB.out⟩
  by_cases k2 : k = 2
  · subst k2
    by_cases h5 : s = [95]
    · have ff : (s == [95]) = true := beq_iff_eq.2 h5
      have F := Lib.hid ff
      clear h5
      go_enter Tryd.func35, Tryd.ntmps35
      go_wp2_with fail
      go_ret
      exact ⟨_, rfl, fun _ => by unfold textL; rw [if_neg (by omega), if_pos rfl, F.out]; rfl, Below.refl _ _⟩
    · have ff : (s == [95]) = false := beq_false_of_ne h5
      have F := Lib.hid ff
      clear h5
      go_enter Tryd.func35, Tryd.ntmps35
      go_wp2_with fail
      refine H1.out.mono ?_
      rintro e w1 ⟨rfl, hb⟩
      have HB := Lib.hid hb
      clear hb
      go_wp2_with fail
      go_ret
      exact ⟨_, rfl, fun _ => by unfold textL; rw [if_neg (by omega), if_pos rfl, F.out]; rfl, HB.out⟩
  by_cases k3 : k = 3
  · subst k3
    go_enter Tryd.func35, Tryd.ntmps35
    go_wp2_with fail
    refine H2.out.mono ?_
    rintro e w1 ⟨rfl, hb⟩
    have HB := Lib.hid hb
    clear hb
    go_wp2_with fail
    go_ret
    exact ⟨_, rfl, fun _ => rfl, HB.out⟩
  by_cases k4 : k = 4
  · subst k4
    go_enter Tryd.func35, Tryd.ntmps35
    go_wp2_with fail
    refine H4.out.mono ?_
    rintro e w1 ⟨q, r, rfl, hb⟩
    have HB := Lib.hid hb
    clear hb
    go_wp2_with fail
    go_ret
    exact ⟨_, rfl, fun h => absurd rfl h, HB.out⟩
  have f1 : (k == 1) = false := beq_false_of_ne k1
  have f2 : (k == 2) = false := beq_false_of_ne k2
  have f3 : (k == 3) = false := beq_false_of_ne k3
  have f4 : (k == 4) = false := beq_false_of_ne k4
  have HK := Lib.hid (show k ≠ 1 ∧ k ≠ 2 ∧ k ≠ 3 from ⟨k1, k2, k3⟩)
  clear k1 k2 k3 k4
  by_cases h5 : s = []
  · have ff : (s == []) = true := beq_iff_eq.2 h5
    have F := Lib.hid ff
    clear h5
    go_enter Tryd.func35, Tryd.ntmps35
    go_wp2_with fail
    go_ret
    exact ⟨_, rfl, fun _ => by unfold textL; rw [if_neg HK.out.1, if_neg HK.out.2.1, if_neg HK.out.2.2, F.out], Below.refl _ _⟩
  · have ff : (s == []) = false := beq_false_of_ne h5
    have F := Lib.hid ff
    clear h5
    go_enter Tryd.func35, Tryd.ntmps35
    go_wp2_with fail
    go_ret
    exact ⟨_, rfl, fun _ => by unfold textL; rw [if_neg HK.out.1, if_neg HK.out.2.1, if_neg HK.out.2.2, F.out], Below.refl _ _⟩
end Go.Proofs.YtphojigdapaaiaaDoor
