/- The document's letters and digits. -/
import Derived.Test.YtphojigdapaaiaaDoorALex
namespace Go.Proofs.YtphojigdapaaiaaDoor
open Go.ChangeShapes Go.WideShapes Go.ChangeAt Go.RowKit
set_option linter.unusedVariables false
set_option linter.unusedSimpArgs false
def sB (x : Int) : Bool := (decide (97 ≤ x) && decide (x ≤ 122)) || x == 95
def vB (x : Int) : Bool := sB x || gB x || dB x
set_option maxRecDepth 100000 in
set_option maxHeartbeats 4000000 in
theorem c57 (x : Int) (w : World) : Calls Tryd.prog 57 #[.int .u8 x] w fun e w' => e = .returned (.bool (gB x)) ∧ w = w' := by
  by_cases h1 : 65 ≤ x
  · by_cases h2 : x ≤ 90
    · have H := Lib.hid (show gB x = true by simp [gB, h1, h2])
      go_enter Tryd.func57, Tryd.ntmps57
      go_wp2_with fail
      go_ret
      exact ⟨by rw [H.out]; rfl, rfl⟩
    · have H := Lib.hid (show gB x = false by simp [gB, h1, h2])
      go_enter Tryd.func57, Tryd.ntmps57
      go_wp2_with fail
      go_ret
      exact ⟨by rw [H.out]; rfl, rfl⟩
  · have H := Lib.hid (show gB x = false by simp [gB, h1])
    go_enter Tryd.func57, Tryd.ntmps57
    go_wp2_with fail
    go_ret
    exact ⟨by rw [H.out]; rfl, rfl⟩
set_option maxRecDepth 100000 in
set_option maxHeartbeats 4000000 in
theorem c60 (x : Int) (w : World) : Calls Tryd.prog 60 #[.int .u8 x] w fun e w' => e = .returned (.bool (dB x)) ∧ w = w' := by
  by_cases h1 : 48 ≤ x
  · by_cases h2 : x ≤ 57
    · have H := Lib.hid (show dB x = true by simp [dB, h1, h2])
      go_enter Tryd.func60, Tryd.ntmps60
      go_wp2_with fail
      go_ret
      exact ⟨by rw [H.out]; rfl, rfl⟩
    · have H := Lib.hid (show dB x = false by simp [dB, h1, h2])
      go_enter Tryd.func60, Tryd.ntmps60
      go_wp2_with fail
      go_ret
      exact ⟨by rw [H.out]; rfl, rfl⟩
  · have H := Lib.hid (show dB x = false by simp [dB, h1])
    go_enter Tryd.func60, Tryd.ntmps60
    go_wp2_with fail
    go_ret
    exact ⟨by rw [H.out]; rfl, rfl⟩
set_option maxRecDepth 100000 in
set_option maxHeartbeats 4000000 in
theorem c56 (x : Int) (w : World) : Calls Tryd.prog 56 #[.int .u8 x] w fun e w' => e = .returned (.bool (sB x)) ∧ w = w' := by
  by_cases h5 : x = 95
  · subst h5
    have H := Lib.hid (show sB 95 = true by rfl)
    go_enter Tryd.func56, Tryd.ntmps56
    go_wp2_with fail
    go_ret
    exact ⟨by rw [H.out]; rfl, rfl⟩
  have f5 : (x == 95) = false := beq_false_of_ne h5
  by_cases h1 : 97 ≤ x
  · by_cases h2 : x ≤ 122
    · skip
      have H := Lib.hid (show sB x = true by simp [sB, h1, h2])
      go_enter Tryd.func56, Tryd.ntmps56
      go_wp2_with fail
      go_ret
      exact ⟨by rw [H.out]; rfl, rfl⟩
    · skip
      have H := Lib.hid (show sB x = false by simp [sB, h1, h2, f5])
      go_enter Tryd.func56, Tryd.ntmps56
      go_wp2_with fail
      go_ret
      exact ⟨by rw [H.out]; rfl, rfl⟩
  · skip
    have H := Lib.hid (show sB x = false by simp [sB, h1, f5])
    go_enter Tryd.func56, Tryd.ntmps56
    go_wp2_with fail
    go_ret
    exact ⟨by rw [H.out]; rfl, rfl⟩
set_option maxRecDepth 100000 in
set_option maxHeartbeats 4000000 in
theorem c58 (x : Int) (w : World) : Calls Tryd.prog 58 #[.int .u8 x] w fun e w' => e = .returned (.bool (vB x)) ∧ w = w' := by
  have C1 := Lib.hid (c56 x w)
  have C2 := Lib.hid (c57 x w)
  have C3 := Lib.hid (c60 x w)
  go_enter Tryd.func58, Tryd.ntmps58
  go_wp2_with fail
  refine C1.out.mono ?_
  rintro e _ ⟨rfl, rfl⟩
  cases h1 : sB x with
  | true =>
    have H := Lib.hid (show vB x = true by unfold vB; rw [h1]; rfl)
    clear h1
    go_wp2_with fail
    go_ret
    exact ⟨by rw [H.out]; rfl, rfl⟩
  | false =>
    have H1 := Lib.hid h1
    clear h1
    go_wp2_with fail
    refine C2.out.mono ?_
    rintro e _ ⟨rfl, rfl⟩
    cases h2 : gB x with
    | true =>
      have H := Lib.hid (show vB x = true by unfold vB; rw [H1.out, h2]; rfl)
      clear h2
      go_wp2_with fail
      go_ret
      exact ⟨by rw [H.out]; rfl, rfl⟩
    | false =>
      have H := Lib.hid (show vB x = dB x by unfold vB; rw [H1.out, h2]; rfl)
      clear h2
      go_wp2_with fail
      refine C3.out.mono ?_
      rintro e _ ⟨rfl, rfl⟩
      go_wp2_with fail
      go_ret
      exact ⟨by rw [H.out]; rfl, rfl⟩
end Go.Proofs.YtphojigdapaaiaaDoor
