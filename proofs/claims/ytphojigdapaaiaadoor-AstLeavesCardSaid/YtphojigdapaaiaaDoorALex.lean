/- lex: letters, digits, words. -/
import Derived.Test.YtphojigdapaaiaaDoorALg
namespace Go.Proofs.YtphojigdapaaiaaDoor
open Go.ChangeShapes Go.WideShapes Go.ChangeAt Go.RowKit
set_option linter.unusedVariables false
set_option linter.unusedSimpArgs false
def gB (x : Int) : Bool := decide (65 ≤ x) && decide (x ≤ 90)
def dB (x : Int) : Bool := decide (48 ≤ x) && decide (x ≤ 57)
def lB (x : Int) : Bool := (decide (97 ≤ x) && decide (x ≤ 122)) || gB x || x == 95
def wB (x : Int) : Bool := lB x || dB x
set_option maxRecDepth 100000 in
set_option maxHeartbeats 4000000 in
theorem c82 (x : Int) (w : World) : Calls Tryd.prog 82 #[.int .u8 x] w fun e w' => e = .returned (.bool (gB x)) ∧ w = w' := by
  by_cases h1 : 65 ≤ x
  · by_cases h2 : x ≤ 90
    · have H := Lib.hid (show gB x = true by simp [gB, h1, h2])
      go_enter Tryd.func82, Tryd.ntmps82
      go_wp2_with fail
      go_ret
      exact ⟨by rw [H.out]; rfl, rfl⟩
    · have H := Lib.hid (show gB x = false by simp [gB, h1, h2])
      go_enter Tryd.func82, Tryd.ntmps82
      go_wp2_with fail
      go_ret
      exact ⟨by rw [H.out]; rfl, rfl⟩
  · have H := Lib.hid (show gB x = false by simp [gB, h1])
    go_enter Tryd.func82, Tryd.ntmps82
    go_wp2_with fail
    go_ret
    exact ⟨by rw [H.out]; rfl, rfl⟩
set_option maxRecDepth 100000 in
set_option maxHeartbeats 4000000 in
theorem c85 (x : Int) (w : World) : Calls Tryd.prog 85 #[.int .u8 x] w fun e w' => e = .returned (.bool (dB x)) ∧ w = w' := by
  by_cases h1 : 48 ≤ x
  · by_cases h2 : x ≤ 57
    · have H := Lib.hid (show dB x = true by simp [dB, h1, h2])
      go_enter Tryd.func85, Tryd.ntmps85
      go_wp2_with fail
      go_ret
      exact ⟨by rw [H.out]; rfl, rfl⟩
    · have H := Lib.hid (show dB x = false by simp [dB, h1, h2])
      go_enter Tryd.func85, Tryd.ntmps85
      go_wp2_with fail
      go_ret
      exact ⟨by rw [H.out]; rfl, rfl⟩
  · have H := Lib.hid (show dB x = false by simp [dB, h1])
    go_enter Tryd.func85, Tryd.ntmps85
    go_wp2_with fail
    go_ret
    exact ⟨by rw [H.out]; rfl, rfl⟩
set_option maxRecDepth 100000 in
set_option maxHeartbeats 4000000 in
theorem c77 (x : Int) (w : World) : Calls Tryd.prog 77 #[.int .u8 x] w fun e w' => e = .returned (.bool (lB x)) ∧ w = w' := by
  have tail : ∀ (h : (decide (97 ≤ x) && decide (x ≤ 122)) = false), (gB x = true → lB x = true) ∧ (gB x = false → lB x = (x == 95)) := fun h =>
    ⟨fun h1 => by unfold lB; rw [h, h1]; rfl, fun h1 => by unfold lB; rw [h, h1]; rfl⟩
  have go : (decide (97 ≤ x) && decide (x ≤ 122)) = false → (¬ 97 ≤ x ∨ (97 ≤ x ∧ ¬ x ≤ 122)) := fun h => by
    by_cases h1 : 97 ≤ x
    · right; refine ⟨h1, fun h2 => ?_⟩; simp [h1, h2] at h
    · exact .inl h1
  cases hd : (decide (97 ≤ x) && decide (x ≤ 122)) with
  | true =>
    rw [Bool.and_eq_true] at hd
    have h1 := of_decide_eq_true hd.1
    have h2 := of_decide_eq_true hd.2
    have H := Lib.hid (show lB x = true by simp [lB, h1, h2])
    clear hd tail go
    go_enter Tryd.func77, Tryd.ntmps77
    go_wp2_with fail
    go_ret
    exact ⟨by rw [H.out]; rfl, rfl⟩
  | false =>
    have T := Lib.hid (tail hd)
    have h := go hd
    clear tail go hd
    rcases h with h1 | ⟨h1, h2⟩
    all_goals
      go_enter Tryd.func77, Tryd.ntmps77
      go_wp2_with fail
      refine (c82 x w).mono ?_
      rintro e _ ⟨rfl, rfl⟩
      cases hg : gB x with
      | true =>
        have H := Lib.hid (T.out.1 hg)
        clear hg
        go_wp2_with fail
        go_ret
        exact ⟨by rw [H.out]; rfl, rfl⟩
      | false =>
        have H := Lib.hid (T.out.2 hg)
        clear hg
        go_wp2_with fail
        go_ret
        exact ⟨by rw [H.out]; rfl, rfl⟩
set_option maxRecDepth 100000 in
set_option maxHeartbeats 4000000 in
theorem c84 (x : Int) (w : World) : Calls Tryd.prog 84 #[.int .u8 x] w fun e w' => e = .returned (.bool (wB x)) ∧ w = w' := by
  go_enter Tryd.func84, Tryd.ntmps84
  go_wp2_with fail
  refine (c77 x w).mono ?_
  rintro e _ ⟨rfl, rfl⟩
  cases hl : lB x with
  | true =>
    have H := Lib.hid (show wB x = true by unfold wB; rw [hl]; rfl)
    clear hl
    go_wp2_with fail
    go_ret
    exact ⟨by rw [H.out]; rfl, rfl⟩
  | false =>
    have H := Lib.hid (show wB x = dB x by unfold wB; rw [hl]; rfl)
    clear hl
    go_wp2_with fail
    refine (c85 x w).mono ?_
    rintro e _ ⟨rfl, rfl⟩
    go_wp2_with fail
    go_ret
    exact ⟨by rw [H.out]; rfl, rfl⟩
end Go.Proofs.YtphojigdapaaiaaDoor
