/- lex.is, lex.IsName, lex.IsCon. -/
import Derived.Test.YtphojigdapaaiaaDoorAKd
namespace Go.Proofs.YtphojigdapaaiaaDoor
open Go.ChangeShapes Go.WideShapes Go.ChangeAt Go.RowKit
set_option linter.unusedVariables false
set_option linter.unusedSimpArgs false
def isL (s : List UInt8) (k : Int) : Bool := !(s == []) && decide (s.length ≤ 12) && lB (byteI (s.headD 0)) && decide (runL s = s.length) && (kindL s == k)
set_option maxRecDepth 100000 in
set_option maxHeartbeats 4000000 in
theorem c72 (s : List UInt8) (k : Int) (hl : s.length ≤ 281474976710656) (w : World) (hw : WordsTab w) : Calls Tryd.prog 72 #[strV s, .int .i64 k] w fun e w' => e = .returned (.bool (isL s k)) ∧ Below w.heap.size w w' := by
  have HW := Lib.hid hw
  have hz := strV_size s
  clear hw
  show Calls Tryd.prog 72 #[.string ⟨s.toArray⟩, .int .i64 k] w _
  cases s with
  | nil =>
    have H := Lib.hid (show isL [] k = false from rfl)
    go_enter Tryd.func72, Tryd.ntmps72
    go_wp2_with fail
    go_ret
    exact ⟨by rw [H.out]; rfl, Below.refl _ _⟩
  | cons b r =>
  obtain ⟨s, hs⟩ : ∃ s, s = b :: r := ⟨_, rfl⟩
  have hne : s ≠ [] := by rw [hs]; exact List.cons_ne_nil _ _
  have hhd : s.headD 0 = b := by rw [hs]; rfl
  rw [← hs] at hl hz ⊢
  have hp : 0 < s.length := List.length_pos_iff.2 hne
  have HNE := Lib.hid hne
  have HHD := Lib.hid hhd
  have ff : (s == []) = false := beq_false_of_ne hne
  have HFF := Lib.hid ff
  have hp1 : (0 : Int) < (s.length : Int) := by omega
  have h0 : s[0] = s.headD 0 := by subst hs; rfl
  have H0 := Lib.hid h0
  clear hne hhd hs h0
  by_cases h12 : s.length ≤ 12
  · have hi12 : (s.length : Int) ≤ 12 := by omega
    have H12 := Lib.hid h12
    go_enter Tryd.func72, Tryd.ntmps72
    go_wp2_with fail
    refine (c77 _ w).mono ?_
    rintro e w' ⟨he, hw⟩
    replace he : e = .returned (.bool (lB (byteI s[0]))) := he
    rw [H0.out] at he
    subst he hw
    cases hlb : lB (byteI (s.headD 0)) with
    | false =>
      have H := Lib.hid (show isL s k = false by unfold isL; rw [hlb]; simp)
      clear hlb
      go_wp2_with fail
      go_ret
      exact ⟨by rw [H.out]; rfl, Below.refl _ _⟩
    | true =>
      have HLB := Lib.hid hlb
      clear hlb
      go_wp2_with fail
      refine (c78 s hl w).mono ?_
      rintro e _ ⟨rfl, rfl⟩
      by_cases hr : runL s = s.length
      · have HR := Lib.hid hr
        have fr : ((s.length : Int) == (s.length : Int)) = true := beq_self_eq_true _
        rw [hr]
        clear hr
        go_wp2_with fail
        refine (c79 s HNE.out hl w HW.out).mono ?_
        rintro e w3 ⟨rfl, hb3⟩
        have HB3 := Lib.hid hb3
        clear hb3 fr
        have H := Lib.hid (show isL s k = (kindL s == k) by unfold isL; rw [HFF.out, decide_eq_true H12.out, HLB.out, decide_eq_true HR.out]; rfl)
        go_wp2_with fail
        go_ret
        exact ⟨by rw [H.out]; rfl, HB3.out⟩
      · have H := Lib.hid (show isL s k = false by unfold isL; rw [decide_eq_false hr]; simp)
        have fr : ((runL s : Int) == (s.length : Int)) = false := beq_false_of_ne (by omega)
        clear hr
        go_wp2_with fail
        go_ret
        exact ⟨by rw [H.out]; rfl, Below.refl _ _⟩
  · have hi12 : ¬ ((s.length : Int) ≤ 12) := by omega
    have H := Lib.hid (show isL s k = false by unfold isL; rw [decide_eq_false h12]; simp)
    have hi13 : (12 : Int) < (s.length : Int) := by omega
    go_enter Tryd.func72, Tryd.ntmps72
    go_wp2_with fail
    go_ret
    exact ⟨by rw [H.out]; rfl, Below.refl _ _⟩
set_option maxRecDepth 100000 in
set_option maxHeartbeats 4000000 in
theorem c51 (s : List UInt8) (hl : s.length ≤ 281474976710656) (w : World) (hw : WordsTab w) : Calls Tryd.prog 51 #[strV s] w fun e w' => e = .returned (.bool (isL s 1)) ∧ Below w.heap.size w w' := by
  have HC := Lib.hid (c72 s 1 hl w hw)
  clear hw
  show Calls Tryd.prog 51 #[.string ⟨s.toArray⟩] w _
  go_enter Tryd.func51, Tryd.ntmps51
  go_wp2_with fail
  refine HC.out.mono ?_
  rintro e w1 ⟨rfl, hb⟩
  have HB := Lib.hid hb
  clear hb
  go_wp2_with fail
  go_ret
  exact ⟨rfl, HB.out⟩
set_option maxRecDepth 100000 in
set_option maxHeartbeats 4000000 in
theorem c52 (s : List UInt8) (hl : s.length ≤ 281474976710656) (w : World) (hw : WordsTab w) : Calls Tryd.prog 52 #[strV s] w fun e w' => e = .returned (.bool (isL s 2)) ∧ Below w.heap.size w w' := by
  have HC := Lib.hid (c72 s 2 hl w hw)
  clear hw
  show Calls Tryd.prog 52 #[.string ⟨s.toArray⟩] w _
  go_enter Tryd.func52, Tryd.ntmps52
  go_wp2_with fail
  refine HC.out.mono ?_
  rintro e w1 ⟨rfl, hb⟩
  have HB := Lib.hid hb
  clear hb
  go_wp2_with fail
  go_ret
  exact ⟨rfl, HB.out⟩
end Go.Proofs.YtphojigdapaaiaaDoor
