/- lex: words. -/
import Derived.Test.YtphojigdapaaiaaDoorALex
namespace Go.Proofs.YtphojigdapaaiaaDoor
open Go.ChangeShapes Go.WideShapes Go.ChangeAt Go.RowKit
set_option linter.unusedVariables false
set_option linter.unusedSimpArgs false
def byteI (b : UInt8) : Int := (b.toNat : Int)
def runL (s : List UInt8) : Nat := (s.takeWhile fun b => wB (byteI b)).length
set_option maxRecDepth 100000 in
set_option maxHeartbeats 4000000 in
theorem c83 (s : List UInt8) (hs : s.length ≤ 281474976710656) (w : World) : Calls Tryd.prog 83 #[strV s, .func (.func 84) #[] #[]] w fun e w' => e = .returned (.int .i64 (runL s : Int)) ∧ w = w' := by
  have hz := strV_size s
  show Calls Tryd.prog 83 #[.string ⟨s.toArray⟩, .func (.func 84) #[] #[]] w _
  go_enter Tryd.func83, Tryd.ntmps83
  go_wp2_with fail
  go_loopw [5] (fun i wr => ∃ k : Nat, k ≤ s.length ∧ i = .int .i64 k ∧ wr = w ∧ runL s = k + runL (s.drop k)) (fun i _ => s.length - (intOf i).toNat)
  case atStart => exact ⟨0, by omega, rfl, rfl, by simp⟩
  case round =>
    obtain ⟨k, hk, rfl, rfl, hr⟩ := hrel
    have HR := Lib.hid hr
    clear hr
    by_cases hlt : k < s.length
    · have hlk : (k : Int) < (s.length : Int) := by omega
      have hk0 : (0 : Int) ≤ (k : Int) := by omega
      go_wp2_with fail
      refine (c84 _ wr).mono ?_
      rintro e w' ⟨he, hw⟩
      replace he : e = .returned (.bool (wB (byteI s[k]))) := he
      subst he hw
      have hd : s.drop k = s[k] :: s.drop (k + 1) := List.drop_eq_getElem_cons hlt
      have HD := Lib.hid hd
      clear hd
      cases hwb : wB (byteI s[k]) with
      | true =>
        have HN := Lib.hid (show runL s = (k + 1) + runL (s.drop (k + 1)) by
          rw [HR.out, HD.out]
          unfold runL
          rw [List.takeWhile_cons, hwb]
          simp
          omega)
        clear hwb
        go_wp2_with fail
        go_roundw
        case rel => exact ⟨k + 1, by omega, by go_num, by first | rfl | trivial, HN.out⟩
        case measure => simp [intOf]; omega
      | false =>
        have HN := Lib.hid (show runL s = k by
          rw [HR.out, HD.out]
          unfold runL
          rw [List.takeWhile_cons, hwb]
          simp)
        clear hwb
        go_wp2_with fail
        go_ret
        exact ⟨by rw [HN.out]; rfl, by first | rfl | trivial⟩
    · obtain rfl : k = s.length := by omega
      have hlk : ¬ ((s.length : Int) < (s.length : Int)) := by omega
      have HN := Lib.hid (show runL s = s.length by
        rw [HR.out, List.drop_length]
        simp [runL])
      go_wp2_with fail
      go_ret
      exact ⟨by rw [HN.out]; rfl, by first | rfl | trivial⟩
theorem runL_le (s : List UInt8) : runL s ≤ s.length := (List.takeWhile_sublist _).length_le
set_option maxRecDepth 100000 in
set_option maxHeartbeats 4000000 in
theorem c78 (s : List UInt8) (hs : s.length ≤ 281474976710656) (w : World) : Calls Tryd.prog 78 #[strV s] w fun e w' => e = .returned (.int .i64 (runL s : Int)) ∧ w = w' := by
  show Calls Tryd.prog 78 #[.string ⟨s.toArray⟩] w _
  go_enter Tryd.func78, Tryd.ntmps78
  go_wp2_with fail
  refine (c83 s hs w).mono ?_
  rintro e _ ⟨rfl, rfl⟩
  go_wp2_with fail
  go_ret
  exact ⟨rfl, rfl⟩
end Go.Proofs.YtphojigdapaaiaaDoor
