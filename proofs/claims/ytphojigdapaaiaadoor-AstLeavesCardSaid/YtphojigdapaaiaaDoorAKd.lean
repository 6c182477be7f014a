/- lex.kind, lex.is, lex.IsName, lex.IsCon. -/
import Derived.Test.YtphojigdapaaiaaDoorACt
namespace Go.Proofs.YtphojigdapaaiaaDoor
open Go.ChangeShapes Go.WideShapes Go.ChangeAt Go.RowKit
set_option linter.unusedVariables false
set_option linter.unusedSimpArgs false
def wordsL : List (List UInt8) := [
  [108, 101, 116],
  [114, 101, 99],
  [105, 110],
  [102, 117, 110],
  [105, 102],
  [116, 104, 101, 110],
  [101, 108, 115, 101],
  [109, 97, 116, 99, 104],
  [119, 105, 116, 104],
  [101, 110, 100],
  [116, 114, 121],
  [114, 97, 105, 115, 101],
  [116, 121, 112, 101],
  [111, 102],
  [116, 114, 117, 101],
  [102, 97, 108, 115, 101],
  [114, 101, 102],
  [101, 109, 105, 116],
  [108, 111, 103],
  [115, 101, 110, 100],
  [114, 101, 99, 118],
  [115, 105, 122, 101],
  [98, 121, 116, 101],
  [116, 101, 120, 116],
  [115, 97, 109, 101],
  [97, 114, 114, 97, 121],
  [103, 101, 116],
  [112, 117, 116],
  [108, 101, 110],
  [105, 110, 116],
  [98, 111, 111, 108],
  [117, 110, 105, 116],
  [115, 116, 114, 105, 110, 103],
  [108, 105, 115, 116]]
/-- The words lie in the package's variable. -/
def WordsTab (w : World) : Prop := 2 < w.heap.size ∧ ∃ t, w.heap[2]? = some (.cells (wordsL.map strV).toArray t (0, 0))
theorem WordsTab.next {w w' : World} (h : WordsTab w) (hb : Below w.heap.size w w') : WordsTab w' := by
  obtain ⟨h0, t, h1⟩ := h
  exact ⟨Nat.lt_of_lt_of_le h0 hb.size, t, (hb.block 2 h0).trans h1⟩
theorem WordsTab.reads {w : World} (h : WordsTab w) : Reads w w.heap.size 1 (some ⟨2, 0, none⟩) wordsL.length (wordsL.map strV) := by
  obtain ⟨h0, t, h1⟩ := h
  refine ⟨by simp, fun _ => ⟨_, rfl, h0, fun j u hj => ?_⟩⟩
  rw [show (⟨2, 0, none⟩ : Addr).add j = ⟨2, j, none⟩ by simp [Addr.add]; try omega, cell_of_row w 2 j _ t (0, 0) h1]
  simpa using hj
def kindL (s : List UInt8) : Int := if s = [95] then 6 else if s ∈ wordsL then 5 else if gB (byteI (s.headD 0)) then 2 else 1
set_option maxRecDepth 100000 in
set_option maxHeartbeats 4000000 in
theorem c79 (s : List UInt8) (hs : s ≠ []) (hl : s.length ≤ 281474976710656) (w : World) (hw : WordsTab w) : Calls Tryd.prog 79 #[strV s] w fun e w' => e = .returned (.int .i64 (kindL s)) ∧ Below w.heap.size w w' := by
  have HW := Lib.hid hw
  clear hw
  show Calls Tryd.prog 79 #[.string ⟨s.toArray⟩] w _
  by_cases h1 : s = [95]
  · have ff : (s == [95]) = true := beq_iff_eq.2 h1
    have H := Lib.hid (show kindL s = 6 by unfold kindL; rw [if_pos h1])
    clear h1
    go_enter Tryd.func79, Tryd.ntmps79
    go_wp2_with fail
    go_ret
    exact ⟨by rw [H.out]; rfl, Below.refl _ _⟩
  · have ff : (s == [95]) = false := beq_false_of_ne h1
    have H1 := Lib.hid h1
    clear h1
    have HC := Lib.hid (show Calls Tryd.prog 86 #[.slice (some ⟨2, 0, none⟩) 34 34, strV s] w (fun e w' => e = .returned (.bool (decide (s ∈ wordsL))) ∧ w = w') from c86 wordsL s (some ⟨2, 0, none⟩) 34 w HW.out.reads (by decide))
    have hz := strV_size s
    have hp : 0 < s.length := List.length_pos_iff.2 hs
    have hp1 : (0 : Int) < (s.length : Int) := by omega
    have HP := Lib.hid hp
    have HE := Lib.hid hs
    clear hs
    go_enter Tryd.func79, Tryd.ntmps79
    go_wp2_with fail
    refine HC.out.mono ?_
    rintro e _ ⟨rfl, rfl⟩
    by_cases hm : s ∈ wordsL
    · rw [decide_eq_true hm]
      have H := Lib.hid (show kindL s = 5 by unfold kindL; rw [if_neg H1.out, if_pos hm])
      clear hm HC
      go_wp2_with fail
      go_ret
      exact ⟨by rw [H.out]; rfl, Below.refl _ _⟩
    · rw [decide_eq_false hm]
      have H := Lib.hid (show kindL s = if gB (byteI (s.headD 0)) then 2 else 1 by unfold kindL; rw [if_neg H1.out, if_neg hm])
      clear hm HC
      go_wp2_with fail
      refine (c82 _ w).mono ?_
      rintro e w' ⟨he, hw⟩
      have hb : s[0] = s.headD 0 := by
        cases s with
        | nil => exact absurd rfl HE.out
        | cons b r => rfl
      replace he : e = .returned (.bool (gB (byteI s[0]))) := he
      rw [hb] at he
      subst he hw
      clear hb
      cases hg : gB (byteI (s.headD 0)) with
      | true =>
        rw [hg] at H
        clear hg
        go_wp2_with fail
        go_ret
        exact ⟨by rw [H.out]; rfl, Below.refl _ _⟩
      | false =>
        rw [hg] at H
        clear hg
        go_wp2_with fail
        go_ret
        exact ⟨by rw [H.out]; rfl, Below.refl _ _⟩
end Go.Proofs.YtphojigdapaaiaaDoor
