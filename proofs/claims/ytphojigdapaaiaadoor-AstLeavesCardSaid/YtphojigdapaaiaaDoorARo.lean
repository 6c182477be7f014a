/- The document's own words: it answers. -/
import Derived.Test.YtphojigdapaaiaaDoorAOp
namespace Go.Proofs.YtphojigdapaaiaaDoor
open Go.ChangeShapes Go.WideShapes Go.ChangeAt Go.RowKit
set_option linter.unusedVariables false
set_option linter.unusedSimpArgs false
set_option maxRecDepth 100000 in
set_option maxHeartbeats 4000000 in
theorem c59 (s : ByteArray) (hs : s.size ≤ 3000) (w : World) : Calls Tryd.prog 59 #[.string s] w (BoolEnd w) := by
  go_enter Tryd.func59, Tryd.ntmps59
  go_wp2_with fail
  generalize hall : (ByteArray.mk (List.toArray (List.append _ _))) = all
  have hz : all.size = 160 := by rw [← hall]; rfl
  clear hall
  go_loopw [4] (fun i wr => ∃ k : Nat, k ≤ 160 ∧ i = .int .i64 k ∧ Below w.heap.size w wr) (fun i _ => 160 - (intOf i).toNat)
  case atStart => exact ⟨0, by omega, rfl, Below.refl _ _⟩
  case round =>
    obtain ⟨k, hk, rfl, hb⟩ := hrel
    have HB := Lib.hid hb
    clear hb
    have w1 : wrap64 ((k : Int) + (s.size : Int)) = ((k + s.size : Nat) : Int) := by unfold wrap64; omega
    have w2 : wrap64 (((k + s.size : Nat) : Int) + 2) = ((k + s.size + 2 : Nat) : Int) := by unfold wrap64; omega
    by_cases hlt : k + s.size + 2 ≤ 160
    · have hle : ((k + s.size + 2 : Nat) : Int) ≤ 160 := by omega
      have hk0 : (0 : Int) ≤ (k : Int) := by omega
      have hkk : (k : Int) ≤ (k : Int) + (s.size : Int) + 2 := by omega
      have hkz : (k : Int) + (s.size : Int) + 2 ≤ 160 := by omega
      go_wp2_with fail
      · go_ret
        exact ⟨_, rfl, HB.out⟩
      · exact ⟨⟨k + 1, by omega, by go_num, HB.out⟩, by simp [intOf]; omega⟩
    · have hle : ¬ ((k : Int) + (s.size : Int) + 2 ≤ 160) := by omega
      go_wp2_with fail
      go_ret
      exact ⟨_, rfl, HB.out⟩
end Go.Proofs.YtphojigdapaaiaaDoor
