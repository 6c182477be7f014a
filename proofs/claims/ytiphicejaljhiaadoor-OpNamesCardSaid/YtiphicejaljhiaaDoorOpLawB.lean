/- OpNames: the walk. -/
import Derived.Test.YtiphicejaljhiaaDoorOpWakes
import Derived.Deep.QuietTactic
import Derived.BigQuiet
namespace Go.Proofs.YtiphicejaljhiaaDoor
open Go.ChangeShapes Go.WideShapes Go.ChangeAt Go.RowKit
theorem nm_inj' : ∀ j, j < 38 → ∀ k, k < 38 → ((opRow j).nm == (opRow k).nm) = (j == k) := by decide +kernel
theorem gOf_at : ∀ j, j < 38 → gOf (opRow j).nm = some j := by decide +kernel
theorem nm_ne : ∀ j, j < 38 → ((opRow j).nm).isEmpty = false := by decide +kernel
set_option maxHeartbeats 1000000 in
theorem c4 (a b : Int) (ha : 0 ≤ a ∧ a ≤ 255) (hb : 0 ≤ b ∧ b ≤ 255) (w : World) (ht : OpTab w) : Calls Tryd.prog 4 #[.int .u8 a, .int .u8 b] w fun e w' => e = .returned (.bool true) ∧ Below w.heap.size w w' := by
  obtain ⟨ha0, ha1⟩ := ha
  obtain ⟨hb0, hb1⟩ := hb
  obtain ⟨j, hj⟩ : ∃ j : Nat, a % 38 = (j : Int) := ⟨(a % 38).toNat, by omega⟩
  obtain ⟨k, hk⟩ : ∃ k : Nat, b % 38 = (k : Int) := ⟨(b % 38).toNat, by omega⟩
  have hj2 : j < 38 := by omega
  have hk2 : k < 38 := by omega
  have f1 := gName_yes hj2
  have f2 := gName_yes hk2
  have f3 := gOf_at j hj2
  have f4 := nm_ne j hj2
  have f5 : ((opRow j).nm == (opRow k).nm) = ((j : Int) == (k : Int)) := by
    rw [nm_inj' j hj2 k hk2, Bool.eq_iff_iff]
    simp
    omega
  go_enter Tryd.func4, Tryd.ntmps4
  go_wp2_with fail
  refine (c20 _ _ ht).mono ?_
  rintro e w1 ⟨rfl, rfl⟩
  go_wp2_with fail
  refine (c20 _ _ ht).mono ?_
  rintro e w1 ⟨rfl, rfl⟩
  go_wp2_with fail
  refine (c19 _ _ ht).mono ?_
  rintro e w1 ⟨rfl, b1⟩
  have t1 := ht.next b1
  go_wp2_with fail
  refine (c24 _ t1).mono ?_
  rintro e w2 ⟨rfl, b2⟩
  go_wp2_with fail
  go_ret
  exact ⟨rfl, next_ b1 b2⟩
end Go.Proofs.YtiphicejaljhiaaDoor
