/- 'wakes' of the laws on op. -/
import Derived.Test.YtiphicejaljhiaaDoorOpRefOf
namespace Go.Proofs.YtiphicejaljhiaaDoor
open Go.ChangeShapes Go.WideShapes Go.ChangeAt Go.RowKit
theorem OpTab.next {w w' : World} (h : OpTab w) (hb : Below w.heap.size w w') : OpTab w' := h.below hb h.1
set_option maxHeartbeats 1000000 in
theorem c24 (w : World) (ht : OpTab w) : Calls Tryd.prog 24 #[] w fun e w' => e = .returned (.bool true) ∧ Below w.heap.size w w' := by
  have f1 : gGood 6 2 3 = true := by decide
  have f2 : gTakes 6 2 3 = 3 := by decide
  have f3 : gLeaves 6 = 1 := by decide
  have f4 : gGood 6 0 3 = false := by decide
  have f5 : gOf [106, 117, 109, 112, 122] = some 11 := by decide
  have f6 : gOf [] = none := by decide
  have f7 : gName 36 = [104, 111, 115, 116] := by decide
  have f8 : gName 38 = [] := by decide
  have f9 : gGood 0 (-4611686018427387904) 0 = true := by decide
  have g1 : gGood 37 1 0 = false := by decide
  have g2 : gEnds 9 = true := by decide
  have g3 : gEnds 11 = false := by decide
  go_enter Tryd.func24, Tryd.ntmps24
  go_wp2_with fail
  refine (c15 _ _ _ _ ht).mono ?_
  rintro e w1 ⟨rfl, b1⟩
  have t1 := ht.next b1
  go_wp2_with fail
  refine (c15 _ _ _ _ t1).mono ?_
  rintro e w2 ⟨rfl, b2⟩
  have t2 := t1.next b2
  go_wp2_with fail
  refine (c19 _ _ t2).mono ?_
  rintro e w3 ⟨rfl, b3⟩
  have t3 := t2.next b3
  go_wp2_with fail
  refine (c19 _ _ t3).mono ?_
  rintro e w4 ⟨rfl, b4⟩
  have t4 := t3.next b4
  go_wp2_with fail
  refine (c20 _ _ t4).mono ?_
  rintro e w5 ⟨rfl, rfl⟩
  go_wp2_with fail
  refine (c20 _ _ t4).mono ?_
  rintro e w5 ⟨rfl, rfl⟩
  go_wp2_with fail
  refine (c21 _ _ _ _ t4).mono ?_
  rintro e w5 ⟨rfl, b5⟩
  have t5 := t4.next b5
  go_wp2_with fail
  refine (c21 _ _ _ _ t5).mono ?_
  rintro e w6 ⟨rfl, b6⟩
  have t6 := t5.next b6
  go_wp2_with fail
  refine (c22 _ _ _ _).mono ?_
  rintro e w7 ⟨rfl, b7⟩
  go_wp2_with fail
  refine (c22 _ _ _ _).mono ?_
  rintro e w8 ⟨rfl, b8⟩
  go_wp2_with fail
  go_ret
  exact ⟨rfl, next_ b1 (next_ b2 (next_ b3 (next_ b4 (next_ b5 (next_ b6 (next_ b7 b8))))))⟩
end Go.Proofs.YtiphicejaljhiaaDoor
