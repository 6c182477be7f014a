/- Walks of package op: Effect, Ends, Of. -/
import Derived.Test.YtiphicejaljhiaaDoorOpGood
namespace Go.Proofs.YtiphicejaljhiaaDoor
open Go.ChangeShapes Go.WideShapes Go.ChangeAt Go.RowKit

theorem c22 (o a b : Int) (w : World) : Calls Tryd.prog 22 #[.agg #[.int .i64 o, .int .i64 a, .int .i64 b]] w fun e w' => e = .returned (.bool (gEnds o)) ∧ Below w.heap.size w w' := by
  go_enter Tryd.func22, Tryd.ntmps22
  go_wp2
  all_goals go_ret
  all_goals refine ⟨ret_bool ?_, (Below.refl _ _).alloc (Nat.le_refl _) _⟩
  all_goals (rw [Bool.eq_iff_iff]; unfold gEnds; simp at *; omega)
theorem c23 (o a b : Int) (w : World) : Calls Tryd.prog 23 #[.agg #[.int .i64 o, .int .i64 a, .int .i64 b]] w fun e w' => e = .returned (.bool (gEnds o)) ∧ Below w.heap.size w w' := by
  go_enter Tryd.func23, Tryd.ntmps23
  go_wp2
  all_goals go_ret
  all_goals refine ⟨ret_bool ?_, (Below.refl _ _).alloc (Nat.le_refl _) _⟩
  all_goals (rw [Bool.eq_iff_iff]; unfold gEnds; simp at *; omega)
theorem ret_eff {x y x' y' : Int} (h : x = x') (k : y = y') : Ending.returned (.tuple #[.int .i64 x, .int .i64 y, .bool true]) = .returned (.tuple #[.int .i64 x', .int .i64 y', .bool true]) := by rw [h, k]
theorem host_a {a b : Int} (h : gGood ((36 : Nat) : Int) a b = true) : a = 0 ∨ a = 1 ∨ a = 2 ∨ a = 3 := by
  unfold gGood at h
  rw [if_neg (by omega)] at h
  split at h
  · cases h
  · have := of_decide_eq_true h
    have e0 : (opRow ((36 : Nat) : Int).toNat).a0 = 0 := rfl
    have e1 : (opRow ((36 : Nat) : Int).toNat).a1 = 3 := rfl
    rw [e0, e1] at this
    omega
theorem takes_yes {k : Nat} (h : ¬ k = 36) {a b : Int} : gTakes k a b = if (k : Int) = 6 ∨ (k : Int) = 19 then b else (opRow k).tk := by
  unfold gTakes
  rw [if_neg (show ¬ (k : Int) = 36 by omega)]
  rfl
set_option maxHeartbeats 1000000 in
theorem c15 (o a b : Int) (w : World) (ht : OpTab w) : Calls Tryd.prog 15 #[.agg #[.int .i64 o, .int .i64 a, .int .i64 b]] w fun e w' =>
    e = .returned (.tuple #[.int .i64 (if gGood o a b = true then gTakes o a b else 0), .int .i64 (if gGood o a b = true then gLeaves o else 0), .bool (gGood o a b)]) ∧ Below w.heap.size w w' := by
  have ht1 : OpTab (w.alloc (.cells #[.int .i64 o, .int .i64 a, .int .i64 b] 23)) := ht.below ((Below.refl _ _).alloc (Nat.le_refl _) _) ht.1
  cases hg : gGood o a b
  · go_enter Tryd.func15, Tryd.ntmps15
    go_wp2_with (go_at_call 21; refine (c21 o a b _ ht1).mono ?_; rintro e w1 ⟨rfl, hb⟩)
    go_ret3
    exact ⟨by simp, Below.trans ((Below.refl _ _).alloc (Nat.le_refl _) _) (hb.mono (by simp))⟩
  · have hr : ¬ (o < 0 ∨ 38 ≤ o) := fun h => by rw [gGood_no h] at hg; cases hg
    obtain ⟨k, hk, rfl⟩ := of_nat o hr
    go_enter Tryd.func15, Tryd.ntmps15
    go_wp2_with fail
    refine (c21 k a b _ ht1).mono ?_
    rintro e w1 ⟨rfl, hb⟩
    obtain ⟨h0, h1, h2, h3, h4, h5, h6⟩ := (ht1.below hb (by simp)).row k hk
    have hz1 := hb.size
    simp at hz1
    have hz2 : w.heap.size < w1.heap.size := by omega
    have hz3 : 0 < w1.heap.size := by omega
    have hA := allocb
    have p0 : w1.cell? ⟨w.heap.size, 0, none⟩ = some (.int .i64 k) := (hb.cell (p := ⟨w.heap.size, 0, none⟩) (by simp)).trans (by simp)
    have p1 : w1.cell? ⟨w.heap.size, 1, none⟩ = some (.int .i64 a) := (hb.cell (p := ⟨w.heap.size, 1, none⟩) (by simp)).trans (by simp)
    have p2 : w1.cell? ⟨w.heap.size, 2, none⟩ = some (.int .i64 b) := (hb.cell (p := ⟨w.heap.size, 2, none⟩) (by simp)).trans (by simp)
    have hB : Below w.heap.size w w1 := Below.trans ((Below.refl _ _).alloc (Nat.le_refl _) _) (hb.mono (by simp))
    have HB := Lib.hid hB
    clear hB hb ht ht1 hr
    by_cases h36 : k = 36
    · subst h36
      have hg' : gGood 36 a b = true := hg
      clear hg
      have i0 : ∀ w, (Instr.index 87 (.agg #[.int .i64 1, .int .i64 1, .int .i64 2, .int .i64 0]) (.int .i64 0)).run Tryd.prog w = .ok (.int .i64 1) w := fun _ => by kernel_rfl
      have i1 : ∀ w, (Instr.index 87 (.agg #[.int .i64 1, .int .i64 1, .int .i64 2, .int .i64 0]) (.int .i64 1)).run Tryd.prog w = .ok (.int .i64 1) w := fun _ => by kernel_rfl
      have i2 : ∀ w, (Instr.index 87 (.agg #[.int .i64 1, .int .i64 1, .int .i64 2, .int .i64 0]) (.int .i64 2)).run Tryd.prog w = .ok (.int .i64 2) w := fun _ => by kernel_rfl
      have i3 : ∀ w, (Instr.index 87 (.agg #[.int .i64 1, .int .i64 1, .int .i64 2, .int .i64 0]) (.int .i64 3)).run Tryd.prog w = .ok (.int .i64 0) w := fun _ => by kernel_rfl
      rcases host_a hg' with rfl | rfl | rfl | rfl
      all_goals
        go_wp2_with fail
        go_quiet (fail)
        go_wp2_with fail
        go_ret3
        exact ⟨rfl, below_drewN ((HB.out).alloc (by omega) _) _⟩
    · have t1 := Lib.hid (takes_yes h36 (a := a) (b := b))
      go_wp2_with fail
      all_goals go_quiet (fail)
      all_goals go_wp2_with fail
      all_goals go_ret3
      all_goals refine ⟨ret_eff ?_ rfl, below_drewN ((HB.out).alloc (by omega) _) _⟩
      all_goals first | (rw [t1.out, if_pos (by simp at *; omega)]) | (rw [t1.out, if_neg (by simp at *; omega)])
end Go.Proofs.YtiphicejaljhiaaDoor
