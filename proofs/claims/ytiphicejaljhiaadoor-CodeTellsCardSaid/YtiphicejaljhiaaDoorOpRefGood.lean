/- Walks of the reference of op: Good. -/
import Derived.Test.YtiphicejaljhiaaDoorOpRef
namespace Go.Proofs.YtiphicejaljhiaaDoor
open Go.ChangeShapes Go.WideShapes Go.ChangeAt Go.RowKit
theorem nm_some : ∀ k, k < 38 → (opRow k).nm.isEmpty = false := by decide
theorem gName_empty {o : Int} (h : gName o = []) : o < 0 ∨ 38 ≤ o := by
  by_cases hr : o < 0 ∨ 38 ≤ o
  · exact hr
  · obtain ⟨k, hk, rfl⟩ := of_nat o hr
    rw [gName_yes hk] at h
    have := nm_some k hk
    rw [h] at this
    cases this
theorem zero_rows' : ∀ k, k < 38 → ([0, 21, 1, 2, 3, 4, 6, 10, 11, 33, 19, 20, 22, 36].contains k || ((opRow k).a0 == 0 && (opRow k).a1 == 0 && (opRow k).b0 == 0 && (opRow k).b1 == 0)) = true := by decide
theorem zero_rows (k : Nat) (hk : k < 38) (h0 : k ≠ 0) (h1 : k ≠ 21) (h2 : k ≠ 1) (h3 : k ≠ 2) (h4 : k ≠ 3) (h5 : k ≠ 4) (h6 : k ≠ 6) (h7 : k ≠ 10) (h8 : k ≠ 11) (h9 : k ≠ 33) (h10 : k ≠ 19) (h11 : k ≠ 20) (h12 : k ≠ 22) (h13 : k ≠ 36) :
    (opRow k).a0 = 0 ∧ (opRow k).a1 = 0 ∧ (opRow k).b0 = 0 ∧ (opRow k).b1 = 0 := by
  have h := zero_rows' k hk
  simp [h0, h1, h2, h3, h4, h5, h6, h7, h8, h9, h10, h11, h12, h13] at h
  omega
theorem good_rest {o a b : Int} (h0 : o ≠ 0) (h1 : o ≠ 21) (h2 : o ≠ 1) (h3 : o ≠ 2) (h4 : o ≠ 3) (h5 : o ≠ 4) (h6 : o ≠ 6) (h7 : o ≠ 10) (h8 : o ≠ 11) (h9 : o ≠ 33) (h10 : o ≠ 19) (h11 : o ≠ 20) (h12 : o ≠ 22) (h13 : o ≠ 36) :
    gGood o a b = ((!(gName o).isEmpty) && a == 0 && b == 0) := by
  by_cases hr : o < 0 ∨ 38 ≤ o
  · rw [gGood_no hr, gName_no hr]
    rfl
  · obtain ⟨k, hk, rfl⟩ := of_nat o hr
    obtain ⟨e0, e1, e2, e3⟩ := zero_rows k hk (by omega) (by omega) (by omega) (by omega) (by omega) (by omega) (by omega) (by omega) (by omega) (by omega) (by omega) (by omega) (by omega) (by omega)
    rw [gName_yes hk, nm_some k hk]
    unfold gGood
    rw [if_neg hr, if_neg (by omega), Int.toNat_natCast, e0, e1, e2, e3, Bool.eq_iff_iff]
    simp
    omega
set_option maxHeartbeats 4000000 in
theorem c17 (o a b : Int) (w : World) : Calls Tryd.prog 17 #[.agg #[.int .i64 o, .int .i64 a, .int .i64 b]] w fun e w' => e = .returned (.bool (gGood o a b)) ∧ Below w.heap.size w w' := by
  go_enter Tryd.func17, Tryd.ntmps17
  go_wp2_with (first
    | (go_at_call 44; refine (c44 _ _ _ _).mono ?_; rintro e w' ⟨rfl, rfl⟩)
    | (go_at_call 18; refine (c18 _ _).mono ?_; rintro e w' ⟨rfl, rfl⟩))
  all_goals go_ret
  all_goals refine ⟨ret_bool ?_, (Below.refl _ _).alloc (Nat.le_refl _) _⟩
  all_goals first
    | (simp only [beq_iff_eq] at *; subst_vars; rw [Bool.eq_iff_iff]; simp [gGood, opRow, opTab]; done)
    | (simp only [beq_iff_eq] at *; subst_vars; rw [Bool.eq_iff_iff]; simp [gGood, opRow, opTab]; omega)
    | (simp only [beq_eq_false_iff_ne, ne_eq] at *; rw [good_rest (by assumption) (by assumption) (by assumption) (by assumption) (by assumption) (by assumption) (by assumption) (by assumption) (by assumption) (by assumption) (by assumption) (by assumption) (by assumption) (by assumption)]; simp [*])
end Go.Proofs.YtiphicejaljhiaaDoor
