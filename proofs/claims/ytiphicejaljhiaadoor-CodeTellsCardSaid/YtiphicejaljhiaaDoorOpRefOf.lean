/- Walks of the reference of op: Of (what an instruction takes, and leaves). -/
import Derived.Test.YtiphicejaljhiaaDoorOpRefGood
namespace Go.Proofs.YtiphicejaljhiaaDoor
open Go.ChangeShapes Go.WideShapes Go.ChangeAt Go.RowKit
def rEff (o a b : Int) : Int × Int :=
  if o = 0 ∨ o = 1 ∨ o = 2 ∨ o = 4 ∨ o = 5 then (0, 1) else if o = 6 ∨ o = 19 then (b, 1) else if o = 3 ∨ o = 9 ∨ o = 11 ∨ o = 35 ∨ o = 37 then (1, 0) else if o = 8 then (2, 0)
  else if o = 10 ∨ o = 33 ∨ o = 34 then (0, 0) else if o = 20 ∨ o = 21 ∨ o = 22 ∨ o = 27 ∨ o = 29 ∨ o = 31 then (1, 1) else if o = 26 then (3, 1)
  else if o = 36 then (if a = 2 then (2, 1) else if a = 3 then (0, 1) else (1, 1)) else (2, 1)
def effV (p : Int × Int) : Value := .agg #[.int .i64 p.1, .int .i64 p.2]
theorem heap_new2 (w : World) (o1 o2 : Obj) : ((w.alloc o1).alloc o2).heap[w.heap.size + 1]? = some o2 := by
  have := heap_alloc_new (w.alloc o1) o2
  simpa using this
theorem ret_eff2 {x y : Int} {p : Int × Int} (h : (x, y) = p) : Ending.returned (.agg #[.int .i64 x, .int .i64 y]) = .returned (effV p) := by rw [← h]; rfl
set_option maxHeartbeats 4000000 in
theorem c16 (o a b : Int) (w : World) : Calls Tryd.prog 16 #[.agg #[.int .i64 o, .int .i64 a, .int .i64 b]] w fun e w' => e = .returned (effV (rEff o a b)) ∧ Below w.heap.size w w' := by
  go_enter Tryd.func16, Tryd.ntmps16
  go_wp2
  all_goals refine bodyPost_ret (results_cell_row rfl _ _ _ 27 _ (0, 0) _ rfl (heap_new2 _ _ _) Tryd.underlying27 rfl (by kernel_rfl)) rfl ⟨?_, ((Below.refl _ _).alloc (Nat.le_refl _) _).alloc (by simp) _⟩
  all_goals first
    | (simp only [beq_iff_eq, beq_eq_false_iff_ne, ne_eq] at *; subst_vars; refine ret_eff2 ?_; simp [rEff]; done)
    | (simp only [beq_iff_eq, beq_eq_false_iff_ne, ne_eq] at *; subst_vars; refine ret_eff2 ?_; simp [rEff, *]; done)
theorem rEff_rows : ∀ k : Nat, k < 38 → k ≠ 6 → k ≠ 19 → k ≠ 36 → rEff (k : Int) 0 0 = ((opRow k).tk, (opRow k).lv) := by decide
theorem rEff_ab {k : Int} (h0 : k ≠ 6) (h1 : k ≠ 19) (h2 : k ≠ 36) (a b : Int) : rEff k a b = rEff k 0 0 := by
  unfold rEff
  simp [h0, h1, h2]
/-- Of an instruction that may be, the reference's two numbers are the table's. -/
theorem rEff_good {o a b : Int} (h : gGood o a b = true) : rEff o a b = (gTakes o a b, gLeaves o) := by
  have hr : ¬ (o < 0 ∨ 38 ≤ o) := fun hh => by rw [gGood_no hh] at h; cases h
  obtain ⟨k, hk, rfl⟩ := of_nat o hr
  by_cases h6 : k = 6
  · subst h6
    rfl
  · by_cases h19 : k = 19
    · subst h19
      rfl
    · by_cases h36 : k = 36
      · subst h36
        rcases host_a h with rfl | rfl | rfl | rfl <;> rfl
      · rw [rEff_ab (by omega) (by omega) (by omega), rEff_rows k hk h6 h19 h36, takes_yes h36, if_neg (by omega)]
        rfl
end Go.Proofs.YtiphicejaljhiaaDoor
