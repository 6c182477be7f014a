/- 'wakes' (package stockpotlaw01) returns true; what 'Below' gives at a law's end. -/
import Derived.Test.YtckjlkeafeaniaaLeaf
import Derived.Test.YtckjlkeafeaniaaKit
import Derived.Deep.QuietTactic
import Derived.BigQuiet
namespace Go.Proofs.Ytckjlkeafeaniaa
open Go.ChangeShapes Go.WideShapes Go.ChangeAt Go.RowKit

theorem wInt_bd (v : Int) : 0 ≤ wInt v ∧ wInt v ≤ 18446744073709551615 := by unfold wInt; omega
theorem wPlace_bd (v : Int) : 0 ≤ wPlace v ∧ wPlace v ≤ 8589934590 := by unfold wPlace; split <;> omega

set_option maxHeartbeats 1000000 in
theorem c19 (w : World) : Calls Try.prog 19 #[] w fun e w' => e = .returned (.bool true) ∧ Below w.heap.size w w' := by
  have a1 : wPlace 7 = 14 := by decide
  have a2 : wAt 14 = 7 := by decide
  have a3 : wAtOk 14 = true := by decide
  have a4 : wInt 7 = 15 := by decide
  have a5 : wAt 15 = 0 := by decide
  have a6 : wAtOk 15 = false := by decide
  have a7 : wInt (-1) = 18446744073709551615 := by decide
  have a8 : wInt (-5) = 18446744073709551607 := by decide
  have a9 : wVal 18446744073709551607 = -5 := by decide
  have b1 : wIs 1 = true := by decide
  have b2 : wIs 2 = false := by decide
  have b3 : wWrap 4611686018427387904 = -4611686018427387904 := by decide
  have b4 : wWrap 4611686018427387903 = 4611686018427387903 := by decide
  have b5 : wPlace (-1) = 1 := by decide
  have b6 : wVal 2 = 0 := by decide
  go_enter Try.func19, Try.ntmps19
  go_wp2_with (first
    | (go_at_call 17; refine (c17 _ _).mono ?_; rintro e w' ⟨rfl, rfl⟩)
    | (go_at_call 9; refine (c9 _ _).mono ?_; rintro e w' ⟨rfl, rfl⟩)
    | (go_at_call 11; refine (c11 _ _).mono ?_; rintro e w' ⟨rfl, rfl⟩)
    | (go_at_call 7; refine (c7 _ (by decide) (by decide) _).mono ?_; rintro e w' ⟨rfl, rfl⟩)
    | (go_at_call 13; refine (c13 _ (by decide) (by decide) _).mono ?_; rintro e w' ⟨rfl, rfl⟩)
    | (go_at_call 15; refine (c15 _ (by decide) (by decide) _).mono ?_; rintro e w' ⟨rfl, hb⟩))
  go_ret
  rename_i w1 h1
  exact ⟨rfl, next_ h1 hb⟩

theorem atOk_ref (w : Int) (_h0 : 0 ≤ w) : (wAtOk w == decide (0 ≤ wRefAt w)) = true := by
  unfold wAtOk wRefAt
  split
  · rename_i h
    have : 0 ≤ w / 2 := by omega
    simp [h, this]
  · rename_i h
    simp [h]
theorem at_ref (w : Int) (h0 : 0 ≤ w) : wAt w = max 0 (wRefAt w) := by
  unfold wAt wRefAt
  split <;> omega
set_option maxHeartbeats 1000000 in
theorem c3 (v w1 at_ : Int) (h0 : 0 ≤ w1) (h1 : w1 ≤ 18446744073709551615) (w : World) : Calls Try.prog 3 #[.int .i64 v, .int .u64 w1, .int .i64 at_] w fun e w' => e = .returned (.bool true) ∧ Below w.heap.size w w' := by
  have e1 := atOk_ref w1 h0
  have e0 := at_ref w1 h0
  by_cases hq : 0 < wRefAt w1
  · have e2 : wAt w1 = wRefAt w1 := by omega
    clear e0
    go_enter Try.func3, Try.ntmps3
    go_wp2_with (first
    | (go_at_call 7; refine (c7 _ h0 h1 _).mono ?_; rintro e w' ⟨rfl, rfl⟩)
    | (go_at_call 8; refine (c8 _ h0 h1 _).mono ?_; rintro e w' ⟨rfl, rfl⟩)
    | (go_at_call 9; refine (c9 _ _).mono ?_; rintro e w' ⟨rfl, rfl⟩)
    | (go_at_call 10; refine (c10 _ _).mono ?_; rintro e w' ⟨rfl, rfl⟩)
    | (go_at_call 11; refine (c11 _ _).mono ?_; rintro e w' ⟨rfl, rfl⟩)
    | (go_at_call 12; refine (c12 _ _).mono ?_; rintro e w' ⟨rfl, rfl⟩)
    | (go_at_call 13; refine (c13 _ h0 h1 _).mono ?_; rintro e w' ⟨rfl, rfl⟩)
    | (go_at_call 14; refine (c14 _ h0 h1 _).mono ?_; rintro e w' ⟨rfl, rfl⟩)
    | (go_at_call 15; refine (c15 _ h0 h1 _).mono ?_; rintro e w' ⟨rfl, hb⟩)
    | (go_at_call 16; refine (c16 _ h0 h1 _).mono ?_; rintro e w' ⟨rfl, rfl⟩)
    | (go_at_call 17; refine (c17 _ _).mono ?_; rintro e w' ⟨rfl, rfl⟩)
    | (go_at_call 18; refine (c18 _ _).mono ?_; rintro e w' ⟨rfl, rfl⟩)
    | (go_at_call 19; refine (c19 _).mono ?_; rintro e w' ⟨rfl, hb⟩))
    go_ret
    rename_i w1 h1
    exact ⟨rfl, next_ h1 hb⟩
  · have e2 : wAt w1 = 0 := by omega
    clear e0
    go_enter Try.func3, Try.ntmps3
    go_wp2_with (first
    | (go_at_call 7; refine (c7 _ h0 h1 _).mono ?_; rintro e w' ⟨rfl, rfl⟩)
    | (go_at_call 8; refine (c8 _ h0 h1 _).mono ?_; rintro e w' ⟨rfl, rfl⟩)
    | (go_at_call 9; refine (c9 _ _).mono ?_; rintro e w' ⟨rfl, rfl⟩)
    | (go_at_call 10; refine (c10 _ _).mono ?_; rintro e w' ⟨rfl, rfl⟩)
    | (go_at_call 11; refine (c11 _ _).mono ?_; rintro e w' ⟨rfl, rfl⟩)
    | (go_at_call 12; refine (c12 _ _).mono ?_; rintro e w' ⟨rfl, rfl⟩)
    | (go_at_call 13; refine (c13 _ h0 h1 _).mono ?_; rintro e w' ⟨rfl, rfl⟩)
    | (go_at_call 14; refine (c14 _ h0 h1 _).mono ?_; rintro e w' ⟨rfl, rfl⟩)
    | (go_at_call 15; refine (c15 _ h0 h1 _).mono ?_; rintro e w' ⟨rfl, hb⟩)
    | (go_at_call 16; refine (c16 _ h0 h1 _).mono ?_; rintro e w' ⟨rfl, rfl⟩)
    | (go_at_call 17; refine (c17 _ _).mono ?_; rintro e w' ⟨rfl, rfl⟩)
    | (go_at_call 18; refine (c18 _ _).mono ?_; rintro e w' ⟨rfl, rfl⟩)
    | (go_at_call 19; refine (c19 _).mono ?_; rintro e w' ⟨rfl, hb⟩))
    go_ret
    rename_i w1 h1
    exact ⟨rfl, next_ h1 hb⟩

/-! ### WordBack -/
theorem val_int (v : Int) : wVal (wInt v) = wWrap v := by
  unfold wVal wInt wWrap
  rw [if_pos (by omega)]
  split <;> omega
theorem is_int (v : Int) : wIs (wInt v) = true := by
  unfold wIs wInt
  rw [beq_iff_eq]
  omega
theorem int_wrap (v : Int) : wInt (wWrap v) = wInt v := by
  unfold wInt wWrap
  omega
theorem at_int (v : Int) : wAtOk (wInt v) = false := by
  unfold wAtOk wInt
  exact decide_eq_false (by omega)
theorem at_place (a : Int) (h0 : 0 ≤ a) (h1 : a ≤ 4294967295) : wAt (wPlace a) = a ∧ wAtOk (wPlace a) = true ∧ wIs (wPlace a) = false := by
  have e : wPlace a = 2 * a := if_pos ⟨h0, h1⟩
  rw [e]
  unfold wAt wAtOk wIs
  rw [if_pos (by omega)]
  refine ⟨by omega, decide_eq_true (by omega), ?_⟩
  rw [beq_eq_false_iff_ne]
  omega
theorem int_inj (v u : Int) : (wInt v == wInt u) = (wWrap v == wWrap u) := by
  rw [Bool.eq_iff_iff, beq_iff_eq, beq_iff_eq]
  unfold wInt wWrap
  omega
theorem wrap_wrap (v : Int) : wWrap (wWrap v) = wWrap v := by
  unfold wWrap
  omega
set_option maxHeartbeats 1000000 in
theorem c4 (v u a : Int) (h0 : 0 ≤ a) (h1 : a ≤ 4294967295) (w : World) : Calls Try.prog 4 #[.int .i64 v, .int .i64 u, .int .u32 a] w fun e w' => e = .returned (.bool true) ∧ Below w.heap.size w w' := by
  have q1 := val_int v
  have q2 := is_int v
  have q3 := int_wrap v
  have q4 := at_int v
  obtain ⟨q5, q6, q7⟩ := at_place a h0 h1
  have q8 : ((wInt v == wInt u) == (wWrap v == wWrap u)) = true := by rw [int_inj]; simp
  have q9 := wrap_wrap v
  have r1 := (wInt_bd v).1
  have r2 := (wInt_bd v).2
  have r3 := (wPlace_bd a).1
  have r4 := (wPlace_bd a).2
  go_enter Try.func4, Try.ntmps4
  go_wp2_with (first
    | (go_at_call 7; refine (c7 _ (by omega) (by omega) _).mono ?_; rintro e w' ⟨rfl, rfl⟩)
    | (go_at_call 8; refine (c8 _ (by omega) (by omega) _).mono ?_; rintro e w' ⟨rfl, rfl⟩)
    | (go_at_call 9; refine (c9 _ _).mono ?_; rintro e w' ⟨rfl, rfl⟩)
    | (go_at_call 10; refine (c10 _ _).mono ?_; rintro e w' ⟨rfl, rfl⟩)
    | (go_at_call 11; refine (c11 _ _).mono ?_; rintro e w' ⟨rfl, rfl⟩)
    | (go_at_call 12; refine (c12 _ _).mono ?_; rintro e w' ⟨rfl, rfl⟩)
    | (go_at_call 13; refine (c13 _ (by omega) (by omega) _).mono ?_; rintro e w' ⟨rfl, rfl⟩)
    | (go_at_call 14; refine (c14 _ (by omega) (by omega) _).mono ?_; rintro e w' ⟨rfl, rfl⟩)
    | (go_at_call 15; refine (c15 _ (by omega) (by omega) _).mono ?_; rintro e w' ⟨rfl, hb⟩)
    | (go_at_call 16; refine (c16 _ (by omega) (by omega) _).mono ?_; rintro e w' ⟨rfl, rfl⟩)
    | (go_at_call 17; refine (c17 _ _).mono ?_; rintro e w' ⟨rfl, rfl⟩)
    | (go_at_call 18; refine (c18 _ _).mono ?_; rintro e w' ⟨rfl, rfl⟩)
    | (go_at_call 19; refine (c19 _).mono ?_; rintro e w' ⟨rfl, hb⟩))
  go_ret
  rename_i w1 h1 w2 h2
  exact ⟨rfl, next_ h1 (next_ h2 hb)⟩

/-! ### WordWraps -/
theorem wrap_bd (v : Int) : -4611686018427387904 ≤ wWrap v ∧ wWrap v ≤ 4611686018427387903 := by unfold wWrap; omega
theorem wrap_mod {x y : Int} (h : x % 9223372036854775808 = y % 9223372036854775808) : wWrap x = wWrap y := by unfold wWrap; omega
theorem mod_wrap (v : Int) : wWrap v % 9223372036854775808 = v % 9223372036854775808 := by unfold wWrap; omega
theorem mod_wrap64 (v : Int) : wrap64 v % 9223372036854775808 = v % 9223372036854775808 := by unfold wrap64; omega
theorem wraps_by (v : Int) : (IntKind.u64.wrap (IntKind.u64.wrap (wrap64 (v - wWrap v)) * 2) != 0) = false := by
  rw [bne_eq_false_iff_eq, IntKind.wrap_u64, IntKind.wrap_u64]
  unfold wrap64 wWrap
  omega
theorem wraps_add (v u : Int) : (wWrap (wWrap v + wWrap u) == wWrap (wrap64 (v + u))) = true := by
  rw [beq_iff_eq]
  apply wrap_mod
  rw [mod_wrap64]
  have h1 := mod_wrap v
  have h2 := mod_wrap u
  omega
theorem wraps_mul (v u : Int) : (wWrap (wrap64 (wWrap v * wWrap u)) == wWrap (wrap64 (v * u))) = true := by
  rw [beq_iff_eq]
  apply wrap_mod
  rw [mod_wrap64, mod_wrap64, Int.mul_emod, mod_wrap, mod_wrap, ← Int.mul_emod]
set_option maxHeartbeats 1000000 in
theorem c5 (v u : Int) (w : World) : Calls Try.prog 5 #[.int .i64 v, .int .i64 u] w fun e w' => e = .returned (.bool true) ∧ Below w.heap.size w w' := by
  obtain ⟨q1, q2⟩ := wrap_bd v
  obtain ⟨q3, q4⟩ := wrap_bd u
  have q5 := wraps_by v
  have q6 := wraps_add v u
  have q7 := wraps_mul v u
  go_enter Try.func5, Try.ntmps5
  go_wp2_with (first
    | (go_at_call 9; refine (c9 _ _).mono ?_; rintro e w' ⟨rfl, rfl⟩)
    | (go_at_call 11; refine (c11 _ _).mono ?_; rintro e w' ⟨rfl, rfl⟩)
    | (go_at_call 17; refine (c17 _ _).mono ?_; rintro e w' ⟨rfl, rfl⟩)
    | (go_at_call 19; refine (c19 _).mono ?_; rintro e w' ⟨rfl, hb⟩))
  go_ret
  exact ⟨rfl, hb⟩

/-! ### WordOrder -/
theorem order_int (v u : Int) : (wrap64 (wInt v) < wrap64 (wInt u)) = (wWrap v < wWrap u) := by
  refine propext ?_
  unfold wrap64 wInt wWrap
  omega
theorem order_place (a b : Int) (ha : 0 ≤ a ∧ a ≤ 4294967295) (hb : 0 ≤ b ∧ b ≤ 4294967295) : (wPlace a < wPlace b) = (a < b) ∧ (wPlace a == wPlace b) = (a == b) := by
  have e : wPlace a = 2 * a := if_pos ha
  have k : wPlace b = 2 * b := if_pos hb
  rw [e, k]
  refine ⟨propext (by omega), ?_⟩
  rw [Bool.eq_iff_iff, beq_iff_eq, beq_iff_eq]
  omega
theorem quiet_left {P : Program} {f : FuncId} {args : Array Value} {w : World} {n : Nat} {v : Value}
    (h : Calls P f args (w.drewN n) fun e w' => e = .returned v ∧ w.drewN n = w') : Calls P f args (w.drewN n) fun e w'' => e = .returned v ∧ ∃ m, w'' = w.drewN m :=
  h.mono fun _ _ ⟨he, hm⟩ => ⟨he, n, hm.symm⟩
set_option maxHeartbeats 1000000 in
theorem c6 (v u a b : Int) (ha0 : 0 ≤ a) (ha1 : a ≤ 4294967295) (hb0 : 0 ≤ b) (hb1 : b ≤ 4294967295) (w : World) : Calls Try.prog 6 #[.int .i64 v, .int .i64 u, .agg #[.int .u32 a, .int .u32 b]] w fun e w' => e = .returned (.bool true) ∧ Below w.heap.size w w' := by
  have f1 := order_int v u
  obtain ⟨f2, f3⟩ := order_place a b ⟨ha0, ha1⟩ ⟨hb0, hb1⟩
  go_enter Try.func6, Try.ntmps6
  go_wp2_with (first
    | (go_at_call 9; refine (c9 _ _).mono ?_; rintro e w' ⟨rfl, rfl⟩)
    | (go_at_call 11; refine (c11 _ _).mono ?_; rintro e w' ⟨rfl, rfl⟩)
    | (go_at_call 17; refine (c17 _ _).mono ?_; rintro e w' ⟨rfl, rfl⟩)
    | (go_at_call 19; refine (c19 _).mono ?_; rintro e w' ⟨rfl, hb⟩))
  go_quiet ((go_at_call 17; exact quiet_left (c17 _ _)))
  go_wp2_with (first
    | (go_at_call 9; refine (c9 _ _).mono ?_; rintro e w' ⟨rfl, rfl⟩)
    | (go_at_call 11; refine (c11 _ _).mono ?_; rintro e w' ⟨rfl, rfl⟩)
    | (go_at_call 17; refine (c17 _ _).mono ?_; rintro e w' ⟨rfl, rfl⟩)
    | (go_at_call 19; refine (c19 _).mono ?_; rintro e w' ⟨rfl, hb⟩))
  go_ret
  exact ⟨rfl, Below.trans (below_drewN ((Below.refl _ w).alloc (Nat.le_refl _) _) nq) (hb.mono (by simp))⟩
end Go.Proofs.Ytckjlkeafeaniaa
