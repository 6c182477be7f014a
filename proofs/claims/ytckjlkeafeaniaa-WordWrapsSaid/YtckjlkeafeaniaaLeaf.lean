/- What the functions of package word, and of its reference, come to: a plain function each, for every number that fits its kind. -/
import Derived.Test.YtckjlkeafeaniaaKit
namespace Go.Proofs.Ytckjlkeafeaniaa
open Go.ChangeShapes Go.WideShapes Go.ChangeAt Go.RowKit

/-! ### The plain functions -/
def wInt (v : Int) : Int := (2 * v + 1) % 18446744073709551616
def wWrap (v : Int) : Int := (v + 4611686018427387904) % 9223372036854775808 - 4611686018427387904
def wIs (w : Int) : Bool := w % 2 == 1
def wVal (w : Int) : Int := if w % 2 = 1 then (if w < 9223372036854775808 then w else w - 18446744073709551616) / 2 else 0
def wPlace (at_ : Int) : Int := if 0 ≤ at_ ∧ at_ ≤ 4294967295 then 2 * at_ else 1
def wAtOk (w : Int) : Bool := decide (w % 2 = 0 ∧ w / 2 ≤ 4294967295)
def wAt (w : Int) : Int := if w % 2 = 0 ∧ w / 2 ≤ 4294967295 then w / 2 else 0
def wRefAt (w : Int) : Int := if w % 2 = 0 ∧ w / 2 ≤ 4294967295 then w / 2 else -1
def wMay (at_ : Int) : Bool := decide (0 ≤ at_ ∧ at_ < 4294967296)


theorem wraps_u64 (n : Int) (h₀ : 0 ≤ n) (h₁ : n < 2 ^ 64) : IntKind.u64.wrap n = n := by rw [IntKind.wrap_u64]; omega
theorem or_one (v : Int) : bits .or .u64 (IntKind.u64.wrap (IntKind.u64.wrap v * 2)) 1 = wInt v := by
  rw [bits_join .u64 64 (by decide) wraps_u64 1 _ 1 (by rw [IntKind.wrap_u64]; omega) (by rw [IntKind.wrap_u64]; omega) (by rw [IntKind.wrap_u64]; omega) (by decide) (by decide) (by decide)]
  unfold wInt
  rw [IntKind.wrap_u64, IntKind.wrap_u64]
  omega
theorem and_one (v : Int) (h0 : 0 ≤ v) (h1 : v ≤ 18446744073709551615) : bits .and .u64 v 1 = v % 2 :=
  bits_mask .u64 64 (by decide) wraps_u64 1 (by decide) v h0 (by omega)
theorem wrap_eq (v : Int) : wrap64 (v * 2) / 2 = wWrap v := by
  unfold wrap64 wWrap
  omega

/-! ### The walks -/
theorem c9 (v : Int) (w : World) : Calls Try.prog 9 #[.int .i64 v] w fun e w' => e = .returned (.int .u64 (wInt v)) ∧ w = w' := by
  go_enter Try.func9, Try.ntmps9
  go_wp2
  go_ret
  exact ⟨ret_int (or_one v), rfl⟩
theorem c10 (v : Int) (w : World) : Calls Try.prog 10 #[.int .i64 v] w fun e w' => e = .returned (.int .u64 (wInt v)) ∧ w = w' := by
  go_enter Try.func10, Try.ntmps10
  go_wp2
  go_ret
  exact ⟨ret_int (or_one v), rfl⟩
theorem c11 (v : Int) (w : World) : Calls Try.prog 11 #[.int .i64 v] w fun e w' => e = .returned (.int .i64 (wWrap v)) ∧ w = w' := by
  go_enter Try.func11, Try.ntmps11
  go_wp2
  go_ret
  exact ⟨ret_int (wrap_eq v), rfl⟩
theorem c12 (v : Int) (w : World) : Calls Try.prog 12 #[.int .i64 v] w fun e w' => e = .returned (.int .i64 (wWrap v)) ∧ w = w' := by
  go_enter Try.func12, Try.ntmps12
  go_wp2
  go_ret
  exact ⟨ret_int (wrap_eq v), rfl⟩
theorem c13 (v : Int) (h0 : 0 ≤ v) (h1 : v ≤ 18446744073709551615) (w : World) : Calls Try.prog 13 #[.int .u64 v] w fun e w' => e = .returned (.bool (wIs v)) ∧ w = w' := by
  go_enter Try.func13, Try.ntmps13
  go_wp2
  go_ret
  exact ⟨ret_bool (by rw [and_one v h0 h1]; rfl), rfl⟩
theorem c14 (v : Int) (h0 : 0 ≤ v) (_h1 : v ≤ 18446744073709551615) (w : World) : Calls Try.prog 14 #[.int .u64 v] w fun e w' => e = .returned (.bool (wIs v)) ∧ w = w' := by
  go_enter Try.func14, Try.ntmps14
  go_wp2
  go_ret
  exact ⟨ret_bool rfl, rfl⟩
theorem val_eq (v : Int) (h0 : 0 ≤ v) (h1 : v ≤ 18446744073709551615) (h : wIs v = true) : wrap64 v / 2 = wVal v := by
  have h' : v % 2 = 1 := by simpa [wIs] using h
  unfold wVal wrap64
  rw [if_pos h']
  split <;> omega
theorem val_no (v : Int) (h : wIs v = false) : 0 = wVal v := by
  have h' : ¬ v % 2 = 1 := by simpa [wIs] using h
  unfold wVal
  rw [if_neg h']
theorem c15 (v : Int) (h0 : 0 ≤ v) (h1 : v ≤ 18446744073709551615) (w : World) : Calls Try.prog 15 #[.int .u64 v] w fun e w' => e = .returned (.int .i64 (wVal v)) ∧ Below w.heap.size w w' := by
  cases hb : wIs v
  · go_enter Try.func15, Try.ntmps15
    go_wp2_with (go_at_call 13; refine (c13 v h0 h1 _).mono ?_; rintro e w' ⟨rfl, rfl⟩)
    go_ret
    exact ⟨ret_int (val_no v hb), Below.refl _ _⟩
  · go_enter Try.func15, Try.ntmps15
    go_wp2_with (go_at_call 13; refine (c13 v h0 h1 _).mono ?_; rintro e w' ⟨rfl, rfl⟩)
    go_ret
    exact ⟨ret_int (val_eq v h0 h1 hb), (Below.refl _ _).alloc (Nat.le_refl _) _⟩
theorem c16 (v : Int) (h0 : 0 ≤ v) (h1 : v ≤ 18446744073709551615) (w : World) : Calls Try.prog 16 #[.int .u64 v] w fun e w' => e = .returned (.int .i64 (wVal v)) ∧ w = w' := by
  cases hb : wIs v
  · go_enter Try.func16, Try.ntmps16
    go_wp2_with (go_at_call 14; refine (c14 v h0 h1 _).mono ?_; rintro e w' ⟨rfl, rfl⟩)
    go_ret
    exact ⟨ret_int (val_no v hb), rfl⟩
  · go_enter Try.func16, Try.ntmps16
    go_wp2_with (go_at_call 14; refine (c14 v h0 h1 _).mono ?_; rintro e w' ⟨rfl, rfl⟩)
    go_ret
    exact ⟨ret_int (val_eq v h0 h1 hb), rfl⟩
theorem atOk_yes (w : Int) (h : wIs w = false) (h2 : w / 2 ≤ 4294967295) : wAtOk w = true ∧ wAt w = w / 2 ∧ wRefAt w = w / 2 := by
  have h' : ¬ w % 2 = 1 := by simpa [wIs] using h
  have hc : w % 2 = 0 ∧ w / 2 ≤ 4294967295 := by omega
  unfold wAtOk wAt wRefAt
  rw [if_pos hc, if_pos hc]
  simp [hc]
theorem atOk_no (w : Int) (h : wIs w = true ∨ 4294967295 < w / 2) : wAtOk w = false ∧ wAt w = 0 ∧ wRefAt w = -1 := by
  have hc : ¬ (w % 2 = 0 ∧ w / 2 ≤ 4294967295) := by
    rcases h with h | h
    · have h' : w % 2 = 1 := by simpa [wIs] using h
      omega
    · omega
  unfold wAtOk wAt wRefAt
  rw [if_neg hc, if_neg hc]
  exact ⟨decide_eq_false hc, rfl, rfl⟩
theorem ret_at {a b : Int} {c d : Bool} (h : a = b) (k : c = d) : Ending.returned (.tuple #[.int .i64 a, .bool c]) = .returned (.tuple #[.int .i64 b, .bool d]) := by rw [h, k]
theorem c7 (v : Int) (h0 : 0 ≤ v) (h1 : v ≤ 18446744073709551615) (w : World) : Calls Try.prog 7 #[.int .u64 v] w fun e w' => e = .returned (.tuple #[.int .i64 (wAt v), .bool (wAtOk v)]) ∧ w = w' := by
  cases hb : wIs v
  · by_cases h2 : 4294967295 < v / 2
    · go_enter Try.func7, Try.ntmps7
      go_wp2_with (go_at_call 13; refine (c13 v h0 h1 _).mono ?_; rintro e w' ⟨rfl, rfl⟩)
      go_ret2
      exact ⟨ret_at (atOk_no v (.inr h2)).2.1.symm (atOk_no v (.inr h2)).1.symm, rfl⟩
    · go_enter Try.func7, Try.ntmps7
      go_wp2_with (go_at_call 13; refine (c13 v h0 h1 _).mono ?_; rintro e w' ⟨rfl, rfl⟩)
      go_ret2
      exact ⟨ret_at (atOk_yes v hb h2).2.1.symm (atOk_yes v hb h2).1.symm, rfl⟩
  · go_enter Try.func7, Try.ntmps7
    go_wp2_with (go_at_call 13; refine (c13 v h0 h1 _).mono ?_; rintro e w' ⟨rfl, rfl⟩)
    go_ret2
    exact ⟨ret_at (atOk_no v (.inl hb)).2.1.symm (atOk_no v (.inl hb)).1.symm, rfl⟩
theorem c8 (v : Int) (h0 : 0 ≤ v) (h1 : v ≤ 18446744073709551615) (w : World) : Calls Try.prog 8 #[.int .u64 v] w fun e w' => e = .returned (.int .i64 (wRefAt v)) ∧ w = w' := by
  cases hb : wIs v
  · by_cases h2 : 4294967295 < v / 2
    · go_enter Try.func8, Try.ntmps8
      go_wp2_with (go_at_call 14; refine (c14 v h0 h1 _).mono ?_; rintro e w' ⟨rfl, rfl⟩)
      go_ret
      exact ⟨ret_int (atOk_no v (.inr h2)).2.2.symm, rfl⟩
    · go_enter Try.func8, Try.ntmps8
      go_wp2_with (go_at_call 14; refine (c14 v h0 h1 _).mono ?_; rintro e w' ⟨rfl, rfl⟩)
      go_ret
      exact ⟨ret_int (atOk_yes v hb h2).2.2.symm, rfl⟩
  · go_enter Try.func8, Try.ntmps8
    go_wp2_with (go_at_call 14; refine (c14 v h0 h1 _).mono ?_; rintro e w' ⟨rfl, rfl⟩)
    go_ret
    exact ⟨ret_int (atOk_no v (.inl hb)).2.2.symm, rfl⟩
theorem one_int : wInt 0 = 1 := by decide
theorem place_yes (a : Int) (h : 0 ≤ a) (h2 : a ≤ 4294967295) : 2 * a = wPlace a := by
  unfold wPlace
  rw [if_pos ⟨h, h2⟩]
theorem place_no (a : Int) (h : ¬ (0 ≤ a ∧ a ≤ 4294967295)) : wInt 0 = wPlace a := by
  unfold wPlace
  rw [if_neg h, one_int]
theorem c17 (v : Int) (w : World) : Calls Try.prog 17 #[.int .i64 v] w fun e w' => e = .returned (.int .u64 (wPlace v)) ∧ w = w' := by
  by_cases h0 : v < 0
  · go_enter Try.func17, Try.ntmps17
    go_wp2_with (go_at_call 9; refine (c9 _ _).mono ?_; rintro e w' ⟨rfl, rfl⟩)
    go_ret
    exact ⟨ret_int (place_no v (by omega)), rfl⟩
  · by_cases h2 : 4294967295 < v
    · go_enter Try.func17, Try.ntmps17
      go_wp2_with (go_at_call 9; refine (c9 _ _).mono ?_; rintro e w' ⟨rfl, rfl⟩)
      go_ret
      exact ⟨ret_int (place_no v (by omega)), rfl⟩
    · go_enter Try.func17, Try.ntmps17
      go_wp2_with fail
      go_ret
      exact ⟨ret_int ((Int.mul_comm v 2).trans (place_yes v (by omega) (by omega))), rfl⟩
theorem c20 (v : Int) (w : World) : Calls Try.prog 20 #[.int .i64 v] w fun e w' => e = .returned (.bool (wMay v)) ∧ w = w' := by
  by_cases h0 : 0 ≤ v
  · go_enter Try.func20, Try.ntmps20
    go_wp2
    go_ret
    exact ⟨ret_bool (by simp [wMay, h0]), rfl⟩
  · go_enter Try.func20, Try.ntmps20
    go_wp2
    go_ret
    exact ⟨ret_bool (decide_eq_false (fun h => by omega)).symm, rfl⟩
theorem c18 (v : Int) (w : World) : Calls Try.prog 18 #[.int .i64 v] w fun e w' => e = .returned (.int .u64 (wPlace v)) ∧ w = w' := by
  cases hb : wMay v
  · go_enter Try.func18, Try.ntmps18
    go_wp2_with (first | (go_at_call 20; refine (c20 _ _).mono ?_; rintro e w' ⟨rfl, rfl⟩) | (go_at_call 10; refine (c10 _ _).mono ?_; rintro e w' ⟨rfl, rfl⟩))
    go_ret
    exact ⟨ret_int (place_no v (by have := of_decide_eq_false hb; omega)), rfl⟩
  · have hv := of_decide_eq_true hb
    go_enter Try.func18, Try.ntmps18
    go_wp2_with (first | (go_at_call 20; refine (c20 _ _).mono ?_; rintro e w' ⟨rfl, rfl⟩) | (go_at_call 10; refine (c10 _ _).mono ?_; rintro e w' ⟨rfl, rfl⟩))
    go_ret
    exact ⟨ret_int (place_yes v (by omega) (by omega)), rfl⟩
end Go.Proofs.Ytckjlkeafeaniaa
