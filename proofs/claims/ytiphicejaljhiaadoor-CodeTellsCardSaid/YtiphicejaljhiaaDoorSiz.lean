/- What the reach gives: a program's rows are not so long that their sum wraps; then one that is not too large is small. No program in sight. -/
import Derived.Test.YtiphicejaljhiaaDoorLarge
namespace Go.Proofs.YtiphicejaljhiaaDoor
open Go.ChangeShapes Go.WideShapes Go.ChangeAt Go.RowKit
structure SizedP (q : PrMem) : Prop where
  F : q.L.length ≤ 17592186044416
  S : q.S.length ≤ 17592186044416
  M : q.M.length ≤ 17592186044416
  f : ∀ x ∈ q.L, x.fn.code.length ≤ 17592186044416
  m : ∀ x ∈ q.M, x.fm.cons.length ≤ 17592186044416
structure SmallP (q : PrMem) : Prop where
  F : q.L.length ≤ 3000
  S : q.S.length ≤ 3000
  M : q.M.length ≤ 3000
  f : ∀ x ∈ q.L, x.fn.code.length ≤ 3000
  m : ∀ x ∈ q.M, x.fm.cons.length ≤ 3000
theorem lgS_all : ∀ (l : List Int) (n : Int), 0 ≤ n → n ≤ 70368744177664 → (∀ x ∈ l, 0 ≤ x ∧ x ≤ 17592186044416) → lgS n l ≤ 3000 → n ≤ lgS n l ∧ ∀ x ∈ l, x ≤ lgS n l := by
  intro l
  induction l with
  | nil => intro n _ _ _ _; exact ⟨Int.le_refl _, fun x hx => (List.not_mem_nil hx).elim⟩
  | cons x l ih =>
    intro n h0 h1 hl h
    have hx := hl x (List.mem_cons_self ..)
    by_cases hn : n ≤ 3000
    · have hw : wrap64 (n + x) = n + x := IntWalk.wrap64_in _ (by omega)
      rw [lgS, if_pos hn, hw] at h ⊢
      obtain ⟨h2, h3⟩ := ih (n + x) (by omega) (by omega) (fun y hy => hl y (List.mem_cons_of_mem _ hy)) h
      refine ⟨by omega, fun y hy => ?_⟩
      rcases List.mem_cons.1 hy with rfl | hy
      · omega
      · exact h3 y hy
    · rw [lgS, if_neg hn] at h
      exact absurd h hn
theorem small_of {q : PrMem} (hg : gLarge q = false) (hz : SizedP q) : SmallP q := by
  unfold gLarge at hg
  have hg := of_decide_eq_false hg
  have hF := hz.F
  have hS := hz.S
  have hM := hz.M
  have e1 : wrap64 ((q.L.length : Int) + q.S.length) = (q.L.length : Int) + q.S.length := IntWalk.wrap64_in _ (by omega)
  have e2 : wrap64 ((q.L.length : Int) + q.S.length + q.M.length) = (q.L.length : Int) + q.S.length + q.M.length := IntWalk.wrap64_in _ (by omega)
  rw [e1, e2] at hg
  generalize hn0 : (q.L.length : Int) + q.S.length + q.M.length = n0 at hg
  have bF : ∀ x ∈ lgF q, 0 ≤ x ∧ x ≤ 17592186044416 := fun x hx => by
    obtain ⟨y, hy, rfl⟩ := List.mem_map.1 hx
    have := hz.f y hy
    omega
  have bT : ∀ x ∈ lgT q, 0 ≤ x ∧ x ≤ 17592186044416 := fun x hx => by
    obtain ⟨y, hy, rfl⟩ := List.mem_map.1 hx
    split <;> omega
  have bM : ∀ x ∈ lgM q, 0 ≤ x ∧ x ≤ 17592186044416 := fun x hx => by
    obtain ⟨y, hy, rfl⟩ := List.mem_map.1 hx
    have := hz.m y hy
    omega
  have up : ∀ (l : List Int) (n : Int), 0 ≤ n → n ≤ 52776558133248 → (∀ x ∈ l, 0 ≤ x ∧ x ≤ 17592186044416) → 0 ≤ lgS n l ∧ lgS n l ≤ 52776558133248 := by
    intro l
    induction l with
    | nil => intro n h0 h1 _; exact ⟨h0, h1⟩
    | cons x l ih =>
      intro n h0 h1 hl
      have hx := hl x (List.mem_cons_self ..)
      rw [lgS]
      split
      · have hw : wrap64 (n + x) = n + x := IntWalk.wrap64_in _ (by omega)
        rw [hw]
        exact ih _ (by omega) (by omega) (fun y hy => hl y (List.mem_cons_of_mem _ hy))
      · exact ⟨h0, h1⟩
  have u1 := up (lgF q) n0 (by omega) (by omega) bF
  have u2 := up (lgT q) _ u1.1 u1.2 bT
  generalize hn1 : lgS n0 (lgF q) = n1 at hg u1 u2
  generalize hn2 : lgS n1 (lgT q) = n2 at hg u2
  have h3 := lgS_all (lgM q) n2 u2.1 (by omega) bM (by omega)
  have h2 := lgS_all (lgT q) n1 u1.1 (by omega) bT (by omega)
  rw [hn2] at h2
  have h1 := lgS_all (lgF q) n0 (by omega) (by omega) bF (by omega)
  rw [hn1] at h1
  refine ⟨by omega, by omega, by omega, fun x hx => ?_, fun x hx => ?_⟩
  · have := h1.2 _ (List.mem_map_of_mem (f := fun x : Fnv => (x.fn.code.length : Int)) hx)
    omega
  · have := h3.2 _ (List.mem_map_of_mem (f := fun x : Fmv => (x.fm.cons.length : Int)) hx)
    omega
end Go.Proofs.YtiphicejaljhiaaDoor
