/- The document's Good: may a type be. -/
import Derived.Test.YtcilodgpbdafeaaDoorTKids
namespace Go.Proofs.YtcilodgpbdafeaaDoor
open Go.ChangeShapes Go.WideShapes Go.ChangeAt Go.RowKit
set_option linter.unusedVariables false
set_option linter.unusedSimpArgs false
/-- Where all beneath a part begins, told as the document does. -/
def rbeg (p : Part) (F : List Nat) : Option Nat :=
  if kids p.k < 0 then none
  else if (decide (p.t ≠ [])) ≠ (decide (p.k = 10)) then none
  else if p.n < 0 then none
  else if p.n ≠ 0 ∧ p.k ≠ 11 then none
  else if kids p.k = 2 then
    (if p.b ≠ (F.length : Int) - 1 then none else if F.length < 1 then none else if p.a ≠ (F.getD (F.length - 1) 0 : Int) - 1 then none else if p.a < 0 then none else F[p.a.toNat]?)
  else if kids p.k = 1 then
    (if p.a ≠ (F.length : Int) - 1 then none else if F.length < 1 then none else if p.b ≠ 0 then none else F[p.a.toNat]?)
  else if p.a ≠ 0 then none else if p.b ≠ 0 then none else some F.length
theorem kids_cases (k : Int) : ((1 ≤ k ∧ k ≤ 5) ∨ k = 10 ∨ k = 11) ∧ kids k = 0 ∨ (k = 7 ∨ k = 9) ∧ kids k = 1 ∨ (k = 6 ∨ k = 8) ∧ kids k = 2 ∨ (¬ (1 ≤ k ∧ k ≤ 5) ∧ k ≠ 10 ∧ k ≠ 11 ∧ k ≠ 7 ∧ k ≠ 9 ∧ k ≠ 6 ∧ k ≠ 8) ∧ kids k = -1 := by
  unfold kids
  by_cases h0 : (1 ≤ k ∧ k ≤ 5) ∨ k = 10 ∨ k = 11
  · rw [if_pos h0]; exact .inl ⟨h0, rfl⟩
  · rw [if_neg h0]
    by_cases h1 : k = 7 ∨ k = 9
    · rw [if_pos h1]; exact .inr (.inl ⟨h1, rfl⟩)
    · rw [if_neg h1]
      by_cases h2 : k = 6 ∨ k = 8
      · rw [if_pos h2]; exact .inr (.inr (.inl ⟨h2, rfl⟩))
      · rw [if_neg h2]; exact .inr (.inr (.inr ⟨by omega, rfl⟩))
theorem part_eq (p : Part) (a b n : Int) (t : List UInt8) : p = ⟨p.k, a, b, n, t⟩ ↔ p.a = a ∧ p.b = b ∧ p.n = n ∧ p.t = t := by
  obtain ⟨k, x, y, z, s⟩ := p
  simp
theorem rbeg_eq (p : Part) (F : List Nat) (hle : ∀ i b : Nat, F[i]? = some b → b ≤ i) : rbeg p F = beg p F := by
  obtain ⟨k, a, b, n, t⟩ := p
  rcases kids_cases k with ⟨h, hk⟩ | ⟨h, hk⟩ | ⟨h, hk⟩ | ⟨h, hk⟩
  · unfold rbeg beg
    simp only [hk]
    rcases h with h | rfl | rfl
    · rw [if_pos h]
      by_cases ht : t = []
      · subst ht
        by_cases hn : n = 0
        · subst hn
          by_cases ha : a = 0
          · subst ha
            by_cases hb : b = 0
            · subst hb
              simp [show ¬ k = 10 by omega]
            · simp [hb, show ¬ k = 10 by omega]
          · simp [ha, show ¬ k = 10 by omega]
        · simp [hn, show ¬ k = 10 by omega, show ¬ k = 11 by omega]
      · simp [ht, show ¬ k = 10 by omega]
    · by_cases ht : t = []
      · subst ht
        simp
      · by_cases hn : n = 0
        · subst hn
          by_cases ha : a = 0
          · subst ha
            by_cases hb : b = 0
            · subst hb
              simp [ht]
            · simp [ht, hb]
          · simp [ht, ha]
        · simp [ht, hn]
    · by_cases ht : t = []
      · subst ht
        by_cases hn : n < 0
        · simp [hn]
        · have h0 : 0 ≤ n := by omega
          by_cases ha : a = 0
          · subst ha
            by_cases hb : b = 0
            · subst hb
              simp [hn, h0]
            · simp [hn, hb]
          · simp [hn, ha]
      · simp [ht]
  · have hb : beg ⟨k, a, b, n, t⟩ F = if 1 ≤ F.length ∧ a = (F.length : Int) - 1 ∧ b = 0 ∧ n = 0 ∧ t = [] then F[F.length - 1]? else none := by
      rcases h with rfl | rfl <;> simp [beg]
    rw [hb]
    unfold rbeg
    simp only [hk]
    have n10 : ¬ k = 10 := by omega
    have n11 : ¬ k = 11 := by omega
    by_cases ht : t = []
    · subst ht
      by_cases hn : n = 0
      · subst hn
        by_cases hb : b = 0
        · subst hb
          by_cases hF : F.length < 1
          · simp [n10, n11, hF, show ¬ 1 ≤ F.length by omega]
          · by_cases ha : a = (F.length : Int) - 1
            · subst ha
              have e : ((F.length : Int) - 1).toNat = F.length - 1 := by omega
              simp [n10, n11, hF, e, show 1 ≤ F.length by omega]
            · simp [n10, n11, hF, ha]
        · simp [n10, n11, hb]
      · simp [n10, n11, hn]
    · simp [n10, n11, ht]
  · have hb : beg ⟨k, a, b, n, t⟩ F = if 2 ≤ F.length ∧ 1 ≤ F.getD (F.length - 1) 0 ∧ a = (F.getD (F.length - 1) 0 : Int) - 1 ∧ b = (F.length : Int) - 1 ∧ n = 0 ∧ t = [] then F[F.getD (F.length - 1) 0 - 1]? else none := by
      rcases h with rfl | rfl <;> simp [beg]
    rw [hb]
    unfold rbeg
    simp only [hk]
    have n10 : ¬ k = 10 := by omega
    have n11 : ¬ k = 11 := by omega
    generalize hz : F.getD (F.length - 1) 0 = z
    by_cases ht : t = []
    · subst ht
      by_cases hn : n = 0
      · subst hn
        by_cases hb : b = (F.length : Int) - 1
        · subst hb
          by_cases ha : a = (z : Int) - 1
          · subst ha
            by_cases hF : F.length < 1
            · simp [n10, n11, hF, show ¬ 2 ≤ F.length by omega]
            · by_cases h1 : 1 ≤ z
              · have e : ((z : Int) - 1).toNat = z - 1 := by omega
                by_cases h2 : 2 ≤ F.length
                · simp [n10, n11, hF, e, h1, h2, show ¬ (z : Int) - 1 < 0 by omega]
                · have e1 : F.length = 1 := by omega
                  rw [e1] at hz
                  have hg : F[0]? = some (F[0]'(by omega)) := List.getElem?_eq_getElem (by omega)
                  have := hle 0 _ hg
                  rw [List.getD_eq_getElem?_getD] at hz
                  simp only [Nat.sub_self, hg, Option.getD_some] at hz
                  omega
              · simp [n10, n11, hF, h1, show (z : Int) - 1 < 0 by omega]
          · simp [n10, n11, ha]
        · simp [n10, n11, hb]
      · simp [n10, n11, hn]
    · simp [n10, n11, ht]
  · have hb : beg ⟨k, a, b, n, t⟩ F = none := by
      obtain ⟨x1, x2, x3, x4, x5, x6, x7⟩ := h
      unfold beg
      rw [if_neg x1, if_neg x2, if_neg x3, if_neg (by simp only; omega), if_neg (by simp only; omega)]
    rw [hb]
    unfold rbeg
    simp [hk]
end Go.Proofs.YtcilodgpbdafeaaDoor
