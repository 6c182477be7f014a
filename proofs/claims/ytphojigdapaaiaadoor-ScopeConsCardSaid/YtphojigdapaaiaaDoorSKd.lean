/- The tree of the source that the law of constructors builds, node by node. -/
import Derived.Test.YtphojigdapaaiaaDoorSKc
namespace Go.Proofs.YtphojigdapaaiaaDoor
open Go.ChangeShapes Go.WideShapes Go.ChangeAt Go.RowKit
set_option linter.unusedVariables false
set_option linter.unusedSimpArgs false
def cnK (has : List Bool) (j : Nat) : Nat := (has.take j).count true
def hbK (has : List Bool) (j : Nat) : Bool := has.getD j false
/-- A tree of one datatype of m constructors, h of them with a string; of another one; of a 1. -/
structure Tr (t : Tre) (m h : Nat) (hb : Nat → Bool) (cn : Nat → Nat) : Prop where
  m1 : 1 ≤ m
  m12 : m ≤ 12
  hm : h ≤ m
  cn0 : cn 0 = 0
  cnS : ∀ j, j < m → cn (j + 1) = cn j + (if hb j then 1 else 0)
  cnm : cn m = h
  cnle : ∀ j, cn j ≤ h
  len : t.l.length = h + m + 6
  s : ∀ j, j < h → ∃ p, t.l[j]? = some ⟨38, [], [], 0, 0, 0, 0, p⟩
  c : ∀ j, j < m → ∃ p, t.l[h + j]? = some ⟨43, nmB (m - 1 - j), [], 0, if hb (m - 1 - j) then (cn (m - 1 - j) : Int) else -1, if j = 0 then -1 else ((h + j : Nat) : Int) - 1, 0, p⟩
  d1 : ∃ p, t.l[h + m]? = some ⟨42, [116], [], 0, ((h + m : Nat) : Int) - 1, 0, 0, p⟩
  i1 : ∃ p, t.l[h + m + 1]? = some ⟨35, [], [], 0, 0, 0, 0, p⟩
  ca : ∃ p, t.l[h + m + 2]? = some ⟨43, [67, 97], [], 0, ((h + m + 1 : Nat) : Int), -1, 0, p⟩
  dd : ∃ p, t.l[h + m + 3]? = some ⟨43, [68], [], 0, -1, ((h + m + 2 : Nat) : Int), 0, p⟩
  d2 : ∃ p, t.l[h + m + 4]? = some ⟨42, [117], [], 0, ((h + m + 3 : Nat) : Int), 0, 0, p⟩
  o : ∃ p, t.l[h + m + 5]? = some ⟨1, [], [], 1, 0, 0, 0, p⟩
  y : t.y = [((h + m : Nat) : Int), ((h + m + 4 : Nat) : Int)]
  r : t.r = ((h + m + 5 : Nat) : Int)
theorem strN_get : ∀ (its : List Bool) (i k j : Nat), j < (strN i k its).length → ∃ p, (strN i k its)[j]? = some ⟨38, [], [], 0, 0, 0, 0, p⟩ := by
  intro its
  induction its with
  | nil => intro i k j h; exact absurd h (Nat.not_lt_zero _)
  | cons b its ih =>
    intro i k j h
    rw [strN] at h ⊢
    cases b with
    | false => exact ih _ _ _ h
    | true =>
      cases j with
      | zero => exact ⟨_, rfl⟩
      | succ j => exact ih _ _ _ (by simpa using h)
theorem accN_get : ∀ (its : List Bool) (i k n j : Nat), j < its.length → ∃ p, (accN i k n its)[j]? = some ⟨43, nmB (i + j), [], 0, if hbK its j then ((n + cnK its j : Nat) : Int) else -1, 0, 0, p⟩ := by
  intro its
  induction its with
  | nil => intro i k n j h; exact absurd h (Nat.not_lt_zero _)
  | cons b its ih =>
    intro i k n j h
    rw [accN]
    cases j with
    | zero => exact ⟨_, rfl⟩
    | succ j =>
      obtain ⟨p, hp⟩ := ih (i + 1) (iEnd i b k) (if b then n + 1 else n) j (by simpa using h)
      refine ⟨p, ?_⟩
      rw [List.getElem?_cons_succ, hp]
      have e1 : hbK (b :: its) (j + 1) = hbK its j := rfl
      have e2 : (if b then n + 1 else n) + cnK its j = n + cnK (b :: its) (j + 1) := by
        unfold cnK
        rw [List.take_succ_cons, List.count_cons]
        cases b <;> simp <;> omega
      rw [e1, e2, show i + 1 + j = i + (j + 1) by omega]
theorem backN_get (f : Nod → Int → Nod) : ∀ (l : List Nod) (nx : Int) (k j : Nat), (backN f l nx k)[j]? = l[j]?.map fun x => f x (if j = 0 then nx else ((k + j : Nat) : Int) - 1) := by
  intro l
  induction l with
  | nil => intro nx k j; rfl
  | cons x l ih =>
    intro nx k j
    rw [backN]
    cases j with
    | zero => rfl
    | succ j =>
      rw [List.getElem?_cons_succ, List.getElem?_cons_succ, ih]
      congr 1
      funext y
      rw [if_neg (show ¬ j + 1 = 0 by omega)]
      by_cases h0 : j = 0
      · rw [if_pos h0]; subst h0; congr 1; omega
      · rw [if_neg h0]; congr 1; omega
theorem backE_eq : ∀ (l : List Nod) (nx : Int) (k : Nat), l ≠ [] → backE l nx k = ((k + l.length : Nat) : Int) - 1 := by
  intro l
  induction l with
  | nil => intro nx k h; exact absurd rfl h
  | cons x l ih =>
    intro nx k _
    rw [backE]
    cases l with
    | nil => show (k : Int) = _; simp only [List.length_cons, List.length_nil]; omega
    | cons y l =>
      rw [ih _ _ (by simp)]
      simp only [List.length_cons]
      omega
theorem dat_lo {nm : List UInt8} {p : Int} {N acc : List Nod} {j : Nat} (h : j < N.length) : (dat nm p N acc)[j]? = N[j]? := by
  unfold dat
  rw [List.append_assoc, List.getElem?_append_left h]
theorem dat_mid {nm : List UInt8} {p : Int} {N acc : List Nod} {j : Nat} (h : j < acc.length) : (dat nm p N acc)[N.length + j]? = acc[acc.length - 1 - j]?.map fun x => setB x (if j = 0 then -1 else ((N.length + j : Nat) : Int) - 1) := by
  unfold dat
  rw [List.append_assoc, List.getElem?_append_right (Nat.le_add_right _ _), Nat.add_sub_cancel_left, List.getElem?_append_left (by rw [backN_len, List.length_reverse]; exact h), backN_get, List.getElem?_reverse h]
theorem dat_last {nm : List UInt8} {p : Int} {N acc : List Nod} (h : acc ≠ []) : (dat nm p N acc)[N.length + acc.length]? = some ⟨42, nm, [], 0, ((N.length + acc.length : Nat) : Int) - 1, 0, 0, p⟩ := by
  unfold dat
  rw [List.getElem?_append_right (by rw [List.length_append, backN_len, List.length_reverse]; exact Nat.le_refl _), List.length_append, backN_len, List.length_reverse, Nat.sub_self, backE_eq _ _ _ (by simpa using h), List.length_reverse]
  rfl
theorem tree_tr (has : List Bool) (h1 : 1 ≤ has.length) (h2 : has.length ≤ 12) : Tr (treeOf has) has.length (has.count true) (hbK has) (cnK has) := by
  have hl1 := n1_len has
  have hl2 := n2_len has
  have hS : (strN 0 8 has).length = has.count true := strN_len has 0 8
  have hA : (accN 0 8 0 has).length = has.length := accN_len has 0 8 0
  have lo1 : ∀ j, j < (n2 has).length → (treeOf has).l[j]? = (n2 has)[j]? := fun j h => List.getElem?_append_left h
  have hp1 : (n1 has ++ [(⟨35, [], [], 0, 0, 0, 0, ((lEnd 0 8 has + 22 : Nat) : Int)⟩ : Nod)]).length = has.count true + has.length + 2 := by rw [List.length_append, hl1]; rfl
  have lo2 : ∀ j, j < (n1 has).length → (treeOf has).l[j]? = (n1 has)[j]? := fun j h => by
    rw [lo1 j (by omega)]
    unfold n2
    rw [dat_lo (by omega), List.getElem?_append_left h]
  have hne : accN 0 8 0 has ≠ [] := fun e => by rw [e] at hA; simp at hA; omega
  refine ⟨h1, h2, List.count_le_length, rfl, ?_, ?_, ?_, ?_, ?_, ?_, ?_, ?_, ?_, ?_, ?_, ?_, ?_, ?_⟩
  · intro j hj
    unfold cnK hbK
    rw [List.take_add_one, List.getD_eq_getElem?_getD, List.getElem?_eq_getElem hj, List.count_append]
    cases has[j] <;> simp
  · unfold cnK
    rw [List.take_length]
  · intro j
    unfold cnK
    exact List.Sublist.count_le _ (List.take_sublist _ _)
  · show (n2 has ++ _).length = _
    rw [List.length_append, hl2]
    rfl
  · intro j hj
    rw [lo2 j (by omega)]
    unfold n1
    rw [dat_lo (by omega)]
    exact strN_get _ _ _ _ (by omega)
  · intro j hj
    rw [lo2 _ (by omega)]
    obtain ⟨p, hp⟩ := accN_get has 0 8 0 (has.length - 1 - j) (by omega)
    refine ⟨p, ?_⟩
    have h := dat_mid (nm := [116]) (p := 0) (N := strN 0 8 has) (acc := accN 0 8 0 has) (j := j) (by omega)
    rw [hS, hA, hp] at h
    unfold n1
    rw [h, Nat.zero_add, Nat.zero_add]
    rfl
  · have h := dat_last (nm := [116]) (p := 0) (N := strN 0 8 has) (acc := accN 0 8 0 has) hne
    rw [hS, hA] at h
    rw [lo2 _ (by omega)]
    exact ⟨_, h⟩
  · rw [lo1 _ (by omega)]
    unfold n2
    rw [dat_lo (by omega), List.getElem?_append_right (by omega), hl1, Nat.sub_self]
    exact ⟨_, rfl⟩
  · rw [lo1 _ (by omega)]
    have h := dat_mid (nm := [117]) (p := ((lEnd 0 8 has + 3 : Nat) : Int)) (N := n1 has ++ [⟨35, [], [], 0, 0, 0, 0, ((lEnd 0 8 has + 22 : Nat) : Int)⟩]) (acc := acc2 (lEnd 0 8 has) (n1 has).length) (j := 0) (by show 0 < 2; omega)
    rw [hp1] at h
    refine ⟨((lEnd 0 8 has + 16 : Nat) : Int), h.trans ?_⟩
    rw [hl1]
    rfl
  · rw [lo1 _ (by omega)]
    have h := dat_mid (nm := [117]) (p := ((lEnd 0 8 has + 3 : Nat) : Int)) (N := n1 has ++ [⟨35, [], [], 0, 0, 0, 0, ((lEnd 0 8 has + 22 : Nat) : Int)⟩]) (acc := acc2 (lEnd 0 8 has) (n1 has).length) (j := 1) (by show 1 < 2; omega)
    rw [hp1] at h
    refine ⟨((lEnd 0 8 has + 12 : Nat) : Int), h.trans ?_⟩
    rw [if_neg (by decide), show (((has.count true + has.length + 2 + 1 : Nat) : Int) - 1) = ((has.count true + has.length + 2 : Nat) : Int) by omega]
    rfl
  · rw [lo1 _ (by omega)]
    have h := dat_last (nm := [117]) (p := ((lEnd 0 8 has + 3 : Nat) : Int)) (N := n1 has ++ [⟨35, [], [], 0, 0, 0, 0, ((lEnd 0 8 has + 22 : Nat) : Int)⟩]) (acc := acc2 (lEnd 0 8 has) (n1 has).length) (by simp [acc2])
    rw [hp1, show (acc2 (lEnd 0 8 has) (n1 has).length).length = 2 from rfl, show (((has.count true + has.length + 2 + 2 : Nat) : Int) - 1) = ((has.count true + has.length + 3 : Nat) : Int) by omega] at h
    exact ⟨_, h⟩
  · show ∃ p, (n2 has ++ _)[_]? = _
    rw [List.getElem?_append_right (by omega), hl2, Nat.sub_self]
    exact ⟨_, rfl⟩
  · show [((n1 has).length : Int) - 1, ((n2 has).length : Int) - 1] = _
    rw [hl1, hl2]
    congr 1
    · omega
    · congr 1
      omega
  · show ((n2 has).length : Int) = _
    rw [hl2]
theorem Tr.cases {t : Tre} {m h : Nat} {hb : Nat → Bool} {cn : Nat → Nat} (T : Tr t m h hb cn) {k : Nat} (hk : k < t.l.length) :
    k < h ∨ (∃ j, j < m ∧ k = h + j) ∨ k = h + m ∨ k = h + m + 1 ∨ k = h + m + 2 ∨ k = h + m + 3 ∨ k = h + m + 4 ∨ k = h + m + 5 := by
  have := T.len
  by_cases h1 : k < h
  · exact .inl h1
  by_cases h2 : k < h + m
  · exact .inr (.inl ⟨k - h, by omega, by omega⟩)
  omega
end Go.Proofs.YtphojigdapaaiaaDoor
