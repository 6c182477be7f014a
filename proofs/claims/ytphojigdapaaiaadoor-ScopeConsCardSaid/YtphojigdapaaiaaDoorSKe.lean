/- The tree of the source that the law of constructors builds may be. -/
import Derived.Test.YtphojigdapaaiaaDoorSKd
namespace Go.Proofs.YtphojigdapaaiaaDoor
open Go.ChangeShapes Go.WideShapes Go.ChangeAt Go.RowKit
set_option linter.unusedVariables false
set_option linter.unusedSimpArgs false
theorem of38 (p : Int) : ofL ⟨38, [], [], 0, 0, 0, 0, p⟩ = (⟨116, 0, 0, 0, 0, 0, 0, 0⟩, true) := by kernel_rfl
theorem of35 (p : Int) : ofL ⟨35, [], [], 0, 0, 0, 0, p⟩ = (⟨116, 0, 0, 0, 0, 0, 0, 0⟩, true) := by kernel_rfl
theorem of43 (nm : List UInt8) (a b p : Int) : ofL ⟨43, nm, [], 0, a, b, 0, p⟩ = (⟨107, 84, 75, 0, 3, 0, 0, 0⟩, true) := by kernel_rfl
theorem of42 (nm : List UInt8) (a p : Int) : ofL ⟨42, nm, [], 0, a, 0, 0, p⟩ = (⟨0, 107, 0, 0, 1, 0, 0, 0⟩, true) := by kernel_rfl
theorem of1 (p : Int) : ofL ⟨1, [], [], 1, 0, 0, 0, p⟩ = (⟨101, 0, 0, 0, 0, 0, 0, 4611686018427387903⟩, true) := by kernel_rfl
theorem ch0 (t : Tre) (me : Nat) : childL t 0 0 me = true := rfl
theorem chN (t : Tre) {is : Int} (me : Nat) (h0 : is ≠ 0) (h : is < 97) : childL t is (-1) me = true := by
  unfold childL
  rw [if_neg h0, if_pos ⟨h, rfl⟩]
theorem chY {t : Tre} {is : Int} {me k : Nat} {x : Nod} (h0 : is ≠ 0) (hk : k < me) (hx : t.l[k]? = some x) (hi : (ofL x).1.is_ = if is < 97 then is + 32 else is) : childL t is (k : Int) me = true := by
  unfold childL
  rw [if_neg h0, if_neg (by omega), if_pos (by omega)]
  simp only [Int.toNat_natCast, hx]
  rw [hi, beq_self_eq_true]
theorem bm0 (a : Int) (me : Nat) (ps : List Int) : bumpL 0 a me ps = ps := rfl
theorem bmN {is : Int} (me : Nat) (ps : List Int) (h0 : is ≠ 0) (h : is < 97) : bumpL is (-1) me ps = ps := by
  unfold bumpL
  rw [if_neg h0, if_pos ⟨h, rfl⟩]
theorem bmY {is : Int} {me k : Nat} (ps : List Int) (h0 : is ≠ 0) (hk : k < me) : bumpL is (k : Int) me ps = ps.modify k bump := by
  unfold bumpL
  rw [if_neg h0, if_neg (by omega), if_pos (by omega), Int.toNat_natCast]
def P0 (ps : List Int) (i : Nat) : Int := ps.getD i 0
theorem P0_mod {ps : List Int} {a : Nat} (h : P0 ps a = 0) (ha : a < ps.length) (i : Nat) : P0 (ps.modify a bump) i = if i = a then 1 else P0 ps i := by
  unfold P0 at h ⊢
  rw [List.getD_eq_getElem?_getD, List.getD_eq_getElem?_getD, List.getElem?_modify]
  by_cases hi : a = i
  · subst hi
    rw [List.getD_eq_getElem?_getD, List.getElem?_eq_getElem ha] at h
    rw [if_pos rfl, List.getElem?_eq_getElem ha]
    rw [show ps[a] = 0 from h]
    simp [bump, wrap64]
  · rw [if_neg (fun e => hi e.symm)]
    simp [hi]
section
variable {t : Tre} {m h : Nat} {hb : Nat → Bool} {cn : Nat → Nat}
theorem ps_next {k : Nat} {x : Nod} (hx : t.l[k]? = some x) : psAll t (k + 1) = psK (ofL x).1 x k (psAll t k) 3 := by
  rw [psAll]
  simp only [hx]
theorem ps_leaf {k : Nat} {x : Nod} (hx : t.l[k]? = some x) (ha : (ofL x).1.a = 0) (hb : (ofL x).1.b = 0) (hc : (ofL x).1.c = 0) : psAll t (k + 1) = psAll t k := by
  rw [ps_next hx]
  show bumpL _ _ _ (bumpL _ _ _ (bumpL _ _ _ _)) = _
  rw [ha, hb, hc]
  rfl
theorem ps_con {k : Nat} {nm : List UInt8} {a b p : Int} (hx : t.l[k]? = some ⟨43, nm, [], 0, a, b, 0, p⟩) : psAll t (k + 1) = bumpL 75 b k (bumpL 84 a k (psAll t k)) := by
  rw [ps_next hx, of43]
  rfl
theorem ps_dat {k : Nat} {nm : List UInt8} {a p : Int} (hx : t.l[k]? = some ⟨42, nm, [], 0, a, 0, 0, p⟩) : psAll t (k + 1) = bumpL 107 a k (psAll t k) := by
  rw [ps_next hx, of42]
  rfl
theorem ps0 (i : Nat) : P0 (psAll t 0) i = 0 := by
  unfold P0
  rw [psAll, List.getD_eq_getElem?_getD, List.getElem?_replicate]
  split <;> rfl
theorem ps_s (T : Tr t m h hb cn) : ∀ k, k ≤ h → ∀ i, P0 (psAll t k) i = 0 := by
  intro k
  induction k with
  | zero => intro _ i; exact ps0 i
  | succ k ih =>
    intro hk i
    obtain ⟨p, hp⟩ := T.s k (by omega)
    rw [ps_leaf hp (by rw [of38]) (by rw [of38]) (by rw [of38])]
    exact ih (by omega) i
theorem ps_c (T : Tr t m h hb cn) : ∀ j, j ≤ m → ∀ i, P0 (psAll t (h + j)) i = if i < h then (if cn (m - j) ≤ i then 1 else 0) else if i + 1 < h + j then 1 else 0 := by
  intro j
  induction j with
  | zero =>
    intro _ i
    rw [Nat.add_zero, ps_s T h (Nat.le_refl _), Nat.sub_zero, T.cnm]
    by_cases h1 : i < h
    · rw [if_pos h1, if_neg (by omega)]
    · rw [if_neg h1, if_neg (by omega)]
  | succ j ih =>
    intro hj i
    obtain ⟨p, hp⟩ := T.c j (by omega)
    have ih := ih (by omega)
    have hS := T.cnS (m - 1 - j) (by omega)
    have hle := T.cnle (m - j)
    have hlen := T.len
    rw [show m - 1 - j + 1 = m - j by omega] at hS
    rw [show h + (j + 1) = h + j + 1 by omega, ps_con hp, show m - (j + 1) = m - 1 - j by omega]
    have hpl : (psAll t (h + j)).length = h + m + 6 := by rw [psAll_len, hlen]
    generalize psAll t (h + j) = ps at ih hpl ⊢
    have key : ∀ ps' : List Int, ps'.length = h + m + 6 → (∀ i, P0 ps' i = if i < h then (if cn (m - 1 - j) ≤ i then 1 else 0) else if i + 1 < h + j then 1 else 0) →
        P0 (bumpL 75 (if j = 0 then -1 else ((h + j : Nat) : Int) - 1) (h + j) ps') i = if i < h then (if cn (m - 1 - j) ≤ i then 1 else 0) else if i + 1 < h + j + 1 then 1 else 0 := by
      intro ps' hl' hP
      by_cases h0 : j = 0
      · rw [if_pos h0, bmN _ _ (by decide) (by decide), hP]
        by_cases h1 : i < h
        · rw [if_pos h1, if_pos h1]
        · rw [if_neg h1, if_neg h1, if_neg (by omega), if_neg (by omega)]
      · rw [if_neg h0, show ((h + j : Nat) : Int) - 1 = ((h + j - 1 : Nat) : Int) by omega, bmY _ (by decide) (by omega), P0_mod _ (by omega), hP]
        · by_cases h1 : i < h
          · rw [if_neg (by omega), if_pos h1, if_pos h1]
          · rw [if_neg h1, if_neg h1]
            by_cases h2 : i = h + j - 1
            · rw [if_pos h2, if_pos (by omega)]
            · rw [if_neg h2]
              by_cases h3 : i + 1 < h + j
              · rw [if_pos h3, if_pos (by omega)]
              · rw [if_neg h3, if_neg (by omega)]
        · rw [hP, if_neg (by omega), if_neg (by omega)]
    cases hbb : hb (m - 1 - j) with
    | false =>
      rw [hbb] at hS
      simp only [Bool.false_eq_true, if_false, Nat.add_zero] at hS ⊢
      rw [bmN _ _ (by decide) (by decide)]
      refine key ps hpl (fun i => ?_)
      rw [ih, hS]
    | true =>
      rw [hbb] at hS
      simp only [if_true] at hS ⊢
      rw [bmY _ (by decide) (by omega)]
      refine key _ (by rw [List.length_modify, hpl]) (fun i => ?_)
      rw [P0_mod _ (by omega), ih]
      · by_cases h1 : i < h
        · rw [if_pos h1, if_pos h1]
          by_cases h2 : i = cn (m - 1 - j)
          · rw [if_pos h2, if_pos (by omega)]
          · rw [if_neg h2]
            by_cases h3 : cn (m - j) ≤ i
            · rw [if_pos h3, if_pos (by omega)]
            · rw [if_neg h3, if_neg (by omega)]
        · rw [if_neg (by omega), if_neg h1, if_neg h1]
      · rw [ih, if_pos (by omega), if_neg (by omega)]
/-- One count more. -/
theorem P0_up {ps : List Int} {a b N : Nat} (hl : ps.length = N) (ha : a < N) (hP : ∀ i, P0 ps i = if i < a then 1 else 0) (i : Nat) : P0 (ps.modify a bump) i = if i < a + 1 then 1 else 0 := by
  rw [P0_mod (by rw [hP, if_neg (by omega)]) (by omega), hP]
  by_cases h1 : i = a
  · rw [if_pos h1, if_pos (by omega)]
  · rw [if_neg h1]
    by_cases h2 : i < a
    · rw [if_pos h2, if_pos (by omega)]
    · rw [if_neg h2, if_neg (by omega)]
theorem ps_end (T : Tr t m h hb cn) : ∀ v ∈ psEnd t, v = 1 := by
  have hlen := T.len
  have m1 := T.m1
  have hL : ∀ k, (psAll t k).length = h + m + 6 := fun k => by rw [psAll_len, hlen]
  have e0 := ps_c T m (Nat.le_refl _)
  obtain ⟨p1, q1⟩ := T.d1
  obtain ⟨p2, q2⟩ := T.i1
  obtain ⟨p3, q3⟩ := T.ca
  obtain ⟨p4, q4⟩ := T.dd
  obtain ⟨p5, q5⟩ := T.d2
  obtain ⟨p6, q6⟩ := T.o
  have e0' : ∀ i, P0 (psAll t (h + m)) i = if i < h + m - 1 then 1 else 0 := by
    intro i
    rw [e0, Nat.sub_self, T.cn0]
    by_cases h1 : i < h
    · rw [if_pos h1, if_pos (by omega), if_pos (by omega)]
    · rw [if_neg h1]
      by_cases h2 : i + 1 < h + m
      · rw [if_pos h2, if_pos (by omega)]
      · rw [if_neg h2, if_neg (by omega)]
  have e1 : ∀ i, P0 (psAll t (h + m + 1)) i = if i < h + m then 1 else 0 := by
    intro i
    rw [ps_dat q1, show ((h + m : Nat) : Int) - 1 = ((h + m - 1 : Nat) : Int) by omega, bmY _ (by decide) (by omega), P0_up (b := 0) (hL _) (by omega) e0', show h + m - 1 + 1 = h + m by omega]
  have e2 : psAll t (h + m + 1 + 1) = psAll t (h + m + 1) := ps_leaf q2 (by rw [of35]) (by rw [of35]) (by rw [of35])
  have hG : psEnd t = ((((((psAll t (h + m + 1)).modify (h + m + 1) bump).modify (h + m + 2) bump).modify (h + m + 3) bump).modify (h + m) bump).modify (h + m + 4) bump).modify (h + m + 5) bump := by
    unfold psEnd
    rw [T.y, T.r, hlen, show h + m + 6 = h + m + 5 + 1 from rfl, ps_leaf q6 (by rw [of1]) (by rw [of1]) (by rw [of1]), show h + m + 5 = h + m + 4 + 1 from rfl, ps_dat q5, show h + m + 4 = h + m + 3 + 1 from rfl, ps_con q4, show h + m + 3 = h + m + 2 + 1 from rfl, ps_con q3, show h + m + 2 = h + m + 1 + 1 from rfl, e2]
    rw [bmN _ (bumpL 84 _ _ _) (by decide) (by decide), bmY (k := h + m + 1) _ (by decide) (by omega), bmN _ _ (by decide) (by decide), bmY (k := h + m + 2) _ (by decide) (by omega), bmY (k := h + m + 3) _ (by decide) (by omega)]
    simp only [psY, List.foldl_cons, List.foldl_nil, Int.toNat_natCast]
  intro v hv
  obtain ⟨i, hi⟩ := List.mem_iff_getElem?.1 hv
  rw [hG] at hi
  have hi2 := (List.getElem?_eq_some_iff.1 hi).1
  simp only [List.length_modify, hL] at hi2
  have hv2 : P0 (((((((psAll t (h + m + 1)).modify (h + m + 1) bump).modify (h + m + 2) bump).modify (h + m + 3) bump).modify (h + m) bump).modify (h + m + 4) bump).modify (h + m + 5) bump) i = v := by
    unfold P0
    rw [List.getD_eq_getElem?_getD, hi]
    rfl
  rw [← hv2]
  have hL0 := hL (h + m + 1)
  clear hv2 hi hG hv e0 e0' e2
  generalize psAll t (h + m + 1) = ps at e1 hL0
  have a1 : ∀ i, P0 (ps.modify (h + m + 1) bump) i = if i = h + m + 1 then 1 else if i < h + m then 1 else 0 := fun i => by
    rw [P0_mod (by rw [e1, if_neg (by omega)]) (by omega), e1]
  have a2 : ∀ i, P0 ((ps.modify (h + m + 1) bump).modify (h + m + 2) bump) i = if i = h + m + 2 then 1 else if i = h + m + 1 then 1 else if i < h + m then 1 else 0 := fun i => by
    rw [P0_mod (by rw [a1, if_neg (by omega), if_neg (by omega)]) (by rw [List.length_modify]; omega), a1]
  have a3 : ∀ i, P0 (((ps.modify (h + m + 1) bump).modify (h + m + 2) bump).modify (h + m + 3) bump) i = if i = h + m + 3 then 1 else if i = h + m + 2 then 1 else if i = h + m + 1 then 1 else if i < h + m then 1 else 0 := fun i => by
    rw [P0_mod (by rw [a2, if_neg (by omega), if_neg (by omega), if_neg (by omega)]) (by simp only [List.length_modify]; omega), a2]
  generalize hq : ((ps.modify (h + m + 1) bump).modify (h + m + 2) bump).modify (h + m + 3) bump = qs at a3
  have hL1 : qs.length = h + m + 6 := by rw [← hq]; simp only [List.length_modify]; exact hL0
  clear hq a1 a2 e1
  have a4 : ∀ i, P0 (qs.modify (h + m) bump) i = if i < h + m + 4 then 1 else 0 := fun i => by
    rw [P0_mod (by rw [a3, if_neg (by omega), if_neg (by omega), if_neg (by omega), if_neg (by omega)]) (by omega), a3]
    by_cases h1 : i < h + m + 4
    · rw [if_pos h1]
      split
      · rfl
      · split
        · rfl
        · split
          · rfl
          · split
            · rfl
            · rw [if_pos (by omega)]
    · rw [if_neg h1, if_neg (by omega), if_neg (by omega), if_neg (by omega), if_neg (by omega), if_neg (by omega)]
  have a5 := P0_up (b := 0) (N := h + m + 6) (by rw [List.length_modify]; exact hL1) (by omega) a4
  have a6 := P0_up (b := 0) (N := h + m + 6) (by simp only [List.length_modify]; exact hL1) (by omega) a5
  rw [a6, if_pos (by omega)]
theorem tr_node (T : Tr t m h hb cn) {k : Nat} {x : Nod} (hx : t.l[k]? = some x) : (ofL x).2 = true ∧ childL t (ofL x).1.a x.a k = true ∧ childL t (ofL x).1.b x.b k = true ∧ childL t (ofL x).1.c x.c k = true := by
  have hk := (List.getElem?_eq_some_iff.1 hx).1
  have m1 := T.m1
  rcases T.cases hk with h1 | ⟨j, hj, rfl⟩ | rfl | rfl | rfl | rfl | rfl | rfl
  · obtain ⟨p, hp⟩ := T.s k h1
    obtain rfl := Option.some.inj (hx.symm.trans hp)
    rw [of38]
    exact ⟨rfl, ch0 _ _, ch0 _ _, ch0 _ _⟩
  · obtain ⟨p, hp⟩ := T.c j hj
    obtain rfl := Option.some.inj (hx.symm.trans hp)
    rw [of43]
    refine ⟨rfl, ?_, ?_, ch0 _ _⟩
    · show childL t 84 (if _ then _ else _) _ = true
      cases hbb : hb (m - 1 - j) with
      | false => simp only [Bool.false_eq_true, if_false]; exact chN _ _ (by decide) (by decide)
      | true =>
        have hS := T.cnS (m - 1 - j) (by omega)
        have hle := T.cnle (m - 1 - j + 1)
        rw [hbb] at hS
        simp only [if_true] at hS ⊢
        obtain ⟨q, hq⟩ := T.s (cn (m - 1 - j)) (by omega)
        exact chY (by decide) (by omega) hq (by rw [of38]; rfl)
    · show childL t 75 (if _ then _ else _) _ = true
      by_cases h0 : j = 0
      · rw [if_pos h0]; exact chN _ _ (by decide) (by decide)
      · rw [if_neg h0, show ((h + j : Nat) : Int) - 1 = ((h + (j - 1) : Nat) : Int) by omega]
        obtain ⟨q, hq⟩ := T.c (j - 1) (by omega)
        exact chY (by decide) (by omega) hq (by rw [of43]; rfl)
  · obtain ⟨p, hp⟩ := T.d1
    obtain rfl := Option.some.inj (hx.symm.trans hp)
    rw [of42]
    refine ⟨rfl, ?_, ch0 _ _, ch0 _ _⟩
    show childL t 107 (((h + m : Nat) : Int) - 1) _ = true
    rw [show ((h + m : Nat) : Int) - 1 = ((h + (m - 1) : Nat) : Int) by omega]
    obtain ⟨q, hq⟩ := T.c (m - 1) (by omega)
    exact chY (by decide) (by omega) hq (by rw [of43]; rfl)
  · obtain ⟨p, hp⟩ := T.i1
    obtain rfl := Option.some.inj (hx.symm.trans hp)
    rw [of35]
    exact ⟨rfl, ch0 _ _, ch0 _ _, ch0 _ _⟩
  · obtain ⟨p, hp⟩ := T.ca
    obtain rfl := Option.some.inj (hx.symm.trans hp)
    rw [of43]
    obtain ⟨q, hq⟩ := T.i1
    exact ⟨rfl, chY (by decide) (by omega) hq (by rw [of35]; rfl), chN _ _ (by decide) (by decide), ch0 _ _⟩
  · obtain ⟨p, hp⟩ := T.dd
    obtain rfl := Option.some.inj (hx.symm.trans hp)
    rw [of43]
    obtain ⟨q, hq⟩ := T.ca
    exact ⟨rfl, chN _ _ (by decide) (by decide), chY (by decide) (by omega) hq (by rw [of43]; rfl), ch0 _ _⟩
  · obtain ⟨p, hp⟩ := T.d2
    obtain rfl := Option.some.inj (hx.symm.trans hp)
    rw [of42]
    obtain ⟨q, hq⟩ := T.dd
    exact ⟨rfl, chY (by decide) (by omega) hq (by rw [of43]; rfl), ch0 _ _, ch0 _ _⟩
  · obtain ⟨p, hp⟩ := T.o
    obtain rfl := Option.some.inj (hx.symm.trans hp)
    rw [of1]
    exact ⟨rfl, ch0 _ _, ch0 _ _, ch0 _ _⟩
theorem tr_good (T : Tr t m h hb cn) : GoodN t := by
  have hlen := T.len
  have m1 := T.m1
  have m12 := T.m12
  have hm := T.hm
  refine ⟨by omega, by omega, by rw [T.r, hlen]; omega, fun i hi x hx => tr_node T hx, ?_, ps_end T, ?_⟩
  · intro i hi k hk
    rw [T.y] at hi hk
    obtain ⟨p1, q1⟩ := T.d1
    obtain ⟨p2, q2⟩ := T.d2
    rcases i with _ | _ | i
    · obtain rfl := Option.some.inj hk
      exact ⟨by show (-1 : Int) < _; omega, by omega, _, by rw [Int.toNat_natCast]; exact q1, rfl⟩
    · obtain rfl := Option.some.inj hk
      refine ⟨?_, by omega, _, by rw [Int.toNat_natCast]; exact q2, rfl⟩
      show t.y.getD 0 0 < _
      rw [T.y]
      show ((h + m : Nat) : Int) < _
      omega
    · simp only [List.length_cons, List.length_nil] at hi
      omega
  · intro x hx
    rw [show t.l.length - 1 = h + m + 5 by omega] at hx
    obtain ⟨p, hp⟩ := T.o
    obtain rfl := Option.some.inj (hx.symm.trans hp)
    rfl
theorem nm_is {i : Nat} (h : i < 12) : isL (nmB i) 2 = true := by
  rcases (by omega : i = 0 ∨ i = 1 ∨ i = 2 ∨ i = 3 ∨ i = 4 ∨ i = 5 ∨ i = 6 ∨ i = 7 ∨ i = 8 ∨ i = 9 ∨ i = 10 ∨ i = 11) with rfl | rfl | rfl | rfl | rfl | rfl | rfl | rfl | rfl | rfl | rfl | rfl <;> kernel_rfl
theorem sure43 {tab : Nat → OpRow} {nm : List UInt8} (a b p : Int) (h : isL nm 2 = true) : SureX tab ⟨43, nm, [], 0, a, b, 0, p⟩ (ofL ⟨43, nm, [], 0, a, b, 0, p⟩).1 := by
  rw [of43]
  refine ⟨Int.le_refl _, Int.le_refl _, ?_, rfl, rfl⟩
  show textL nm 3 = true
  unfold textL
  rw [if_neg (by decide), if_neg (by decide), if_pos rfl]
  exact h
theorem tr_sure (T : Tr t m h hb cn) (tab : Nat → OpRow) : AllX tab t := by
  intro x hy
  obtain ⟨k, hx⟩ := List.mem_iff_getElem?.1 hy
  have hk := (List.getElem?_eq_some_iff.1 hx).1
  have m12 := T.m12
  rcases T.cases hk with h1 | ⟨j, hj, rfl⟩ | rfl | rfl | rfl | rfl | rfl | rfl
  · obtain ⟨p, hp⟩ := T.s k h1
    obtain rfl := Option.some.inj (hx.symm.trans hp)
    rw [of38]
    exact ⟨Int.le_refl _, Int.le_refl _, rfl, rfl, rfl⟩
  · obtain ⟨p, hp⟩ := T.c j hj
    obtain rfl := Option.some.inj (hx.symm.trans hp)
    exact sure43 _ _ _ (nm_is (by omega))
  · obtain ⟨p, hp⟩ := T.d1
    obtain rfl := Option.some.inj (hx.symm.trans hp)
    rw [of42]
    exact ⟨Int.le_refl _, Int.le_refl _, by kernel_rfl, rfl, rfl⟩
  · obtain ⟨p, hp⟩ := T.i1
    obtain rfl := Option.some.inj (hx.symm.trans hp)
    rw [of35]
    exact ⟨Int.le_refl _, Int.le_refl _, rfl, rfl, rfl⟩
  · obtain ⟨p, hp⟩ := T.ca
    obtain rfl := Option.some.inj (hx.symm.trans hp)
    exact sure43 _ _ _ (by kernel_rfl)
  · obtain ⟨p, hp⟩ := T.dd
    obtain rfl := Option.some.inj (hx.symm.trans hp)
    exact sure43 _ _ _ (by kernel_rfl)
  · obtain ⟨p, hp⟩ := T.d2
    obtain rfl := Option.some.inj (hx.symm.trans hp)
    rw [of42]
    exact ⟨Int.le_refl _, Int.le_refl _, by kernel_rfl, rfl, rfl⟩
  · obtain ⟨p, hp⟩ := T.o
    obtain rfl := Option.some.inj (hx.symm.trans hp)
    rw [of1]
    exact ⟨by show (0 : Int) ≤ 1; decide, by show (1 : Int) ≤ 4611686018427387903; decide, rfl, rfl, rfl⟩
theorem tr_text (T : Tr t m h hb cn) : ∀ x ∈ t.l, x.t.length ≤ 3000 ∧ x.t2.length ≤ 3000 := by
  intro x hy
  obtain ⟨k, hx⟩ := List.mem_iff_getElem?.1 hy
  have hk := (List.getElem?_eq_some_iff.1 hx).1
  rcases T.cases hk with h1 | ⟨j, hj, rfl⟩ | rfl | rfl | rfl | rfl | rfl | rfl
  · obtain ⟨p, hp⟩ := T.s k h1
    obtain rfl := Option.some.inj (hx.symm.trans hp)
    exact ⟨by simp, by simp⟩
  · obtain ⟨p, hp⟩ := T.c j hj
    obtain rfl := Option.some.inj (hx.symm.trans hp)
    exact ⟨by simp [nmB], by simp⟩
  · obtain ⟨p, hp⟩ := T.d1
    obtain rfl := Option.some.inj (hx.symm.trans hp)
    exact ⟨by simp, by simp⟩
  · obtain ⟨p, hp⟩ := T.i1
    obtain rfl := Option.some.inj (hx.symm.trans hp)
    exact ⟨by simp, by simp⟩
  · obtain ⟨p, hp⟩ := T.ca
    obtain rfl := Option.some.inj (hx.symm.trans hp)
    exact ⟨by simp, by simp⟩
  · obtain ⟨p, hp⟩ := T.dd
    obtain rfl := Option.some.inj (hx.symm.trans hp)
    exact ⟨by simp, by simp⟩
  · obtain ⟨p, hp⟩ := T.d2
    obtain rfl := Option.some.inj (hx.symm.trans hp)
    exact ⟨by simp, by simp⟩
  · obtain ⟨p, hp⟩ := T.o
    obtain rfl := Option.some.inj (hx.symm.trans hp)
    exact ⟨by simp, by simp⟩
end
end Go.Proofs.YtphojigdapaaiaaDoor
