/- The tree of the source that the law of constructors builds: its constructors, its fault. -/
import Derived.Test.YtphojigdapaaiaaDoorSKe
namespace Go.Proofs.YtphojigdapaaiaaDoor
open Go.ChangeShapes Go.WideShapes Go.ChangeAt Go.RowKit
set_option linter.unusedVariables false
set_option linter.unusedSimpArgs false
theorem nm_inj {i j : Nat} (hi : i < 12) (hj : j < 12) (h : nmB i = nmB j) : i = j := by
  unfold nmB chB at h
  have h1 := congrArg UInt8.toNat (List.cons.inj (List.cons.inj h).2).1
  rw [UInt8.toNat_ofNat', UInt8.toNat_ofNat'] at h1
  omega
theorem nm_ne (i : Nat) : nmB i ≠ [68] := by
  intro h
  exact absurd (List.cons.inj h).1 (by decide)
section
variable {t : Tre} {m h : Nat} {hb : Nat → Bool} {cn : Nat → Nat}
theorem step_put {ty : KS} {i : Int} {x : Nod} {M : CM} (h : M x.t = none) : conStep ty i x M = put M x.t ⟨ty, i, decide (0 ≤ x.a)⟩ := by
  unfold conStep
  rw [h]
  rfl
theorem step_keep {ty : KS} {i : Int} {x : Nod} {M : CM} (h : (M x.t).isSome = true) : conStep ty i x M = M := by
  unfold conStep
  rw [h]
  rfl
theorem chain_c (T : Tr t m h hb cn) (ty : KS) : ∀ (j n : Nat) (M : CM), j < m → j < n → (∀ i, m - 1 - j ≤ i → i < m → M (nmB i) = none) →
    (∀ i, m - 1 - j ≤ i → i < m → conChain t ty n ((h + j : Nat) : Int) ((m - 1 - j : Nat) : Int) M (nmB i) = some ⟨ty, (i : Int), hb i⟩) ∧
    (∀ s, (∀ i, m - 1 - j ≤ i → i < m → s ≠ nmB i) → conChain t ty n ((h + j : Nat) : Int) ((m - 1 - j : Nat) : Int) M s = M s) := by
  intro j
  induction j with
  | zero =>
    intro n M hj hn hM
    obtain ⟨n, rfl⟩ : ∃ q, n = q + 1 := ⟨n - 1, by omega⟩
    have m12 := T.m12
    obtain ⟨p, hp⟩ := T.c 0 hj
    have hN := hM (m - 1 - 0) (Nat.le_refl _) (by omega)
    have hd : decide (0 ≤ (if hb (m - 1 - 0) then (cn (m - 1 - 0) : Int) else -1)) = hb (m - 1 - 0) := by
      cases hb (m - 1 - 0) with
      | true => simp
      | false => rfl
    rw [conChain, if_neg (by omega), Int.toNat_natCast, nd_of hp, step_put hN, hd, if_pos rfl]
    have e : ∀ M' : CM, ∀ i : Int, conChain t ty n (-1) i M' = M' := fun M' i => by
      cases n with
      | zero => rfl
      | succ n => rw [conChain, if_pos (by decide)]
    rw [e]
    refine ⟨fun i h1 h2 => ?_, fun s hs => ?_⟩
    · obtain rfl : i = m - 1 - 0 := by omega
      show (if _ then _ else _) = _
      rw [if_pos rfl]
    · show (if _ then _ else _) = _
      rw [if_neg (hs _ (Nat.le_refl _) (by omega))]
  | succ j ih =>
    intro n M hj hn hM
    obtain ⟨n, rfl⟩ : ∃ q, n = q + 1 := ⟨n - 1, by omega⟩
    have m12 := T.m12
    obtain ⟨p, hp⟩ := T.c (j + 1) hj
    have hN := hM (m - 1 - (j + 1)) (Nat.le_refl _) (by omega)
    have hd : decide (0 ≤ (if hb (m - 1 - (j + 1)) then (cn (m - 1 - (j + 1)) : Int) else -1)) = hb (m - 1 - (j + 1)) := by
      cases hb (m - 1 - (j + 1)) with
      | true => simp
      | false => rfl
    rw [conChain, if_neg (by omega), Int.toNat_natCast, nd_of hp, step_put hN]
    simp only
    rw [hd, if_neg (show ¬ j + 1 = 0 by omega)]
    have e1 : ((h + (j + 1) : Nat) : Int) - 1 = ((h + j : Nat) : Int) := by omega
    have e2 : ((m - 1 - (j + 1) : Nat) : Int) + 1 = ((m - 1 - j : Nat) : Int) := by omega
    rw [e1, e2]
    obtain ⟨a1, a2⟩ := ih n (put M (nmB (m - 1 - (j + 1))) ⟨ty, ((m - 1 - (j + 1) : Nat) : Int), hb (m - 1 - (j + 1))⟩) (by omega) (by omega) (fun i h1 h2 => by
      show (if _ then _ else _) = _
      rw [if_neg (fun e => by have := nm_inj (i := i) (j := m - 1 - (j + 1)) (by omega) (by omega) e; omega)]
      exact hM i (by omega) h2)
    refine ⟨fun i h1 h2 => ?_, fun s hs => ?_⟩
    · by_cases h3 : i = m - 1 - (j + 1)
      · subst h3
        rw [a2 _ (fun i h4 h5 e => by have := nm_inj (i := m - 1 - (j + 1)) (j := i) (by omega) (by omega) e; omega)]
        show (if _ then _ else _) = _
        rw [if_pos rfl]
      · exact a1 i (by omega) h2
    · rw [a2 s (fun i h4 h5 => hs i (by omega) h5)]
      show (if _ then _ else _) = _
      rw [if_neg (hs _ (Nat.le_refl _) (by omega))]
theorem tr_map (T : Tr t m h hb cn) : (∀ i, i < m → conMap t (nmB i) = some ⟨[116], (i : Int), hb i⟩) ∧ conMap t [68] = some ⟨[117], 0, false⟩ := by
  have m1 := T.m1
  have m12 := T.m12
  obtain ⟨p1, q1⟩ := T.d1
  obtain ⟨p3, q3⟩ := T.ca
  obtain ⟨p4, q4⟩ := T.dd
  obtain ⟨p5, q5⟩ := T.d2
  obtain ⟨a1, a2⟩ := chain_c T [116] (m - 1) 501 (fun _ => none) (by omega) (by omega) (fun _ _ _ => rfl)
  have e1 : ((h + m : Nat) : Int) - 1 = ((h + (m - 1) : Nat) : Int) := by omega
  have hC : conMap t = put (conChain t [116] 501 ((h + (m - 1) : Nat) : Int) ((m - 1 - (m - 1) : Nat) : Int) (fun _ => none)) [68] ⟨[117], 0, false⟩ := by
    unfold conMap
    rw [T.y]
    simp only [consL, Int.toNat_natCast, nd_of q1, nd_of q5, e1]
    rw [show (0 : Int) = ((m - 1 - (m - 1) : Nat) : Int) by omega]
    generalize conChain t [116] 501 ((h + (m - 1) : Nat) : Int) ((m - 1 - (m - 1) : Nat) : Int) (fun _ => none) = M at a1 a2 ⊢
    rw [Nat.sub_self]
    show conChain t [117] (499 + 1 + 1) ((h + m + 3 : Nat) : Int) 0 M = _
    rw [conChain, if_neg (by omega), Int.toNat_natCast, nd_of q4]
    rw [step_put (show M [68] = none from a2 _ (fun i _ _ e => nm_ne i e.symm))]
    simp only
    rw [conChain, if_neg (by omega), Int.toNat_natCast, nd_of q3]
    rw [step_keep (by
      show (if _ then _ else M [67, 97] : Option Con).isSome = true
      rw [if_neg (show ¬ ([67, 97] : List UInt8) = [68] by decide), show ([67, 97] : List UInt8) = nmB 0 from rfl, a1 0 (by omega) (by omega)]
      rfl)]
    simp only
    rw [conChain, if_pos (by decide)]
    rfl
  refine ⟨fun i hi => ?_, ?_⟩
  · rw [hC]
    show (if _ then _ else _) = _
    rw [if_neg (nm_ne i)]
    exact a1 i (by omega) hi
  · rw [hC]
    show (if _ then _ else _) = _
    rw [if_pos rfl]
/-! ### The fault -/
theorem met_len (t : Tre) : ∀ (n : Nat) (c : Int) (S : TS), (metChain t n c S).bad.length = S.bad.length := by
  intro n
  induction n with
  | zero => intro c S; rfl
  | succ n ih =>
    intro c S
    rw [metChain]
    split
    · rfl
    · rw [ih]; exact List.length_set
theorem met_mono (t : Tre) (s : KS) : ∀ (n : Nat) (c : Int) (S : TS), S.met s = true → (metChain t n c S).met s = true := by
  intro n
  induction n with
  | zero => intro c S h; exact h
  | succ n ih =>
    intro c S h
    rw [metChain]
    split
    · exact h
    · refine ih _ _ ?_
      show (if _ then true else S.met s) = true
      split
      · rfl
      · exact h
theorem nodes_keep (t : Tre) (M : CM) (N : KS → Bool) (b : List Bool) : ∀ k, (∀ i, i < k → (nd t i).k ≠ 39 ∧ (nd t i).k ≠ 6 ∧ (nd t i).k ≠ 34) → nodesB t M N k b = b := by
  intro k
  induction k with
  | zero => intro _; rfl
  | succ k ih =>
    intro hk
    rw [nodesB, ih (fun i hi => hk i (by omega))]
    obtain ⟨h1, h2, h3⟩ := hk k (by omega)
    unfold nodeB
    rw [if_neg h1, if_neg (by rintro (h | h); exact h2 h; exact h3 h)]
theorem kk {t : Tre} {i : Nat} {k n a b c p : Int} {u v : List UInt8} (hx : t.l[i]? = some ⟨k, u, v, n, a, b, c, p⟩) (h1 : k ≠ 39) (h2 : k ≠ 6) (h3 : k ≠ 34) : (nd t i).k ≠ 39 ∧ (nd t i).k ≠ 6 ∧ (nd t i).k ≠ 34 := by
  rw [nd_of hx]
  exact ⟨h1, h2, h3⟩
theorem tr_kinds (T : Tr t m h hb cn) {i : Nat} (hi : i < t.l.length) : (nd t i).k ≠ 39 ∧ (nd t i).k ≠ 6 ∧ (nd t i).k ≠ 34 := by
  rcases T.cases hi with h1 | ⟨j, hj, rfl⟩ | rfl | rfl | rfl | rfl | rfl | rfl
  · obtain ⟨p, hp⟩ := T.s i h1
    exact kk hp (by decide) (by decide) (by decide)
  · obtain ⟨p, hp⟩ := T.c j hj
    exact kk hp (by decide) (by decide) (by decide)
  · obtain ⟨p, hp⟩ := T.d1
    exact kk hp (by decide) (by decide) (by decide)
  · obtain ⟨p, hp⟩ := T.i1
    exact kk hp (by decide) (by decide) (by decide)
  · obtain ⟨p, hp⟩ := T.ca
    exact kk hp (by decide) (by decide) (by decide)
  · obtain ⟨p, hp⟩ := T.dd
    exact kk hp (by decide) (by decide) (by decide)
  · obtain ⟨p, hp⟩ := T.d2
    exact kk hp (by decide) (by decide) (by decide)
  · obtain ⟨p, hp⟩ := T.o
    exact kk hp (by decide) (by decide) (by decide)
theorem tr_fault (T : Tr t m h hb cn) : (faultF t).1 = 13 := by
  have m1 := T.m1
  have hlen := T.len
  obtain ⟨p0, q0⟩ := T.c (m - 1) (by omega)
  obtain ⟨p1, q1⟩ := T.d1
  obtain ⟨p3, q3⟩ := T.ca
  obtain ⟨p4, q4⟩ := T.dd
  obtain ⟨p5, q5⟩ := T.d2
  obtain ⟨p6, q6⟩ := T.o
  have hbad : (badF t)[h + m + 2]? = some true := by
    unfold badF
    rw [T.r, Int.toNat_natCast]
    have hx : ∀ B b, exprS t 501 (h + m + 5) B b = b := fun B b => by
      show exprS t (500 + 1) _ _ _ = _
      rw [exprS, nd_of q6]
      rfl
    rw [hx]
    unfold marksF
    rw [nodes_keep _ _ _ _ _ (fun i hi => tr_kinds T hi), T.y]
    simp only [typesL, Int.toNat_natCast, nd_of q1, nd_of q5]
    generalize hS : (tyStep (h + m) ⟨42, [116], [], 0, ((h + m : Nat) : Int) - 1, 0, 0, p1⟩ ⟨List.replicate t.l.length false, fun _ => false, fun _ => false⟩) = S
    have hSl : S.bad.length = t.l.length := by
      rw [← hS]
      show (List.set _ _ _).length = _
      rw [List.length_set, List.length_replicate]
    have hm1 : (metChain t 501 (((h + m : Nat) : Int) - 1) S).met [67, 97] = true := by
      rw [show ((h + m : Nat) : Int) - 1 = ((h + (m - 1) : Nat) : Int) by omega]
      show (metChain t (500 + 1) _ _).met _ = true
      rw [metChain, if_neg (by omega), Int.toNat_natCast, nd_of q0]
      refine met_mono _ _ _ _ _ ?_
      show (if _ then true else _) = true
      rw [if_pos (by rw [Nat.sub_self]; rfl)]
    have hml := met_len t 501 (((h + m : Nat) : Int) - 1) S
    generalize metChain t 501 (((h + m : Nat) : Int) - 1) S = S1 at hm1 hml
    generalize hS2 : tyStep (h + m + 4) ⟨42, [117], [], 0, ((h + m + 3 : Nat) : Int), 0, 0, p5⟩ S1 = S2
    have hm2 : S2.met [67, 97] = true := by rw [← hS2]; exact hm1
    have hl2 : S2.bad.length = t.l.length := by
      rw [← hS2]
      show (List.set _ _ _).length = _
      rw [List.length_set, hml, hSl]
    show (metChain t (499 + 1 + 1) ((h + m + 3 : Nat) : Int) S2).bad[h + m + 2]? = _
    rw [metChain, if_neg (by omega), Int.toNat_natCast, nd_of q4]
    simp only
    rw [metChain, if_neg (by omega), Int.toNat_natCast, nd_of q3]
    simp only
    rw [metChain, if_pos (by decide)]
    have hi : ins S2.met [68] [67, 97] = true := by
      unfold ins
      rw [if_neg (by decide)]
      exact hm2
    show (List.set (List.set S2.bad _ _) (h + m + 2) (ins S2.met [68] [67, 97]))[h + m + 2]? = _
    rw [List.getElem?_set_self (by rw [List.length_set]; omega), hi]
  unfold faultF
  cases hf : (badF t).findIdx? id with
  | some k => rfl
  | none =>
    rw [List.findIdx?_eq_none_iff] at hf
    have := hf true (List.mem_of_getElem? hbad)
    exact absurd this (by decide)
end
end Go.Proofs.YtphojigdapaaiaaDoor
