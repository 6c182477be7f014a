/- The plain law of states: what a function's states are, and what holds of them. No program in sight. -/
import Derived.Test.YtiphicejaljhiaaDoorPlain
namespace Go.Proofs.YtiphicejaljhiaaDoor
/-- How high the stack is, how many handlers wait. -/
abbrev Sta := Int × Int
/-- What comes next, with its state. -/
abbrev Nxt := Int × Sta
def unk : Sta := (-1, -1)
def vExit (o : Int) (s : Sta) : Bool := if o = 9 then decide (s = (1, 0)) else if o = 8 then decide (s = (2, 0)) else true
def vNames (q : Pr) (f : Fn) (i : Ins) : Bool :=
  if i.o = 2 ∨ i.o = 3 then decide (i.a < f.locals)
  else if i.o = 4 then decide (i.a < f.free)
  else if i.o = 1 then decide (i.a < q.strs.length)
  else if i.o = 10 ∨ i.o = 11 ∨ i.o = 33 then decide (i.a < f.code.length)
  else if i.o = 6 then decide (i.a < q.funcs.length) && decide (i.b = (q.funcs.getD i.a.toNat ⟨0, 0, []⟩).free)
  else if i.o = 36 then decide (i.a ≠ 3) || decide (i.b < q.forms.length)
  else true
def vBh (i : Ins) (s : Sta) : Sta := (s.1 - gTakes i.o i.a i.b + gLeaves i.o, s.2)
def vBh2 (i : Ins) (s : Sta) : Sta := if i.o = 33 then ((vBh i s).1, s.2 + 1) else if i.o = 34 then ((vBh i s).1, s.2 - 1) else vBh i s
def vOk (i : Ins) (s : Sta) : Bool := !(decide (s.1 < gTakes i.o i.a i.b) || !vExit i.o s)
def vNews (i : Ins) (at_ : Nat) (s : Sta) : List Nxt :=
  (if i.o = 33 then [(i.a, (s.1 + 1, s.2))] else if i.o = 10 ∨ i.o = 11 then [(i.a, vBh i s)] else []) ++ (if gEnds i.o then [] else [((at_ : Int) + 1, vBh2 i s)])
def vBad (n : Nat) (x : Nxt) : Bool := decide ((n : Int) ≤ x.1 ∨ 100 < x.2.1 ∨ 10 < x.2.2 ∨ x.2.2 < 0)
def vRun (code : List Ins) : Nat → List Sta → List Nxt → Option (List Sta)
  | _, L, [] => some L
  | 0, _, _ :: _ => none
  | n + 1, L, x :: D =>
    if vBad L.length x then none
    else if L.getD x.1.toNat unk = x.2 then vRun code n L D
    else if L.getD x.1.toNat unk ≠ unk then none
    else if vOk (code.getD x.1.toNat ⟨0, 0, 0⟩) x.2 then vRun code n (L.set x.1.toNat x.2) (D ++ vNews (code.getD x.1.toNat ⟨0, 0, 0⟩) x.1.toNat x.2)
    else none
def vMu (L : List Sta) (D : List Nxt) : Nat := D.length + 3 * L.count unk
def vStates (q : Pr) (f : Fn) : Option (List Sta) :=
  if f.code.all (vNames q f) then vRun f.code (3 * f.code.length + 1) (List.replicate f.code.length unk) [(0, (0, 0))] else none

theorem vNews_len (i : Ins) (a : Nat) (s : Sta) : (vNews i a s).length ≤ 2 := by
  unfold vNews
  rw [List.length_append]
  repeat' split
  all_goals simp
theorem set_count {L : List Sta} {k : Nat} {s : Sta} (hk : k < L.length) (hu : L.getD k unk = unk) (hs : s ≠ unk) : (L.set k s).count unk + 1 = L.count unk := by
  have hg : L[k] = unk := by rw [List.getD_eq_getElem?_getD, List.getElem?_eq_getElem hk] at hu; exact hu
  have hpos : 0 < L.count unk := List.count_pos_iff.2 (hg ▸ List.getElem_mem hk)
  rw [List.count_set hk, hg]
  have : (s == unk) = false := by simpa using hs
  rw [this]
  simp
  omega
theorem vBad_not {n : Nat} {x : Nxt} (h : vBad n x = false) : x.1 < n ∧ x.2.1 ≤ 100 ∧ x.2.2 ≤ 10 ∧ 0 ≤ x.2.2 := by
  have := of_decide_eq_false h
  omega
theorem ne_unk {s : Sta} (h : 0 ≤ s.2) : s ≠ unk := by
  intro e
  rw [e] at h
  exact absurd h (by decide)
/-- What holds of the run: the states that are known have been followed. -/
structure VInv (code : List Ins) (L : List Sta) (D : List Nxt) : Prop where
  len : L.length = code.length
  at0 : ∀ x ∈ D, 0 ≤ x.1 ∧ 0 ≤ x.2.1
  ok : ∀ k, k < L.length → L.getD k unk = unk ∨ (0 ≤ (L.getD k unk).1 ∧ (L.getD k unk).1 ≤ 100 ∧ 0 ≤ (L.getD k unk).2 ∧ (L.getD k unk).2 ≤ 10 ∧
    vOk (code.getD k ⟨0, 0, 0⟩) (L.getD k unk) = true ∧ ∀ x ∈ vNews (code.getD k ⟨0, 0, 0⟩) k (L.getD k unk), x ∈ D ∨ (x.1 < L.length ∧ x.2.1 ≤ 100 ∧ x.2.2 ≤ 10 ∧ 0 ≤ x.2.2 ∧ L.getD x.1.toNat unk = x.2))
theorem getD_set {L : List Sta} {k j : Nat} {s : Sta} : (L.set k s).getD j unk = if k = j ∧ k < L.length then s else L.getD j unk := by
  rw [List.getD_eq_getElem?_getD, List.getElem?_set, List.getD_eq_getElem?_getD]
  by_cases h : k = j
  · subst h
    by_cases h2 : k < L.length
    · simp [h2]
    · simp [h2]
  · simp [h]
theorem takes_nonneg {i : Ins} (h : insGood i = true) : 0 ≤ gTakes i.o i.a i.b ∧ gTakes i.o i.a i.b ≤ 30 := by
  unfold insGood gGood at h
  split at h
  · cases h
  · rename_i h1
    obtain ⟨k, hk⟩ : ∃ k : Nat, i.o = k := ⟨i.o.toNat, by omega⟩
    have hk38 : k < 38 := by omega
    rw [hk] at h ⊢
    have T : ∀ k : Nat, k < 38 → 0 ≤ (opRow k).tk ∧ (opRow k).tk ≤ 3 := by decide +kernel
    have U : ∀ k : Nat, k < 38 → 0 ≤ (opRow k).b0 ∧ (opRow k).b1 ≤ 39 := by decide +kernel
    have U6 : (opRow 6).b1 = 30 ∧ (opRow 19).b1 = 8 := by decide +kernel
    split at h
    · cases h
    · have h2 := of_decide_eq_true h
      rw [Int.toNat_natCast] at h2
      unfold gTakes
      have := T k hk38
      have hU := U k hk38
      split
      · rename_i h6
        rcases h6 with h6 | h6
        · obtain rfl : k = 6 := by omega
          omega
        · obtain rfl : k = 19 := by omega
          omega
      · split
        · repeat' split
          all_goals omega
        · rw [Int.toNat_natCast]; omega
theorem leaves_nonneg {i : Ins} (h : insGood i = true) : 0 ≤ gLeaves i.o ∧ gLeaves i.o ≤ 1 := by
  unfold insGood gGood at h
  split at h
  · cases h
  · rename_i h1
    obtain ⟨k, hk⟩ : ∃ k : Nat, i.o = k := ⟨i.o.toNat, by omega⟩
    have hk38 : k < 38 := by omega
    have T : ∀ k : Nat, k < 38 → 0 ≤ (opRow k).lv ∧ (opRow k).lv ≤ 1 := by decide +kernel
    rw [hk]
    unfold gLeaves
    rw [Int.toNat_natCast]
    exact T k hk38
theorem jump_a {i : Ins} (h : insGood i = true) (ho : i.o = 10 ∨ i.o = 11 ∨ i.o = 33) : 0 ≤ i.a := by
  unfold insGood gGood at h
  rw [if_neg (by omega), if_neg (by omega)] at h
  have h2 := of_decide_eq_true h
  rcases ho with ho | ho | ho <;> rw [ho] at h2
  · have e0 : (opRow ((10 : Int)).toNat).a0 = 0 := by decide +kernel
    omega
  · have e0 : (opRow ((11 : Int)).toNat).a0 = 0 := by decide +kernel
    omega
  · have e0 : (opRow ((33 : Int)).toNat).a0 = 0 := by decide +kernel
    omega
theorem vOk_le {i : Ins} {s : Sta} (h : vOk i s = true) : gTakes i.o i.a i.b ≤ s.1 := by
  unfold vOk at h
  simp at h
  exact h.1
theorem news_at0 {i : Ins} {k : Nat} {s : Sta} (hg : insGood i = true) (hs : 0 ≤ s.1) (hok : vOk i s = true) : ∀ x ∈ vNews i k s, 0 ≤ x.1 ∧ 0 ≤ x.2.1 := by
  have h1 := takes_nonneg hg
  have h2 := leaves_nonneg hg
  have h3 := vOk_le hok
  intro x hx
  unfold vNews at hx
  have hb : 0 ≤ (vBh i s).1 := by unfold vBh; show 0 ≤ s.1 - gTakes i.o i.a i.b + gLeaves i.o; omega
  rcases List.mem_append.1 hx with hx | hx
  · split at hx
    · rename_i ho
      obtain rfl := List.mem_singleton.1 hx
      have := jump_a hg (.inr (.inr ho))
      exact ⟨this, by show 0 ≤ s.1 + 1; omega⟩
    · split at hx
      · rename_i ho
        obtain rfl := List.mem_singleton.1 hx
        have := jump_a hg (by omega)
        exact ⟨this, hb⟩
      · cases hx
  · split at hx
    · cases hx
    · obtain rfl := List.mem_singleton.1 hx
      refine ⟨by show 0 ≤ (k : Int) + 1; omega, ?_⟩
      unfold vBh2
      repeat' split
      all_goals exact hb
/-- One step keeps it: the state is known. -/
theorem VInv.skip {code : List Ins} {L : List Sta} {x : Nxt} {D : List Nxt} (h : VInv code L (x :: D)) (hb : vBad L.length x = false) (he : L.getD x.1.toNat unk = x.2) : VInv code L D := by
  have hb' := vBad_not hb
  refine ⟨h.len, fun y hy => h.at0 y (List.mem_cons_of_mem _ hy), fun k hk => ?_⟩
  rcases h.ok k hk with h1 | ⟨h1, h2, h3, h4, h5, h6⟩
  · exact .inl h1
  · refine .inr ⟨h1, h2, h3, h4, h5, fun y hy => ?_⟩
    rcases h6 y hy with h7 | h7
    · rcases List.mem_cons.1 h7 with rfl | h7
      · exact .inr ⟨hb'.1, hb'.2.1, hb'.2.2.1, hb'.2.2.2, he⟩
      · exact .inl h7
    · exact .inr h7
theorem VInv.put {code : List Ins} {L : List Sta} {x : Nxt} {D : List Nxt} (h : VInv code L (x :: D)) (hg : ∀ i ∈ code, insGood i = true) (hb : vBad L.length x = false) (hu : L.getD x.1.toNat unk = unk) (hok : vOk (code.getD x.1.toNat ⟨0, 0, 0⟩) x.2 = true) :
    VInv code (L.set x.1.toNat x.2) (D ++ vNews (code.getD x.1.toNat ⟨0, 0, 0⟩) x.1.toNat x.2) := by
  have hb' := vBad_not hb
  have hx0 := h.at0 x (by simp)
  have hlt : x.1.toNat < L.length := by omega
  have hcg : insGood (code.getD x.1.toNat ⟨0, 0, 0⟩) = true := by
    have hc : x.1.toNat < code.length := by rw [← h.len]; exact hlt
    rw [List.getD_eq_getElem?_getD, List.getElem?_eq_getElem hc]
    exact hg _ (List.getElem_mem hc)
  refine ⟨by rw [List.length_set]; exact h.len, fun y hy => ?_, fun k hk => ?_⟩
  · rcases List.mem_append.1 hy with hy | hy
    · exact h.at0 y (List.mem_cons_of_mem _ hy)
    · exact news_at0 hcg hx0.2 hok y hy
  · rw [List.length_set] at hk ⊢
    simp only [getD_set]
    by_cases hkx : x.1.toNat = k
    · subst hkx
      rw [if_pos ⟨rfl, hlt⟩]
      exact .inr ⟨hx0.2, hb'.2.1, hb'.2.2.2, hb'.2.2.1, hok, fun y hy => .inl (List.mem_append_right _ hy)⟩
    · rw [if_neg (fun e => hkx e.1)]
      rcases h.ok k hk with h1 | ⟨h1, h2, h3, h4, h5, h6⟩
      · exact .inl h1
      · refine .inr ⟨h1, h2, h3, h4, h5, fun y hy => ?_⟩
        rcases h6 y hy with h7 | ⟨h7, h8, h9, h10, h11⟩
        · rcases List.mem_cons.1 h7 with rfl | h7
          · refine .inr ⟨hb'.1, hb'.2.1, hb'.2.2.1, hb'.2.2.2, ?_⟩
            rw [if_pos ⟨rfl, hlt⟩]
          · exact .inl (List.mem_append_left _ h7)
        · refine .inr ⟨h7, h8, h9, h10, ?_⟩
          by_cases hy2 : x.1.toNat = y.1.toNat
          · rw [← hy2, hu] at h11
            exact absurd h11.symm (ne_unk h10)
          · rw [if_neg (fun e => hy2 e.1)]
            exact h11
theorem vRun_inv {code : List Ins} (hg : ∀ i ∈ code, insGood i = true) : ∀ (n : Nat) (L : List Sta) (D : List Nxt) (R : List Sta), VInv code L D → vRun code n L D = some R →
    VInv code R [] ∧ ∀ k, L.getD k unk ≠ unk → R.getD k unk = L.getD k unk := by
  intro n
  induction n with
  | zero =>
    intro L D R h hr
    cases D with
    | nil =>
      simp only [vRun, Option.some.injEq] at hr
      subst hr
      exact ⟨h, fun k _ => rfl⟩
    | cons x D => simp [vRun] at hr
  | succ n ih =>
    intro L D R h hr
    cases D with
    | nil =>
      simp only [vRun, Option.some.injEq] at hr
      subst hr
      exact ⟨h, fun k _ => rfl⟩
    | cons x D =>
      rw [vRun] at hr
      split at hr
      · cases hr
      · rename_i hb
        have hb1 : vBad L.length x = false := by simpa using hb
        split at hr
        · rename_i he
          exact ih L D R (h.skip hb1 he) hr
        · split at hr
          · cases hr
          · rename_i hu
            have hu1 : L.getD x.1.toNat unk = unk := by simpa using hu
            split at hr
            · rename_i hok
              obtain ⟨h1, h2⟩ := ih _ _ R (h.put hg hb1 hu1 hok) hr
              refine ⟨h1, fun k hk => ?_⟩
              have h3 : (L.set x.1.toNat x.2).getD k unk = L.getD k unk := by
                rw [getD_set]
                by_cases hkx : x.1.toNat = k
                · subst hkx
                  exact absurd hu1 hk
                · rw [if_neg (fun e => hkx e.1)]
              rw [h2 k (by rw [h3]; exact hk), h3]
            · cases hr
theorem inv0 (code : List Ins) : VInv code (List.replicate code.length unk) [(0, (0, 0))] := by
  refine ⟨by simp, fun x hx => ?_, fun k hk => .inl ?_⟩
  · obtain rfl := List.mem_singleton.1 hx
    exact ⟨by decide, by decide⟩
  · rw [List.getD_eq_getElem?_getD, List.getElem?_replicate]
    split <;> rfl
/-- What is told of states. -/
theorem vStates_inv {q : Pr} {f : Fn} {R : List Sta} (hg : ∀ i ∈ f.code, insGood i = true) (h : vStates q f = some R) : VInv f.code R [] := by
  unfold vStates at h
  split at h
  · exact (vRun_inv hg _ _ _ R (inv0 _) h).1
  · cases h
theorem vStates_first {q : Pr} {f : Fn} {R : List Sta} (hg : ∀ i ∈ f.code, insGood i = true) (hl : 0 < f.code.length) (h : vStates q f = some R) : R.getD 0 unk = (0, 0) := by
  unfold vStates at h
  split at h
  · rw [vRun] at h
    have e0 : (List.replicate f.code.length unk).getD 0 unk = unk := by
      rw [List.getD_eq_getElem?_getD, List.getElem?_replicate]
      split <;> rfl
    have hb : vBad (List.replicate f.code.length unk).length ((0, (0, 0)) : Nxt) = false := by
      unfold vBad
      rw [List.length_replicate]
      exact decide_eq_false (by show ¬ ((f.code.length : Int) ≤ 0 ∨ (100 : Int) < 0 ∨ (10 : Int) < 0 ∨ (0 : Int) < 0); omega)
    rw [hb] at h
    have e1 : ((0, (0, 0)) : Nxt).1.toNat = 0 := rfl
    have e2 : ((0, (0, 0)) : Nxt).2 = (0, 0) := rfl
    rw [if_neg (by simp), e1, e2, e0, if_neg (by decide), if_neg (by simp)] at h
    split at h
    · rename_i hok
      have hi := (inv0 f.code).put hg hb e0 hok
      obtain ⟨_, h2⟩ := vRun_inv hg _ _ _ R hi h
      have h3 : ((List.replicate f.code.length unk).set 0 ((0, 0) : Sta)).getD 0 unk = (0, 0) := by
        rw [getD_set, if_pos ⟨rfl, by simpa using hl⟩]
      rw [h2 0 (by show ((List.replicate f.code.length unk).set 0 ((0, 0) : Sta)).getD 0 unk ≠ unk; rw [h3]; decide)]
      exact h3
    · cases h
  · cases h
end Go.Proofs.YtiphicejaljhiaaDoor
