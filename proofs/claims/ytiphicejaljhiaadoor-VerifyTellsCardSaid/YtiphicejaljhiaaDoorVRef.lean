/- The document's states, by a stack of what is still to be followed: they are the program's. No program in sight. -/
import Derived.Test.YtiphicejaljhiaaDoorVPlain
namespace Go.Proofs.YtiphicejaljhiaaDoor
/-- The states told are closed under what comes next. -/
structure VCl (code : List Ins) (R : List Sta) : Prop where
  len : R.length = code.length
  at0 : R.getD 0 unk = (0, 0)
  ok : ∀ k, k < R.length → R.getD k unk = unk ∨ (0 ≤ (R.getD k unk).1 ∧ (R.getD k unk).1 ≤ 100 ∧ 0 ≤ (R.getD k unk).2 ∧ (R.getD k unk).2 ≤ 10 ∧
    vOk (code.getD k ⟨0, 0, 0⟩) (R.getD k unk) = true ∧ ∀ x ∈ vNews (code.getD k ⟨0, 0, 0⟩) k (R.getD k unk), x.1 < R.length ∧ x.2.1 ≤ 100 ∧ x.2.2 ≤ 10 ∧ 0 ≤ x.2.2 ∧ R.getD x.1.toNat unk = x.2)
theorem VCl.of_inv {code : List Ins} {R : List Sta} (h : VInv code R []) (h0 : R.getD 0 unk = (0, 0)) : VCl code R := by
  refine ⟨h.len, h0, fun k hk => ?_⟩
  rcases h.ok k hk with h1 | ⟨h1, h2, h3, h4, h5, h6⟩
  · exact .inl h1
  · refine .inr ⟨h1, h2, h3, h4, h5, fun x hx => ?_⟩
    rcases h6 x hx with h7 | h7
    · cases h7
    · exact h7
theorem sub_eq {R R' : List Sta} (hl : R.length = R'.length) (h1 : ∀ k, R.getD k unk ≠ unk → R.getD k unk = R'.getD k unk) (h2 : ∀ k, R'.getD k unk ≠ unk → R'.getD k unk = R.getD k unk) : R = R' := by
  refine List.ext_getElem hl fun k hk hk' => ?_
  have e : R.getD k unk = R'.getD k unk := by
    by_cases h : R.getD k unk = unk
    · by_cases h' : R'.getD k unk = unk
      · rw [h, h']
      · exact (h2 k h').symm
    · exact h1 k h
  rw [List.getD_eq_getElem?_getD, List.getD_eq_getElem?_getD, List.getElem?_eq_getElem hk, List.getElem?_eq_getElem hk'] at e
  exact e
theorem code_good {code : List Ins} (hg : ∀ i ∈ code, insGood i = true) {k : Nat} (hk : k < code.length) : insGood (code.getD k ⟨0, 0, 0⟩) = true := by
  rw [List.getD_eq_getElem?_getD, List.getElem?_eq_getElem hk]
  exact hg _ (List.getElem_mem hk)
/-- WHERE CLOSED STATES ARE, the run ends, and tells no others. -/
theorem vRun_of {code : List Ins} (hg : ∀ i ∈ code, insGood i = true) {S : List Sta} (hS : VCl code S) : ∀ (n : Nat) (L : List Sta) (D : List Nxt), VInv code L D → (∀ k, L.getD k unk ≠ unk → L.getD k unk = S.getD k unk) →
    (∀ x ∈ D, x.1 < S.length ∧ x.2.1 ≤ 100 ∧ x.2.2 ≤ 10 ∧ 0 ≤ x.2.2 ∧ S.getD x.1.toNat unk = x.2) → vMu L D ≤ n → ∃ R, vRun code n L D = some R ∧ ∀ k, R.getD k unk ≠ unk → R.getD k unk = S.getD k unk := by
  intro n
  induction n with
  | zero =>
    intro L D _ hL _ hm
    cases D with
    | nil => exact ⟨L, rfl, hL⟩
    | cons x D => simp [vMu] at hm
  | succ n ih =>
    intro L D hi hL hD hm
    cases D with
    | nil => exact ⟨L, rfl, hL⟩
    | cons x D =>
      obtain ⟨h1, h2, h3, h4, h5⟩ := hD x (by simp)
      have h0 := hi.at0 x (by simp)
      have hln : L.length = S.length := by rw [hi.len, hS.len]
      have hb : vBad L.length x = false := by
        unfold vBad
        exact decide_eq_false (by omega)
      rw [vRun, hb, if_neg (by simp)]
      by_cases he : L.getD x.1.toNat unk = x.2
      · rw [if_pos he]
        refine ih L D (hi.skip hb he) hL (fun y hy => hD y (List.mem_cons_of_mem _ hy)) ?_
        unfold vMu at hm ⊢
        simp only [List.length_cons] at hm
        omega
      · rw [if_neg he]
        have hu : L.getD x.1.toNat unk = unk := by
          by_cases h : L.getD x.1.toNat unk = unk
          · exact h
          · exact absurd ((hL _ h).trans h5) he
        rw [if_neg (by simpa using hu)]
        have hne : x.2 ≠ unk := ne_unk h4
        have hxl : x.1.toNat < S.length := by omega
        rcases hS.ok _ hxl with h6 | ⟨h6, h7, h8, h9, h10, h11⟩
        · exact absurd (h5.symm.trans h6) hne
        · rw [h5] at h10 h11
          rw [if_pos h10]
          refine ih _ _ (hi.put hg hb hu h10) (fun k hk => ?_) (fun y hy => ?_) ?_
          · rw [getD_set] at hk ⊢
            by_cases hkx : x.1.toNat = k ∧ x.1.toNat < L.length
            · rw [if_pos hkx, ← hkx.1, h5]
            · rw [if_neg hkx] at hk ⊢
              exact hL k hk
          · rcases List.mem_append.1 hy with hy | hy
            · exact hD y (List.mem_cons_of_mem _ hy)
            · exact h11 y hy
          · have hc := set_count (L := L) (k := x.1.toNat) (by omega) hu hne
            have hnl := vNews_len (code.getD x.1.toNat ⟨0, 0, 0⟩) x.1.toNat x.2
            unfold vMu at hm ⊢
            simp only [List.length_cons] at hm
            rw [List.length_append]
            omega
theorem count_all (n : Nat) : (List.replicate n unk).count unk = n := by simp
theorem vStates_of {q : Pr} {f : Fn} {S : List Sta} (hg : ∀ i ∈ f.code, insGood i = true) (hl : 0 < f.code.length) (hn : f.code.all (vNames q f) = true) (hS : VCl f.code S) : ∃ R, vStates q f = some R ∧ ∀ k, R.getD k unk ≠ unk → R.getD k unk = S.getD k unk := by
  unfold vStates
  rw [if_pos hn]
  refine vRun_of hg hS _ _ _ (inv0 _) (fun k hk => ?_) (fun x hx => ?_) ?_
  · exfalso
    apply hk
    rw [List.getD_eq_getElem?_getD, List.getElem?_replicate]
    split <;> rfl
  · obtain rfl := List.mem_singleton.1 hx
    refine ⟨by show (0 : Int) < _; have := hS.len; omega, by decide, by decide, by decide, hS.at0⟩
  · unfold vMu
    rw [count_all]
    simp
    omega
theorem vStates_cl {q : Pr} {f : Fn} {R : List Sta} (hg : ∀ i ∈ f.code, insGood i = true) (hl : 0 < f.code.length) (h : vStates q f = some R) : VCl f.code R :=
  .of_inv (vStates_inv hg h) (vStates_first hg hl h)

/-! ### The document's -/
def rOk (i : Ins) (s : Sta) : Bool := !(decide (s.1 < gTakes i.o i.a i.b) || (decide (i.o = 9) && decide (s.1 ≠ 1 ∨ s.2 ≠ 0)) || (decide (i.o = 8) && decide (s.1 ≠ 2 ∨ s.2 ≠ 0)) || (decide (i.o = 34) && decide (s.2 = 0)))
def rNews (i : Ins) (at_ : Nat) (s : Sta) : List Nxt :=
  (if gEnds i.o then [] else [((at_ : Int) + 1, vBh2 i s)]) ++ (if i.o = 10 ∨ i.o = 11 then [(i.a, vBh2 i s)] else if i.o = 33 then [(i.a, (s.1 + 1, s.2))] else [])
def rPush (L : List Sta) (T : List Nat) : List Nxt → Option (List Sta × List Nat)
  | [] => some (L, T)
  | x :: xs =>
    if (L.length : Int) ≤ x.1 ∨ 100 < x.2.1 ∨ 10 < x.2.2 then none
    else if (L.getD x.1.toNat unk).1 < 0 then rPush (L.set x.1.toNat x.2) (x.1.toNat :: T) xs
    else if L.getD x.1.toNat unk ≠ x.2 then none
    else rPush L T xs
def rRun (code : List Ins) : Nat → List Sta → List Nat → Option (List Sta)
  | _, L, [] => some L
  | 0, _, _ :: _ => none
  | n + 1, L, k :: T =>
    if rOk (code.getD k ⟨0, 0, 0⟩) (L.getD k unk) then
      match rPush L T (rNews (code.getD k ⟨0, 0, 0⟩) k (L.getD k unk)) with
      | none => none
      | some r => rRun code n r.1 r.2
    else none
def rMu (L : List Sta) (T : List Nat) : Nat := T.length + L.count unk
def rStates (q : Pr) (f : Fn) : Option (List Sta) :=
  if f.code.all (vNames q f) then rRun f.code f.code.length ((List.replicate f.code.length unk).set 0 (0, 0)) [0] else none
theorem rNews_mem {i : Ins} {k : Nat} {s : Sta} {x : Nxt} : x ∈ rNews i k s ↔ x ∈ vNews i k s := by
  unfold rNews vNews
  rw [List.mem_append, List.mem_append]
  constructor
  · rintro (h | h)
    · exact .inr h
    · refine .inl ?_
      by_cases h33 : i.o = 33
      · rw [if_pos h33]; rw [if_neg (by omega), if_pos h33] at h; exact h
      · rw [if_neg h33]
        rw [if_neg h33] at h
        by_cases hj : i.o = 10 ∨ i.o = 11
        · rw [if_pos hj] at h ⊢
          have : vBh2 i s = vBh i s := by unfold vBh2; rw [if_neg h33, if_neg (by omega)]
          rw [this] at h
          exact h
        · rw [if_neg hj] at h; cases h
  · rintro (h | h)
    · refine .inr ?_
      by_cases h33 : i.o = 33
      · rw [if_pos h33] at h; rw [if_neg (by omega), if_pos h33]; exact h
      · rw [if_neg h33] at h
        rw [if_neg h33]
        by_cases hj : i.o = 10 ∨ i.o = 11
        · rw [if_pos hj] at h ⊢
          have : vBh2 i s = vBh i s := by unfold vBh2; rw [if_neg h33, if_neg (by omega)]
          rw [this]
          exact h
        · rw [if_neg hj] at h; cases h
    · exact .inl h
theorem rNews_len (i : Ins) (a : Nat) (s : Sta) : (rNews i a s).length ≤ 2 := by
  unfold rNews
  rw [List.length_append]
  repeat' split
  all_goals simp
theorem rOk_iff {i : Ins} {k : Nat} {s : Sta} (hs : 0 ≤ s.2) : rOk i s = true ↔ vOk i s = true ∧ ∀ x ∈ vNews i k s, 0 ≤ x.2.2 := by
  obtain ⟨h, t⟩ := s
  simp only at hs
  have e1 : vOk i (h, t) = true ↔ gTakes i.o i.a i.b ≤ h ∧ (i.o = 9 → h = 1 ∧ t = 0) ∧ (i.o = 8 → h = 2 ∧ t = 0) := by
    unfold vOk vExit
    by_cases h9 : i.o = 9
    · rw [if_pos h9]; simp [h9]
    · rw [if_neg h9]
      by_cases h8 : i.o = 8
      · rw [if_pos h8]; simp [h8]
      · rw [if_neg h8]; simp [h8, h9]
  have e2 : rOk i (h, t) = true ↔ gTakes i.o i.a i.b ≤ h ∧ (i.o = 9 → h = 1 ∧ t = 0) ∧ (i.o = 8 → h = 2 ∧ t = 0) ∧ (i.o = 34 → t ≠ 0) := by
    unfold rOk
    simp only [Bool.not_eq_true', Bool.or_eq_false_iff, Bool.and_eq_false_iff, decide_eq_false_iff_not, not_or, Decidable.not_not, and_assoc]
    constructor
    · rintro ⟨a, b, c, d⟩
      exact ⟨by omega, fun h => by rcases b with b | b; exact absurd h b; exact b, fun h => by rcases c with c | c; exact absurd h c; exact c, fun h => by rcases d with d | d; exact absurd h d; exact d⟩
    · rintro ⟨a, b, c, d⟩
      refine ⟨by omega, ?_, ?_, ?_⟩
      · by_cases h : i.o = 9
        · exact .inr (b h)
        · exact .inl h
      · by_cases h : i.o = 8
        · exact .inr (c h)
        · exact .inl h
      · by_cases h : i.o = 34
        · exact .inr (d h)
        · exact .inl h
  rw [e1, e2]
  constructor
  · rintro ⟨a, b, c, d⟩
    refine ⟨⟨a, b, c⟩, fun x hx => ?_⟩
    unfold vNews at hx
    rcases List.mem_append.1 hx with hx | hx
    · split at hx
      · obtain rfl := List.mem_singleton.1 hx
        exact hs
      · split at hx
        · obtain rfl := List.mem_singleton.1 hx
          exact hs
        · cases hx
    · split at hx
      · cases hx
      · obtain rfl := List.mem_singleton.1 hx
        unfold vBh2
        split
        · show 0 ≤ t + 1; omega
        · split
          · rename_i h34
            have := d h34
            show 0 ≤ t - 1; omega
          · exact hs
  · rintro ⟨⟨a, b, c⟩, hx⟩
    refine ⟨a, b, c, fun h34 ht => ?_⟩
    have hm : ((k : Int) + 1, vBh2 i (h, t)) ∈ vNews i k (h, t) := by
      unfold vNews
      refine List.mem_append_right _ ?_
      have : gEnds i.o = false := by unfold gEnds; rw [h34]; decide
      rw [this]
      simp
    have h2 := hx _ hm
    unfold vBh2 at h2
    rw [if_neg (by omega), if_pos h34] at h2
    have h3 : 0 ≤ t - 1 := h2
    omega
/-- A known state has no number below 0. -/
def Pos (L : List Sta) : Prop := ∀ j, L.getD j unk ≠ unk → 0 ≤ (L.getD j unk).1
theorem getD_nil (j : Nat) (L : List Sta) (h : L.length ≤ j) : L.getD j unk = unk := by
  rw [List.getD_eq_getElem?_getD, List.getElem?_eq_none h]; rfl
theorem known_lt {L : List Sta} {j : Nat} (h : L.getD j unk ≠ unk) : j < L.length := by
  rcases Nat.lt_or_ge j L.length with h1 | h1
  · exact h1
  · exact absurd (getD_nil j L h1) h
structure RPushed (L : List Sta) (T : List Nat) (xs : List Nxt) (L' : List Sta) (T' : List Nat) : Prop where
  len : L'.length = L.length
  keep : ∀ j, L.getD j unk ≠ unk → L'.getD j unk = L.getD j unk
  all : ∀ x ∈ xs, x.1 < L.length ∧ x.2.1 ≤ 100 ∧ x.2.2 ≤ 10 ∧ L'.getD x.1.toNat unk = x.2
  sub : ∀ j ∈ T, j ∈ T'
  new : ∀ j, L'.getD j unk ≠ unk → L.getD j unk ≠ unk ∨ (j ∈ T' ∧ 0 ≤ (L'.getD j unk).1 ∧ (L'.getD j unk).1 ≤ 100 ∧ 0 ≤ (L'.getD j unk).2 ∧ (L'.getD j unk).2 ≤ 10)
  todo : ∀ j ∈ T', j ∈ T ∨ L'.getD j unk ≠ unk
  mu : rMu L' T' = rMu L T
theorem rPush_ok : ∀ (xs : List Nxt) (L : List Sta) (T : List Nat) (r : List Sta × List Nat), (∀ x ∈ xs, 0 ≤ x.1 ∧ 0 ≤ x.2.1 ∧ 0 ≤ x.2.2) → Pos L → rPush L T xs = some r → RPushed L T xs r.1 r.2 := by
  intro xs
  induction xs with
  | nil =>
    intro L T r _ _ h
    obtain rfl := Option.some.inj h
    exact ⟨rfl, fun _ _ => rfl, fun x hx => (by cases hx), fun _ h => h, fun j h => .inl h, fun j h => .inl h, rfl⟩
  | cons x xs ih =>
    intro L T r hx hp h
    obtain ⟨x0, x1, x2⟩ := hx x (by simp)
    rw [rPush] at h
    by_cases hb : (L.length : Int) ≤ x.1 ∨ 100 < x.2.1 ∨ 10 < x.2.2
    · rw [if_pos hb] at h; cases h
    rw [if_neg hb] at h
    have hlt : x.1.toNat < L.length := by omega
    have hne : x.2 ≠ unk := ne_unk x2
    by_cases hu : (L.getD x.1.toNat unk).1 < 0
    · rw [if_pos hu] at h
      have hun : L.getD x.1.toNat unk = unk := by
        by_cases e : L.getD x.1.toNat unk = unk
        · exact e
        · have := hp _ e; omega
      have hp' : Pos (L.set x.1.toNat x.2) := by
        intro j hj
        rw [getD_set] at hj ⊢
        split
        · exact x1
        · rename_i hn
          rw [if_neg hn] at hj
          exact hp j hj
      obtain ⟨a1, a2, a3, a4, a5, a6, a7⟩ := ih _ _ r (fun y hy => hx y (List.mem_cons_of_mem _ hy)) hp' h
      have hset : (L.set x.1.toNat x.2).getD x.1.toNat unk = x.2 := by rw [getD_set, if_pos ⟨rfl, hlt⟩]
      have hL' : r.1.getD x.1.toNat unk = x.2 := by
        rw [a2 _ (by rw [hset]; exact hne), hset]
      refine ⟨by rw [a1, List.length_set], fun j hj => ?_, fun y hy => ?_, fun j hj => a4 j (List.mem_cons_of_mem _ hj), fun j hj => ?_, fun j hj => ?_, ?_⟩
      · have hjx : x.1.toNat ≠ j := by rintro rfl; exact hj hun
        have e : (L.set x.1.toNat x.2).getD j unk = L.getD j unk := by rw [getD_set, if_neg (fun e => hjx e.1)]
        rw [a2 j (by rw [e]; exact hj), e]
      · rcases List.mem_cons.1 hy with rfl | hy
        · exact ⟨by omega, by omega, by omega, hL'⟩
        · obtain ⟨b1, b2, b3, b4⟩ := a3 y hy
          exact ⟨by rw [List.length_set] at b1; exact b1, b2, b3, b4⟩
      · rcases a5 j hj with h1 | h1
        · by_cases hjx : x.1.toNat = j
          · subst hjx
            exact .inr ⟨a4 _ (by simp), by rw [hL']; exact x1, by rw [hL']; omega, by rw [hL']; exact x2, by rw [hL']; omega⟩
          · rw [getD_set, if_neg (fun e => hjx e.1)] at h1
            exact .inl h1
        · exact .inr h1
      · rcases a6 j hj with h1 | h1
        · rcases List.mem_cons.1 h1 with rfl | h1
          · exact .inr (by rw [hL']; exact hne)
          · exact .inl h1
        · exact .inr h1
      · rw [a7]
        have hc := set_count hlt hun hne
        unfold rMu
        simp only [List.length_cons]
        omega
    · rw [if_neg hu] at h
      by_cases he : L.getD x.1.toNat unk ≠ x.2
      · rw [if_pos he] at h; cases h
      rw [if_neg he] at h
      have he' : L.getD x.1.toNat unk = x.2 := by
        by_cases e : L.getD x.1.toNat unk = x.2
        · exact e
        · exact absurd e he
      obtain ⟨a1, a2, a3, a4, a5, a6, a7⟩ := ih _ _ r (fun y hy => hx y (List.mem_cons_of_mem _ hy)) hp h
      refine ⟨a1, a2, fun y hy => ?_, a4, a5, a6, a7⟩
      rcases List.mem_cons.1 hy with rfl | hy
      · exact ⟨by omega, by omega, by omega, by rw [a2 _ (by rw [he']; exact hne), he']⟩
      · exact a3 y hy
/-- WHERE CLOSED STATES ARE, all that comes next can be laid. -/
theorem rPush_of {S : List Sta} : ∀ (xs : List Nxt) (L : List Sta) (T : List Nat), L.length = S.length → Pos L → (∀ k, L.getD k unk ≠ unk → L.getD k unk = S.getD k unk) →
    (∀ x ∈ xs, 0 ≤ x.1 ∧ 0 ≤ x.2.1 ∧ 0 ≤ x.2.2 ∧ x.1 < S.length ∧ x.2.1 ≤ 100 ∧ x.2.2 ≤ 10 ∧ S.getD x.1.toNat unk = x.2) → ∃ r, rPush L T xs = some r ∧ ∀ k, r.1.getD k unk ≠ unk → r.1.getD k unk = S.getD k unk := by
  intro xs
  induction xs with
  | nil => intro L T _ _ hL _; exact ⟨(L, T), rfl, hL⟩
  | cons x xs ih =>
    intro L T hl hp hL hx
    obtain ⟨x0, x1, x2, x3, x4, x5, x6⟩ := hx x (by simp)
    rw [rPush, if_neg (by omega)]
    by_cases hu : (L.getD x.1.toNat unk).1 < 0
    · rw [if_pos hu]
      refine ih _ _ (by rw [List.length_set]; exact hl) ?_ (fun k hk => ?_) (fun y hy => hx y (List.mem_cons_of_mem _ hy))
      · intro j hj
        rw [getD_set] at hj ⊢
        split
        · exact x1
        · rename_i hn
          rw [if_neg hn] at hj
          exact hp j hj
      · rw [getD_set] at hk ⊢
        by_cases hkx : x.1.toNat = k ∧ x.1.toNat < L.length
        · rw [if_pos hkx, ← hkx.1, x6]
        · rw [if_neg hkx] at hk ⊢
          exact hL k hk
    · rw [if_neg hu]
      have hne : L.getD x.1.toNat unk ≠ unk := by
        intro e
        rw [e] at hu
        exact hu (by decide)
      rw [if_neg (fun h => h ((hL _ hne).trans x6))]
      exact ih L T hl hp hL (fun y hy => hx y (List.mem_cons_of_mem _ hy))
/-- What holds of the document's run. -/
structure RInv (code : List Ins) (L : List Sta) (T : List Nat) : Prop where
  len : L.length = code.length
  todo : ∀ k ∈ T, L.getD k unk ≠ unk
  ok : ∀ k, L.getD k unk ≠ unk → 0 ≤ (L.getD k unk).1 ∧ (L.getD k unk).1 ≤ 100 ∧ 0 ≤ (L.getD k unk).2 ∧ (L.getD k unk).2 ≤ 10 ∧
    (k ∈ T ∨ (vOk (code.getD k ⟨0, 0, 0⟩) (L.getD k unk) = true ∧ ∀ x ∈ vNews (code.getD k ⟨0, 0, 0⟩) k (L.getD k unk), x.1 < L.length ∧ x.2.1 ≤ 100 ∧ x.2.2 ≤ 10 ∧ 0 ≤ x.2.2 ∧ L.getD x.1.toNat unk = x.2))
theorem RInv.pos {code : List Ins} {L : List Sta} {T : List Nat} (h : RInv code L T) : Pos L := fun j hj => (h.ok j hj).1
theorem r_news {code : List Ins} {L : List Sta} {T : List Nat} {k : Nat} (hg : ∀ i ∈ code, insGood i = true) (h : RInv code L (k :: T)) (hok : rOk (code.getD k ⟨0, 0, 0⟩) (L.getD k unk) = true) :
    vOk (code.getD k ⟨0, 0, 0⟩) (L.getD k unk) = true ∧ ∀ x ∈ rNews (code.getD k ⟨0, 0, 0⟩) k (L.getD k unk), 0 ≤ x.1 ∧ 0 ≤ x.2.1 ∧ 0 ≤ x.2.2 := by
  have hk := h.todo k (by simp)
  have hkl : k < code.length := by rw [← h.len]; exact known_lt hk
  obtain ⟨h1, h2, h3, h4, _⟩ := h.ok k hk
  obtain ⟨a, b⟩ := (rOk_iff (k := k) h3).1 hok
  refine ⟨a, fun x hx => ?_⟩
  have hx' := rNews_mem.1 hx
  have hc := news_at0 (code_good hg hkl) h1 a x hx'
  exact ⟨hc.1, hc.2, b x hx'⟩
theorem RInv.step {code : List Ins} {L : List Sta} {T : List Nat} {k : Nat} {r : List Sta × List Nat} (hg : ∀ i ∈ code, insGood i = true) (h : RInv code L (k :: T)) (hok : rOk (code.getD k ⟨0, 0, 0⟩) (L.getD k unk) = true)
    (hr : rPush L T (rNews (code.getD k ⟨0, 0, 0⟩) k (L.getD k unk)) = some r) : RInv code r.1 r.2 ∧ (∀ j, L.getD j unk ≠ unk → r.1.getD j unk = L.getD j unk) ∧ rMu r.1 r.2 = rMu L T := by
  obtain ⟨hv, hn⟩ := r_news hg h hok
  have hk := h.todo k (by simp)
  obtain ⟨a1, a2, a3, a4, a5, a6, a7⟩ := rPush_ok _ L T r hn h.pos hr
  refine ⟨⟨by rw [a1]; exact h.len, fun j hj => ?_, fun j hj => ?_⟩, a2, a7⟩
  · rcases a6 j hj with h1 | h1
    · have := h.todo j (List.mem_cons_of_mem _ h1)
      rw [a2 j this]
      exact this
    · exact h1
  · rcases a5 j hj with h1 | ⟨h1, h2, h3, h4, h5⟩
    · rw [a2 j h1]
      obtain ⟨b1, b2, b3, b4, b5⟩ := h.ok j h1
      refine ⟨b1, b2, b3, b4, ?_⟩
      by_cases hjk : j = k
      · subst hjk
        refine .inr ⟨hv, fun x hx => ?_⟩
        have hx' := rNews_mem.2 hx
        obtain ⟨c1, c2, c3, c4⟩ := a3 x hx'
        exact ⟨by rw [a1]; exact c1, c2, c3, (hn x hx').2.2, c4⟩
      · rcases b5 with b5 | ⟨b5, b6⟩
        · rcases List.mem_cons.1 b5 with b5 | b5
          · exact absurd b5 hjk
          · exact .inl (a4 j b5)
        · refine .inr ⟨b5, fun x hx => ?_⟩
          obtain ⟨c1, c2, c3, c4, c5⟩ := b6 x hx
          refine ⟨by rw [a1]; exact c1, c2, c3, c4, ?_⟩
          rw [a2 _ (by rw [c5]; exact ne_unk c4), c5]
    · exact ⟨h2, h3, h4, h5, .inl h1⟩
theorem rRun_inv {code : List Ins} (hg : ∀ i ∈ code, insGood i = true) : ∀ (n : Nat) (L : List Sta) (T : List Nat) (R : List Sta), RInv code L T → rRun code n L T = some R → RInv code R [] ∧ ∀ k, L.getD k unk ≠ unk → R.getD k unk = L.getD k unk := by
  intro n
  induction n with
  | zero =>
    intro L T R h hr
    cases T with
    | nil =>
      obtain rfl := Option.some.inj hr
      exact ⟨h, fun _ _ => rfl⟩
    | cons k T => cases hr
  | succ n ih =>
    intro L T R h hr
    cases T with
    | nil =>
      simp only [rRun, Option.some.injEq] at hr
      subst hr
      exact ⟨h, fun _ _ => rfl⟩
    | cons k T =>
      rw [rRun] at hr
      by_cases hok : rOk (code.getD k ⟨0, 0, 0⟩) (L.getD k unk) = true
      · rw [if_pos hok] at hr
        cases hp : rPush L T (rNews (code.getD k ⟨0, 0, 0⟩) k (L.getD k unk)) with
        | none => rw [hp] at hr; cases hr
        | some r =>
          rw [hp] at hr
          obtain ⟨h1, h2, _⟩ := h.step hg hok hp
          obtain ⟨h3, h4⟩ := ih _ _ R h1 hr
          exact ⟨h3, fun j hj => by rw [h4 j (by rw [h2 j hj]; exact hj), h2 j hj]⟩
      · rw [if_neg hok] at hr; cases hr
theorem rRun_of {code : List Ins} (hg : ∀ i ∈ code, insGood i = true) {S : List Sta} (hS : VCl code S) : ∀ (n : Nat) (L : List Sta) (T : List Nat), RInv code L T → (∀ k, L.getD k unk ≠ unk → L.getD k unk = S.getD k unk) → rMu L T ≤ n →
    ∃ R, rRun code n L T = some R ∧ ∀ k, R.getD k unk ≠ unk → R.getD k unk = S.getD k unk := by
  intro n
  induction n with
  | zero =>
    intro L T _ hL hm
    cases T with
    | nil => exact ⟨L, rfl, hL⟩
    | cons k T => unfold rMu at hm; simp at hm
  | succ n ih =>
    intro L T h hL hm
    cases T with
    | nil => exact ⟨L, rfl, hL⟩
    | cons k T =>
      have hk := h.todo k (by simp)
      have hkl := known_lt hk
      have hls : L.length = S.length := by rw [h.len, hS.len]
      obtain ⟨b1, b2, b3, b4, _⟩ := h.ok k hk
      have hkS := hL k hk
      rcases hS.ok k (by omega) with c | ⟨c1, c2, c3, c4, c5, c6⟩
      · exact absurd (hkS.trans c) hk
      rw [← hkS] at c5 c6
      have hok : rOk (code.getD k ⟨0, 0, 0⟩) (L.getD k unk) = true := (rOk_iff (k := k) b3).2 ⟨c5, fun x hx => (c6 x hx).2.2.2.1⟩
      obtain ⟨hv, hn⟩ := r_news hg h hok
      obtain ⟨r, hr, hrS⟩ := rPush_of (S := S) (rNews (code.getD k ⟨0, 0, 0⟩) k (L.getD k unk)) L T hls h.pos hL (fun x hx => by
        obtain ⟨d1, d2, d3⟩ := hn x hx
        obtain ⟨e1, e2, e3, e4, e5⟩ := c6 x (rNews_mem.1 hx)
        exact ⟨d1, d2, d3, e1, e2, e3, e5⟩)
      obtain ⟨f1, f2, f3⟩ := h.step hg hok hr
      rw [rRun, if_pos hok, hr]
      refine ih r.1 r.2 f1 hrS ?_
      rw [f3]
      unfold rMu at hm ⊢
      simp only [List.length_cons] at hm
      omega
theorem rinv0 {code : List Ins} (hl : 0 < code.length) : RInv code ((List.replicate code.length unk).set 0 (0, 0)) [0] := by
  have e : ∀ j, ((List.replicate code.length unk).set 0 ((0, 0) : Sta)).getD j unk = if j = 0 then (0, 0) else unk := by
    intro j
    rw [getD_set]
    by_cases h : j = 0
    · subst h; rw [if_pos rfl, if_pos ⟨rfl, by simpa using hl⟩]
    · rw [if_neg h, if_neg (fun e => h e.1.symm), List.getD_eq_getElem?_getD, List.getElem?_replicate]
      split <;> rfl
  refine ⟨by simp, fun k hk => ?_, fun k hk => ?_⟩
  · obtain rfl := List.mem_singleton.1 hk
    rw [e, if_pos rfl]
    decide
  · rw [e] at hk ⊢
    by_cases h : k = 0
    · subst h
      rw [if_pos rfl]
      exact ⟨by decide, by decide, by decide, by decide, .inl (by simp)⟩
    · rw [if_neg h] at hk
      exact absurd rfl hk
theorem rStates_cl {q : Pr} {f : Fn} {R : List Sta} (hg : ∀ i ∈ f.code, insGood i = true) (hl : 0 < f.code.length) (h : rStates q f = some R) : VCl f.code R := by
  unfold rStates at h
  split at h
  · obtain ⟨h1, h2⟩ := rRun_inv hg _ _ _ R (rinv0 hl) h
    have e0 : ((List.replicate f.code.length unk).set 0 ((0, 0) : Sta)).getD 0 unk = (0, 0) := by rw [getD_set, if_pos ⟨rfl, by simpa using hl⟩]
    refine ⟨h1.len, ?_, fun k hk => ?_⟩
    · rw [h2 0 (by rw [e0]; decide), e0]
    · by_cases hu : R.getD k unk = unk
      · exact .inl hu
      · obtain ⟨b1, b2, b3, b4, b5⟩ := h1.ok k hu
        rcases b5 with b5 | ⟨b5, b6⟩
        · cases b5
        · exact .inr ⟨b1, b2, b3, b4, b5, b6⟩
  · cases h
theorem rStates_of {q : Pr} {f : Fn} {S : List Sta} (hg : ∀ i ∈ f.code, insGood i = true) (hl : 0 < f.code.length) (hn : f.code.all (vNames q f) = true) (hS : VCl f.code S) : ∃ R, rStates q f = some R ∧ ∀ k, R.getD k unk ≠ unk → R.getD k unk = S.getD k unk := by
  unfold rStates
  rw [if_pos hn]
  refine rRun_of hg hS _ _ _ (rinv0 hl) (fun k hk => ?_) ?_
  · rw [getD_set] at hk ⊢
    by_cases h : 0 = k ∧ 0 < (List.replicate f.code.length unk).length
    · rw [if_pos h, ← h.1, hS.at0]
    · rw [if_neg h] at hk
      exfalso
      apply hk
      rw [List.getD_eq_getElem?_getD, List.getElem?_replicate]
      split <;> rfl
  · have hc := set_count (L := List.replicate f.code.length unk) (k := 0) (s := (0, 0)) (by simpa using hl) (by rw [List.getD_eq_getElem?_getD, List.getElem?_replicate, if_pos hl]; rfl) (by decide)
    rw [count_all] at hc
    unfold rMu
    simp only [List.length_cons, List.length_nil]
    omega
/-- THE DOCUMENT'S STATES ARE THE PROGRAM'S. -/
theorem states_ref {q : Pr} {f : Fn} (hg : ∀ i ∈ f.code, insGood i = true) (hl : 0 < f.code.length) : rStates q f = vStates q f := by
  by_cases hn : f.code.all (vNames q f) = true
  · cases hv : vStates q f with
    | some R =>
      obtain ⟨R1, h1, h2⟩ := rStates_of hg hl hn (vStates_cl hg hl hv)
      obtain ⟨R2, h3, h4⟩ := vStates_of hg hl hn (rStates_cl hg hl h1)
      rw [hv] at h3
      obtain rfl := Option.some.inj h3
      rw [h1, sub_eq (by rw [(rStates_cl hg hl h1).len, (vStates_cl hg hl hv).len]) h2 h4]
    | none =>
      cases hr : rStates q f with
      | none => rfl
      | some R =>
        obtain ⟨R2, h3, _⟩ := vStates_of hg hl hn (rStates_cl hg hl hr)
        rw [hv] at h3
        cases h3
  · unfold rStates vStates
    rw [if_neg hn, if_neg hn]
end Go.Proofs.YtiphicejaljhiaaDoor
