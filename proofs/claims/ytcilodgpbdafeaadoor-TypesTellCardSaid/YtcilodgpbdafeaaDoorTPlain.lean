/- Types as data: parts, trees; which parts are a tree laid out. -/
namespace Go.Proofs.YtcilodgpbdafeaaDoor
set_option linter.unusedVariables false
set_option linter.unusedSimpArgs false
/-- A part of a type, as its five fields. -/
structure Part where
  k : Int
  a : Int
  b : Int
  n : Int
  t : List UInt8
deriving DecidableEq
inductive Ty where
  | leaf (k : Int) (t : List UInt8)
  | var (n : Int)
  | one (k : Int) (s : Ty)
  | two (k : Int) (s u : Ty)
deriving DecidableEq
def Ty.size : Ty → Nat
  | .leaf _ _ => 1
  | .var _ => 1
  | .one _ s => s.size + 1
  | .two _ s u => s.size + u.size + 1
def Ty.wf : Ty → Prop
  | .leaf k t => (1 ≤ k ∧ k ≤ 5 ∧ t = []) ∨ (k = 10 ∧ t ≠ [])
  | .var n => 0 ≤ n
  | .one k s => (k = 7 ∨ k = 9) ∧ s.wf
  | .two k s u => (k = 6 ∨ k = 8) ∧ s.wf ∧ u.wf
theorem Ty.size_pos (T : Ty) : 0 < T.size := by cases T <;> simp [Ty.size]
/-- Tree T's whole is part i of the list, all beneath it lies ahead, in postorder. -/
def At (l : List Part) : Ty → Nat → Prop
  | .leaf k t, i => l[i]? = some ⟨k, 0, 0, 0, t⟩
  | .var n, i => l[i]? = some ⟨11, 0, 0, n, []⟩
  | .one k s, i => ∃ j : Nat, i = j + 1 ∧ l[i]? = some ⟨k, j, 0, 0, []⟩ ∧ At l s j
  | .two k s u, i => ∃ j h : Nat, i = j + 1 ∧ l[i]? = some ⟨k, h, j, 0, []⟩ ∧ At l s h ∧ At l u j ∧ h + u.size = j
/-- A tree's parts, the first of them part o. -/
def enc (o : Nat) : Ty → List Part
  | .leaf k t => [⟨k, 0, 0, 0, t⟩]
  | .var n => [⟨11, 0, 0, n, []⟩]
  | .one k s => enc o s ++ [⟨k, ((o + s.size - 1 : Nat) : Int), 0, 0, []⟩]
  | .two k s u => enc o s ++ enc (o + s.size) u ++ [⟨k, ((o + s.size - 1 : Nat) : Int), ((o + s.size + u.size - 1 : Nat) : Int), 0, []⟩]
theorem enc_len (T : Ty) : ∀ o, (enc o T).length = T.size := by
  induction T with
  | leaf k t => intro o; rfl
  | var n => intro o; rfl
  | one k s ih => intro o; simp [enc, Ty.size, ih]
  | two k s u ih1 ih2 => intro o; simp [enc, Ty.size, ih1, ih2]; omega
theorem At.lt {l : List Part} {T : Ty} {i : Nat} (h : At l T i) : i < l.length := by
  cases T with
  | leaf k t => exact (List.getElem?_eq_some_iff.1 h).1
  | var n => exact (List.getElem?_eq_some_iff.1 h).1
  | one k s => obtain ⟨j, _, h, _⟩ := h; exact (List.getElem?_eq_some_iff.1 h).1
  | two k s u => obtain ⟨j, g, _, h, _⟩ := h; exact (List.getElem?_eq_some_iff.1 h).1
theorem At.size {l : List Part} {T : Ty} : ∀ {i : Nat}, At l T i → T.size ≤ i + 1 := by
  induction T with
  | leaf k t => intro i _; simp [Ty.size]
  | var n => intro i _; simp [Ty.size]
  | one k s ih => rintro i ⟨j, rfl, _, h⟩; have := ih h; simp only [Ty.size]; omega
  | two k s u ih1 ih2 => rintro i ⟨j, g, rfl, _, h1, h2, e⟩; have := ih1 h1; have := ih2 h2; simp only [Ty.size]; omega
/-- Parts behind do not matter, nor does what lies ahead of a tree. -/
theorem At.more {l : List Part} (l' : List Part) {T : Ty} : ∀ {i : Nat}, At l T i → At (l ++ l') T i := by
  have hm : ∀ {i : Nat} {p : Part}, l[i]? = some p → (l ++ l')[i]? = some p := fun {i p} h => by
    rw [List.getElem?_append_left (List.getElem?_eq_some_iff.1 h).1]; exact h
  induction T with
  | leaf k t => intro i h; exact hm h
  | var n => intro i h; exact hm h
  | one k s ih => rintro i ⟨j, e, h, h1⟩; exact ⟨j, e, hm h, ih h1⟩
  | two k s u ih1 ih2 => rintro i ⟨j, g, e, h, h1, h2, e2⟩; exact ⟨j, g, e, hm h, ih1 h1, ih2 h2, e2⟩
theorem At.less {l l' : List Part} {T : Ty} : ∀ {i : Nat}, At (l ++ l') T i → i < l.length → At l T i := by
  have hm : ∀ {i : Nat} {p : Part}, (l ++ l')[i]? = some p → i < l.length → l[i]? = some p := fun {i p} h hi => by
    rw [List.getElem?_append_left hi] at h; exact h
  induction T with
  | leaf k t => intro i h hi; exact hm h hi
  | var n => intro i h hi; exact hm h hi
  | one k s ih => rintro i ⟨j, e, h, h1⟩ hi; exact ⟨j, e, hm h hi, ih h1 (by omega)⟩
  | two k s u ih1 ih2 =>
    rintro i ⟨j, g, e, h, h1, h2, e2⟩ hi
    have := u.size_pos
    exact ⟨j, g, e, hm h hi, ih1 h1 (by omega), ih2 h2 (by omega), e2⟩
theorem at_enc (T : Ty) : ∀ (l : List Part), At (l ++ enc l.length T) T (l.length + T.size - 1) := by
  induction T with
  | leaf k t => intro l; show (l ++ [_])[l.length]? = _; simp
  | var n => intro l; show (l ++ [_])[l.length]? = _; simp
  | one k s ih =>
    intro l
    have hp := s.size_pos
    refine ⟨l.length + s.size - 1, by simp only [Ty.size]; omega, ?_, ?_⟩
    · rw [show l.length + (Ty.one k s).size - 1 = (l ++ enc l.length s).length by rw [List.length_append, enc_len]; simp only [Ty.size]; omega]
      show (l ++ (enc l.length s ++ [_]))[_]? = _
      rw [← List.append_assoc]
      simp
    · show At (l ++ (enc l.length s ++ [_])) _ _
      rw [← List.append_assoc]
      exact (ih l).more _
  | two k s u ih1 ih2 =>
    intro l
    have hp := s.size_pos
    have hq := u.size_pos
    refine ⟨l.length + s.size + u.size - 1, l.length + s.size - 1, by simp only [Ty.size]; omega, ?_, ?_, ?_, by omega⟩
    · rw [show l.length + (Ty.two k s u).size - 1 = (l ++ enc l.length s ++ enc (l.length + s.size) u).length by rw [List.length_append, List.length_append, enc_len, enc_len]; simp only [Ty.size]; omega]
      show (l ++ (enc l.length s ++ enc (l.length + s.size) u ++ [_]))[_]? = _
      rw [← List.append_assoc, ← List.append_assoc]
      simp
    · show At (l ++ (enc l.length s ++ enc (l.length + s.size) u ++ [_])) _ _
      rw [← List.append_assoc, ← List.append_assoc]
      exact ((ih1 l).more _).more _
    · show At (l ++ (enc l.length s ++ enc (l.length + s.size) u ++ [_])) _ _
      rw [← List.append_assoc, ← List.append_assoc]
      have h := ih2 (l ++ enc l.length s)
      rw [List.length_append, enc_len] at h
      exact h.more _
theorem take_succ_some {l : List Part} {i : Nat} {p : Part} (h : l[i]? = some p) : l.take (i + 1) = l.take i ++ [p] := by
  rw [List.take_add_one, h]; rfl
theorem At.enc {l : List Part} {T : Ty} : ∀ {i : Nat}, At l T i → l.take (i + 1) = l.take (i + 1 - T.size) ++ enc (i + 1 - T.size) T := by
  induction T with
  | leaf k t => intro i h; rw [take_succ_some h]; rfl
  | var n => intro i h; rw [take_succ_some h]; rfl
  | one k s ih =>
    rintro i ⟨j, rfl, h, h1⟩
    have hp := s.size_pos
    have hs := h1.size
    rw [take_succ_some h, ih h1, show j + 1 + 1 - (Ty.one k s).size = j + 1 - s.size by simp only [Ty.size]; omega]
    show _ = _ ++ (Go.Proofs.YtcilodgpbdafeaaDoor.enc _ s ++ [_])
    rw [show ((j + 1 - s.size + s.size - 1 : Nat) : Int) = (j : Int) by congr 1; omega, List.append_assoc]
  | two k s u ih1 ih2 =>
    rintro i ⟨j, g, rfl, h, h1, h2, e⟩
    have hp := s.size_pos
    have hq := u.size_pos
    have hs := h1.size
    rw [take_succ_some h, ih2 h2, show j + 1 - u.size = g + 1 by omega, ih1 h1, show j + 1 + 1 - (Ty.two k s u).size = g + 1 - s.size by simp only [Ty.size]; omega]
    show _ = _ ++ (Go.Proofs.YtcilodgpbdafeaaDoor.enc _ s ++ Go.Proofs.YtcilodgpbdafeaaDoor.enc _ u ++ [_])
    rw [show g + 1 - s.size + s.size = g + 1 by omega, show g + 1 - 1 = g by omega, show ((g + 1 + u.size - 1 : Nat) : Int) = (j : Int) by congr 1; omega]
    simp only [List.append_assoc]
/-- A whole list that is a tree is that tree's parts. -/
theorem At.whole {l : List Part} {T : Ty} {i : Nat} (h : At l T i) (hl : i + 1 = l.length) (hs : T.size = l.length) : l = Go.Proofs.YtcilodgpbdafeaaDoor.enc 0 T := by
  have := h.enc
  rw [hl, hs, Nat.sub_self, List.take_length] at this
  simpa using this
def kids (k : Int) : Int :=
  if (1 ≤ k ∧ k ≤ 5) ∨ k = 10 ∨ k = 11 then 0 else if k = 7 ∨ k = 9 then 1 else if k = 6 ∨ k = 8 then 2 else -1
/-- Where all beneath a part begins, by where that of those ahead begins; none: it is not as it should be. -/
def beg (p : Part) (F : List Nat) : Option Nat :=
  if 1 ≤ p.k ∧ p.k ≤ 5 then (if p = ⟨p.k, 0, 0, 0, []⟩ then some F.length else none)
  else if p.k = 10 then (if p = ⟨10, 0, 0, 0, p.t⟩ ∧ p.t ≠ [] then some F.length else none)
  else if p.k = 11 then (if p = ⟨11, 0, 0, p.n, []⟩ ∧ 0 ≤ p.n then some F.length else none)
  else if p.k = 7 ∨ p.k = 9 then (if 1 ≤ F.length ∧ p = ⟨p.k, (F.length : Int) - 1, 0, 0, []⟩ then F[F.length - 1]? else none)
  else if p.k = 6 ∨ p.k = 8 then
    (if 2 ≤ F.length ∧ 1 ≤ F.getD (F.length - 1) 0 ∧ p = ⟨p.k, (F.getD (F.length - 1) 0 : Int) - 1, (F.length : Int) - 1, 0, []⟩ then F[F.getD (F.length - 1) 0 - 1]? else none)
  else none
def begs : List Part → List Nat → Option (List Nat)
  | [], F => some F
  | p :: l, F => match beg p F with
    | some b => begs l (F ++ [b])
    | none => none
def gTy (l : List Part) : Bool := decide (1 ≤ l.length) && decide (l.length ≤ 200) && (match begs l [] with
  | some F => F.getD (l.length - 1) 1 == 0
  | none => false)
theorem begs_append (l l' : List Part) : ∀ F, begs (l ++ l') F = (begs l F).bind (begs l') := by
  induction l with
  | nil => intro F; rfl
  | cons p l ih =>
    intro F
    show begs (p :: (l ++ l')) F = _
    unfold begs
    cases beg p F with
    | none => rfl
    | some b => exact ih _
/-- What the beginnings say. -/
def Told (l : List Part) (F : List Nat) : Prop := F.length = l.length ∧ ∀ i b, F[i]? = some b → ∃ T : Ty, T.wf ∧ At l T i ∧ b + T.size = i + 1
theorem Told.step {l : List Part} {F : List Nat} (h : Told l F) {p : Part} {b : Nat} (hb : beg p F = some b) : Told (l ++ [p]) (F ++ [b]) := by
  obtain ⟨hl, h⟩ := h
  refine ⟨by simp [hl], fun i c hc => ?_⟩
  by_cases hi : i < F.length
  · rw [List.getElem?_append_left hi] at hc
    obtain ⟨T, h1, h2, h3⟩ := h i c hc
    exact ⟨T, h1, h2.more _, h3⟩
  have hlt := (List.getElem?_eq_some_iff.1 hc).1
  rw [List.length_append, List.length_singleton] at hlt
  obtain rfl : i = F.length := by omega
  rw [List.getElem?_append_right (Nat.le_refl _), Nat.sub_self] at hc
  obtain rfl : b = c := Option.some.inj hc
  have hat : ∀ q : Part, p = q → (l ++ [p])[F.length]? = some q := fun q e => by rw [hl, List.getElem?_append_right (Nat.le_refl _), Nat.sub_self, e]; rfl
  unfold beg at hb
  split at hb
  · rename_i hk
    split at hb
    · rename_i hp
      injection hb with hb
      exact ⟨.leaf p.k [], .inl ⟨hk.1, hk.2, rfl⟩, hat _ hp, by rw [← hb]; rfl⟩
    · cases hb
  split at hb
  · rename_i hk
    split at hb
    · rename_i hp
      injection hb with hb
      exact ⟨.leaf 10 p.t, .inr ⟨rfl, hp.2⟩, hat _ hp.1, by rw [← hb]; rfl⟩
    · cases hb
  split at hb
  · rename_i hk
    split at hb
    · rename_i hp
      injection hb with hb
      exact ⟨.var p.n, hp.2, hat _ hp.1, by rw [← hb]; rfl⟩
    · cases hb
  split at hb
  · rename_i hk
    split at hb
    · rename_i hp
      obtain ⟨T, h1, h2, h3⟩ := h _ _ hb
      refine ⟨.one p.k T, ⟨hk, h1⟩, ⟨F.length - 1, by omega, hat _ ?_, h2.more _⟩, by simp only [Ty.size]; omega⟩
      rw [hp.2]
      show Part.mk _ _ _ _ _ = _
      rw [show ((F.length - 1 : Nat) : Int) = (F.length : Int) - 1 by omega]
    · cases hb
  split at hb
  · rename_i hk
    split at hb
    · rename_i hp
      obtain ⟨h2F, h1F, hp⟩ := hp
      generalize hx : F.getD (F.length - 1) 0 = x at h1F hp hb
      have hx' : F[F.length - 1]? = some x := by
        rw [List.getD_eq_getElem?_getD] at hx
        rw [List.getElem?_eq_getElem (by omega)] at hx ⊢
        rw [← hx]; rfl
      obtain ⟨U, u1, u2, u3⟩ := h _ _ hx'
      obtain ⟨S, s1, s2, s3⟩ := h _ _ hb
      refine ⟨.two p.k S U, ⟨hk, s1, u1⟩, ⟨F.length - 1, x - 1, by omega, hat _ ?_, s2.more _, u2.more _, by omega⟩, by simp only [Ty.size]; omega⟩
      rw [hp]
      show Part.mk _ _ _ _ _ = _
      rw [show ((F.length - 1 : Nat) : Int) = (F.length : Int) - 1 by omega, show ((x - 1 : Nat) : Int) = (x : Int) - 1 by omega]
    · cases hb
  · cases hb
theorem Told.begs {l' : List Part} : ∀ {l : List Part} {F : List Nat} {G : List Nat}, Told l F → Go.Proofs.YtcilodgpbdafeaaDoor.begs l' F = some G → Told (l ++ l') G := by
  induction l' with
  | nil => intro l F G h hg; rw [List.append_nil]; rw [← Option.some.inj hg]; exact h
  | cons p l' ih =>
    intro l F G h hg
    unfold Go.Proofs.YtcilodgpbdafeaaDoor.begs at hg
    split at hg
    · rename_i b hb
      rw [show l ++ p :: l' = (l ++ [p]) ++ l' by simp]
      exact ih (h.step hb) hg
    · cases hg
theorem begs_enc (T : Ty) : T.wf → ∀ F : List Nat, ∃ G : List Nat, begs (enc F.length T) F = some (F ++ G ++ [F.length]) ∧ G.length + 1 = T.size := by
  induction T with
  | leaf k t =>
    intro hw F
    refine ⟨[], ?_, rfl⟩
    show (match beg _ F with | some b => begs [] (F ++ [b]) | none => none) = _
    have : beg ⟨k, 0, 0, 0, t⟩ F = some F.length := by
      rcases hw with ⟨h1, h2, rfl⟩ | ⟨rfl, h⟩
      · unfold beg; rw [if_pos ⟨h1, h2⟩, if_pos rfl]
      · unfold beg; rw [if_neg (by simp), if_pos rfl, if_pos ⟨rfl, h⟩]
    rw [this]
    show some _ = _
    simp
  | var n =>
    intro hw F
    refine ⟨[], ?_, rfl⟩
    show (match beg _ F with | some b => begs [] (F ++ [b]) | none => none) = _
    have : beg ⟨11, 0, 0, n, []⟩ F = some F.length := by
      unfold beg; rw [if_neg (by simp), if_neg (by simp), if_pos rfl, if_pos ⟨rfl, hw⟩]
    rw [this]
    show some _ = _
    simp
  | one k s ih =>
    intro hw F
    obtain ⟨hk, hw⟩ := hw
    obtain ⟨G, hg, hl⟩ := ih hw F
    refine ⟨G ++ [F.length], ?_, by simp only [Ty.size, List.length_append, List.length_singleton]; omega⟩
    show begs (enc F.length s ++ [_]) F = _
    rw [begs_append, hg]
    show (match beg _ _ with | some b => begs [] (_ ++ [b]) | none => none) = _
    have hlen : (F ++ G ++ [F.length]).length = F.length + s.size := by simp only [List.length_append, List.length_singleton]; omega
    have hp := s.size_pos
    have : beg ⟨k, ((F.length + s.size - 1 : Nat) : Int), 0, 0, []⟩ (F ++ G ++ [F.length]) = some F.length := by
      unfold beg
      rw [if_neg (by simp only; omega), if_neg (by simp only; omega), if_neg (by simp only; omega), if_pos hk, if_pos ⟨by omega, by rw [hlen]; simp only; rw [show ((F.length + s.size - 1 : Nat) : Int) = ((F.length + s.size : Nat) : Int) - 1 by omega]⟩, hlen,
        List.getElem?_append_right (by rw [List.length_append]; omega)]
      rw [show F.length + s.size - 1 - (F ++ G).length = 0 by rw [List.length_append]; omega]
      rfl
    rw [this]
    show some _ = _
    simp
  | two k s u ih1 ih2 =>
    intro hw F
    obtain ⟨hk, hw1, hw2⟩ := hw
    obtain ⟨G, hg, hl⟩ := ih1 hw1 F
    obtain ⟨K, hk2, hl2⟩ := ih2 hw2 (F ++ G ++ [F.length])
    have hp := s.size_pos
    have hq := u.size_pos
    have hlen : (F ++ G ++ [F.length]).length = F.length + s.size := by simp only [List.length_append, List.length_singleton]; omega
    rw [hlen] at hk2
    refine ⟨G ++ [F.length] ++ K ++ [F.length + s.size], ?_, by simp only [Ty.size, List.length_append, List.length_singleton]; omega⟩
    show begs (enc F.length s ++ enc (F.length + s.size) u ++ [_]) F = _
    rw [begs_append, begs_append, hg]
    show ((begs _ _).bind _) = _
    rw [hk2]
    show (match beg _ _ with | some b => begs [] (_ ++ [b]) | none => none) = _
    have hlen2 : (F ++ G ++ [F.length] ++ K ++ [F.length + s.size]).length = F.length + s.size + u.size := by rw [List.length_append, List.length_append, hlen, List.length_singleton]; omega
    have hx : (F ++ G ++ [F.length] ++ K ++ [F.length + s.size]).getD (F.length + s.size + u.size - 1) 0 = F.length + s.size := by
      rw [List.getD_eq_getElem?_getD, List.getElem?_append_right (by rw [List.length_append, hlen]; omega)]
      rw [show F.length + s.size + u.size - 1 - (F ++ G ++ [F.length] ++ K).length = 0 by rw [List.length_append, hlen]; omega]
      rfl
    have : beg ⟨k, ((F.length + s.size - 1 : Nat) : Int), ((F.length + s.size + u.size - 1 : Nat) : Int), 0, []⟩ (F ++ G ++ [F.length] ++ K ++ [F.length + s.size]) = some F.length := by
      unfold beg
      rw [if_neg (by simp only; omega), if_neg (by simp only; omega), if_neg (by simp only; omega), if_neg (by simp only; omega), if_pos hk, hlen2, hx]
      rw [if_pos ⟨by omega, by omega, by simp only [Part.mk.injEq, true_and, and_true]; omega⟩]
      rw [List.append_assoc, List.getElem?_append_left (by rw [hlen]; omega), List.getElem?_append_right (by rw [List.length_append]; omega)]
      rw [show F.length + s.size - 1 - (F ++ G).length = 0 by rw [List.length_append]; omega]
      rfl
    rw [this]
    show some _ = _
    simp
/-- A type may be, just if it is a tree's parts, two hundred at most. -/
theorem gTy_iff (l : List Part) : gTy l = true ↔ ∃ T : Ty, T.wf ∧ l = enc 0 T ∧ T.size ≤ 200 := by
  constructor
  · intro h
    unfold gTy at h
    simp only [Bool.and_eq_true, decide_eq_true_eq] at h
    obtain ⟨⟨h1, h2⟩, h3⟩ := h
    split at h3
    · rename_i F hF
      have ht := Told.begs (l := []) (F := []) ⟨rfl, fun i b h => by simp at h⟩ hF
      rw [List.nil_append] at ht
      have hx : F[l.length - 1]? = some 0 := by
        have h := beq_iff_eq.1 h3
        rw [List.getD_eq_getElem?_getD, List.getElem?_eq_getElem (by rw [ht.1]; omega)] at h
        rw [List.getElem?_eq_getElem (by rw [ht.1]; omega)]
        exact congrArg some h
      obtain ⟨T, w, ha, hs⟩ := ht.2 _ _ hx
      exact ⟨T, w, ha.whole (by omega) (by omega), by omega⟩
    · cases h3
  · rintro ⟨T, w, rfl, hs⟩
    have hp := T.size_pos
    obtain ⟨G, hg, hl⟩ := begs_enc T w []
    unfold gTy
    rw [enc_len]
    simp only [Bool.and_eq_true, decide_eq_true_eq]
    refine ⟨⟨by omega, hs⟩, ?_⟩
    have hg' : begs (enc 0 T) [] = some (G ++ [0]) := by simpa using hg
    rw [hg']
    show ((G ++ [0]).getD (T.size - 1) 1 == 0) = true
    rw [List.getD_eq_getElem?_getD, show T.size - 1 = G.length by omega, List.getElem?_append_right (Nat.le_refl _), Nat.sub_self]
    rfl
theorem at_of_enc (T : Ty) : At (enc 0 T) T (T.size - 1) := by
  have h := at_enc T []
  simpa using h
end Go.Proofs.YtcilodgpbdafeaaDoor
