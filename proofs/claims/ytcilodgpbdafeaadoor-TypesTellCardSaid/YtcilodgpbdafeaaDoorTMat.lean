/- Types as data: what is an instance of what; a type held against another one, its variables written down. -/
import Derived.Test.YtcilodgpbdafeaaDoorTPlain
namespace Go.Proofs.YtcilodgpbdafeaaDoor
set_option linter.unusedVariables false
set_option linter.unusedSimpArgs false
def sub (τ : Int → Ty) : Ty → Ty
  | .leaf k t => .leaf k t
  | .var n => τ n
  | .one k s => .one k (sub τ s)
  | .two k s u => .two k (sub τ s) (sub τ u)
def put (σ : Int → Option Ty) (n : Int) (T : Ty) : Int → Option Ty := fun m => if m = n then some T else σ m
def mat : Ty → Ty → (Int → Option Ty) → Bool × (Int → Option Ty)
  | .var n, T, σ => ((match σ n with | none => true | some U => decide (U = T)), put σ n T)
  | .leaf k t, T, σ => (decide (T = .leaf k t), σ)
  | .one k s, T, σ => match T with
    | .one k' s' => if k = k' then mat s s' σ else (false, σ)
    | _ => (false, σ)
  | .two k s u, T, σ => match T with
    | .two k' s' u' => if k = k' then (if (mat s s' σ).1 then mat u u' (mat s s' σ).2 else (false, (mat s s' σ).2)) else (false, σ)
    | _ => (false, σ)
/-- What is written down says no more than τ. -/
def Holds (σ : Int → Option Ty) (τ : Int → Ty) : Prop := ∀ n U, σ n = some U → τ n = U
def Grows (σ σ' : Int → Option Ty) : Prop := ∀ n U, σ n = some U → σ' n = some U
theorem put_grows {σ : Int → Option Ty} {n : Int} {T : Ty} (h : ∀ U, σ n = some U → U = T) : Grows σ (put σ n T) := by
  intro m U hm
  unfold put
  split
  · rename_i e; subst e; rw [h U hm]
  · exact hm
theorem mat_true (S : Ty) : ∀ (T : Ty) (σ : Int → Option Ty), (mat S T σ).1 = true → Grows σ (mat S T σ).2 ∧ ∀ τ, Holds (mat S T σ).2 τ → sub τ S = T := by
  induction S with
  | leaf k t =>
    intro T σ h
    exact ⟨fun _ _ h => h, fun τ _ => (of_decide_eq_true h).symm⟩
  | var n =>
    intro T σ h
    refine ⟨put_grows fun U hU => ?_, fun τ ht => ht n T (by show put σ n T n = _; unfold put; rw [if_pos rfl])⟩
    have h' : (match σ n with | none => true | some U => decide (U = T)) = true := h
    rw [hU] at h'
    exact of_decide_eq_true h'
  | one k s ih =>
    intro T σ h
    match T, h with
    | .one k' s', h =>
      have e : mat (.one k s) (.one k' s') σ = if k = k' then mat s s' σ else (false, σ) := rfl
      rw [e] at h ⊢
      by_cases hk : k = k'
      · rw [if_pos hk] at h ⊢
        subst hk
        obtain ⟨h1, h2⟩ := ih s' σ h
        exact ⟨h1, fun τ ht => by show Ty.one k (sub τ s) = _; rw [h2 τ ht]⟩
      · rw [if_neg hk] at h; cases h
    | .leaf _ _, h => cases h
    | .var _, h => cases h
    | .two _ _ _, h => cases h
  | two k s u ih1 ih2 =>
    intro T σ h
    match T, h with
    | .two k' s' u', h =>
      have e : mat (.two k s u) (.two k' s' u') σ = if k = k' then (if (mat s s' σ).1 then mat u u' (mat s s' σ).2 else (false, (mat s s' σ).2)) else (false, σ) := rfl
      rw [e] at h ⊢
      by_cases hk : k = k'
      · rw [if_pos hk] at h ⊢
        subst hk
        by_cases h1 : (mat s s' σ).1 = true
        · rw [if_pos h1] at h ⊢
          obtain ⟨a1, a2⟩ := ih1 s' σ h1
          obtain ⟨b1, b2⟩ := ih2 u' _ h
          exact ⟨fun n U hU => b1 n U (a1 n U hU), fun τ ht => by
            show Ty.two k (sub τ s) (sub τ u) = _
            rw [a2 τ (fun n U hU => ht n U (b1 n U hU)), b2 τ ht]⟩
        · rw [if_neg h1] at h; cases h
      · rw [if_neg hk] at h; cases h
    | .leaf _ _, h => cases h
    | .var _, h => cases h
    | .one _ _, h => cases h
theorem mat_holds (S : Ty) : ∀ (σ : Int → Option Ty) (τ : Int → Ty), Holds σ τ → (mat S (sub τ S) σ).1 = true ∧ Holds (mat S (sub τ S) σ).2 τ := by
  induction S with
  | leaf k t => intro σ τ h; exact ⟨decide_eq_true rfl, h⟩
  | var n =>
    intro σ τ h
    refine ⟨?_, fun m U hm => ?_⟩
    · show (match σ n with | none => true | some U => decide (U = τ n)) = true
      cases hn : σ n with
      | none => rfl
      | some U => exact decide_eq_true (h n U hn).symm
    · have hm' : put σ n (τ n) m = some U := hm
      unfold put at hm'
      split at hm'
      · rename_i e; subst e; exact Option.some.inj hm'
      · exact h m U hm'
  | one k s ih =>
    intro σ τ h
    have e : mat (.one k s) (sub τ (.one k s)) σ = if k = k then mat s (sub τ s) σ else (false, σ) := rfl
    rw [e, if_pos rfl]
    exact ih σ τ h
  | two k s u ih1 ih2 =>
    intro σ τ h
    have e : mat (.two k s u) (sub τ (.two k s u)) σ = if k = k then (if (mat s (sub τ s) σ).1 then mat u (sub τ u) (mat s (sub τ s) σ).2 else (false, (mat s (sub τ s) σ).2)) else (false, σ) := rfl
    obtain ⟨h1, h2⟩ := ih1 σ τ h
    rw [e, if_pos rfl, if_pos h1]
    exact ih2 _ τ h2
/-- A tree is an instance of another one. -/
def InstT (S T : Ty) : Prop := ∃ τ : Int → Ty, sub τ S = T
theorem mat_iff (S T : Ty) : (mat S T fun _ => none).1 = true ↔ InstT S T := by
  constructor
  · intro h
    obtain ⟨_, h2⟩ := mat_true S T _ h
    refine ⟨fun n => ((mat S T fun _ => none).2 n).getD (.var n), h2 _ fun n U hU => ?_⟩
    show (((mat S T fun _ => none).2 n).getD _) = _
    rw [hU]; rfl
  · rintro ⟨τ, rfl⟩
    exact (mat_holds S _ τ (fun n U h => by cases h)).1
/-- A type is an instance of another one. -/
def Inst (a b : List Part) : Prop := ∃ S T : Ty, S.wf ∧ T.wf ∧ S.size ≤ 200 ∧ T.size ≤ 200 ∧ a = enc 0 S ∧ b = enc 0 T ∧ InstT S T
theorem at_fun (l : List Part) (S : Ty) : ∀ (T : Ty) (i : Nat), S.wf → T.wf → At l S i → At l T i → S = T := by
  induction S with
  | leaf k t =>
    intro T i hS hT hs ht
    have hs : l[i]? = some ⟨k, 0, 0, 0, t⟩ := hs
    match T, hT, ht with
    | .leaf k' t', hT, ht => have ht : l[i]? = some ⟨k', 0, 0, 0, t'⟩ := ht; rw [hs] at ht; injection ht with ht; injection ht with e1 _ _ _ e2; rw [e1, e2]
    | .var n, hT, ht => have ht : l[i]? = some ⟨11, 0, 0, n, []⟩ := ht; rw [hs] at ht; injection ht with ht; injection ht with e1 _ _ _ e2; simp only [Ty.wf] at hS; exfalso; omega
    | .one k' s, hT, ht => obtain ⟨j, _, ht, _⟩ := ht; rw [hs] at ht; injection ht with ht; injection ht with e1 _ _ _ e2; simp only [Ty.wf] at hS hT; exfalso; omega
    | .two k' s u, hT, ht => obtain ⟨j, g, _, ht, _⟩ := ht; rw [hs] at ht; injection ht with ht; injection ht with e1 _ _ _ e2; simp only [Ty.wf] at hS hT; exfalso; omega
  | var n =>
    intro T i hS hT hs ht
    have hs : l[i]? = some ⟨11, 0, 0, n, []⟩ := hs
    match T, hT, ht with
    | .leaf k' t', hT, ht => have ht : l[i]? = some ⟨k', 0, 0, 0, t'⟩ := ht; rw [hs] at ht; injection ht with ht; injection ht with e1 _ _ _ e2; simp only [Ty.wf] at hT; exfalso; omega
    | .var n', hT, ht => have ht : l[i]? = some ⟨11, 0, 0, n', []⟩ := ht; rw [hs] at ht; injection ht with ht; injection ht with e1 _ _ e2 _; rw [e2]
    | .one k' s, hT, ht => obtain ⟨j, _, ht, _⟩ := ht; rw [hs] at ht; injection ht with ht; injection ht with e1 _ _ _ e2; simp only [Ty.wf] at hT; exfalso; omega
    | .two k' s u, hT, ht => obtain ⟨j, g, _, ht, _⟩ := ht; rw [hs] at ht; injection ht with ht; injection ht with e1 _ _ _ e2; simp only [Ty.wf] at hT; exfalso; omega
  | one k s ih =>
    intro T i hS hT hs ht
    obtain ⟨j, rfl, hs, hs1⟩ := hs
    match T, hT, ht with
    | .leaf k' t', hT, ht => have ht : l[j + 1]? = some ⟨k', 0, 0, 0, t'⟩ := ht; rw [hs] at ht; injection ht with ht; injection ht with e1 _ _ _ e2; simp only [Ty.wf] at hS hT; exfalso; omega
    | .var n, hT, ht => have ht : l[j + 1]? = some ⟨11, 0, 0, n, []⟩ := ht; rw [hs] at ht; injection ht with ht; injection ht with e1 _ _ _ e2; simp only [Ty.wf] at hS; exfalso; omega
    | .one k' s', hT, ht => obtain ⟨j', e, ht, ht1⟩ := ht; obtain rfl : j = j' := by omega
                            rw [hs] at ht; injection ht with ht; injection ht with e1 _ _ _ e2; rw [e1, ih s' j hS.2 hT.2 hs1 ht1]
    | .two k' s' u, hT, ht => obtain ⟨j', g, _, ht, _⟩ := ht; rw [hs] at ht; injection ht with ht; injection ht with e1 _ _ _ e2; simp only [Ty.wf] at hS hT; exfalso; omega
  | two k s u ih1 ih2 =>
    intro T i hS hT hs ht
    obtain ⟨j, g, rfl, hs, hs1, hs2, _⟩ := hs
    match T, hT, ht with
    | .leaf k' t', hT, ht => have ht : l[j + 1]? = some ⟨k', 0, 0, 0, t'⟩ := ht; rw [hs] at ht; injection ht with ht; injection ht with e1 _ _ _ e2; simp only [Ty.wf] at hS hT; exfalso; omega
    | .var n, hT, ht => have ht : l[j + 1]? = some ⟨11, 0, 0, n, []⟩ := ht; rw [hs] at ht; injection ht with ht; injection ht with e1 _ _ _ e2; simp only [Ty.wf] at hS; exfalso; omega
    | .one k' s', hT, ht => obtain ⟨j', e, ht, ht1⟩ := ht; rw [hs] at ht; injection ht with ht; injection ht with e1 _ _ _ e2; simp only [Ty.wf] at hS hT; exfalso; omega
    | .two k' s' u', hT, ht => obtain ⟨j', g', e, ht, ht1, ht2, _⟩ := ht; obtain rfl : j = j' := by omega
                               rw [hs] at ht; injection ht with ht; injection ht with e1 e3 _ _ e2; obtain rfl : g = g' := by omega
                               rw [e1, ih1 s' g hS.2.1 hT.2.1 hs1 ht1, ih2 u' j hS.2.2 hT.2.2 hs2 ht2]
theorem enc_inj {S T : Ty} (hS : S.wf) (hT : T.wf) (h : enc 0 S = enc 0 T) : S = T := by
  have h1 := at_of_enc S
  have h2 := at_of_enc T
  rw [← h] at h2
  have hl : S.size = T.size := by rw [← enc_len S 0, ← enc_len T 0, h]
  rw [← hl] at h2
  exact at_fun _ S T _ hS hT h1 h2
theorem sub_sub (τ τ' : Int → Ty) (S : Ty) : sub τ' (sub τ S) = sub (fun n => sub τ' (τ n)) S := by
  induction S with
  | leaf k t => rfl
  | var n => rfl
  | one k s ih => show Ty.one k _ = Ty.one k _; rw [ih]
  | two k s u ih1 ih2 => show Ty.two k _ _ = Ty.two k _ _; rw [ih1, ih2]
theorem sub_var (S : Ty) : sub .var S = S := by
  induction S with
  | leaf k t => rfl
  | var n => rfl
  | one k s ih => show Ty.one k _ = Ty.one k _; rw [ih]
  | two k s u ih1 ih2 => show Ty.two k _ _ = Ty.two k _ _; rw [ih1, ih2]
theorem Inst.trans {a b c : List Part} (h : Inst a b) (h' : Inst b c) : Inst a c := by
  obtain ⟨S, T, hS, hT, zS, zT, rfl, rfl, τ, hτ⟩ := h
  obtain ⟨T', U, hT', hU, _, zU, e, rfl, τ', hτ'⟩ := h'
  have e := enc_inj hT hT' e
  subst e
  exact ⟨S, U, hS, hU, zS, zU, rfl, rfl, _, by rw [← hτ', ← hτ, sub_sub]⟩
theorem Inst.refl_iff (a : List Part) : Inst a a ↔ gTy a = true := by
  rw [gTy_iff]
  constructor
  · rintro ⟨S, _, h, _, z, _, e, _⟩; exact ⟨S, h, e, z⟩
  · rintro ⟨S, h, e, z⟩; exact ⟨S, S, h, h, z, z, e, e, .var, sub_var S⟩
theorem Inst.of_var (n : Int) (hn : 0 ≤ n) {b : List Part} (h : gTy b = true) : Inst [⟨11, 0, 0, n, []⟩] b := by
  obtain ⟨T, hT, e, z⟩ := (gTy_iff b).1 h
  exact ⟨.var n, T, hn, hT, by simp [Ty.size], z, rfl, e, fun _ => T, rfl⟩
/-- No variable. -/
def closed (l : List Part) : Bool := l.all fun p => !(p.k == 11)
theorem closed_sub (S : Ty) : ∀ (o : Nat), S.wf → closed (enc o S) = true → ∀ τ, sub τ S = S := by
  induction S with
  | leaf k t => intro o _ _ τ; rfl
  | var n => intro o _ h τ; simp [closed, enc] at h
  | one k s ih =>
    intro o hw h τ
    have h' : closed (enc o s ++ [_]) = true := h
    unfold closed at h'
    rw [List.all_append, Bool.and_eq_true] at h'
    show Ty.one k _ = _; rw [ih o hw.2 h'.1]
  | two k s u ih1 ih2 =>
    intro o hw h τ
    have h' : closed (enc o s ++ enc (o + s.size) u ++ [_]) = true := h
    unfold closed at h'
    rw [List.all_append, List.all_append, Bool.and_eq_true, Bool.and_eq_true] at h'
    show Ty.two k _ _ = _; rw [ih1 o hw.2.1 h'.1.1, ih2 _ hw.2.2 h'.1.2]
theorem Inst.closed_iff {a : List Part} (h : gTy a = true) (hc : closed a = true) (b : List Part) : Inst a b ↔ a = b := by
  constructor
  · rintro ⟨S, T, hS, hT, _, _, rfl, rfl, τ, hτ⟩
    rw [closed_sub S 0 hS hc] at hτ
    rw [hτ]
  · rintro rfl
    exact (Inst.refl_iff a).2 h
end Go.Proofs.YtcilodgpbdafeaaDoor
