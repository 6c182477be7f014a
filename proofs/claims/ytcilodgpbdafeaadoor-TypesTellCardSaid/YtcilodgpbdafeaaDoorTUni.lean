/- Trees that are made one: the most general way, step by step, on a graph of nodes. -/
import Derived.Test.YtcilodgpbdafeaaDoorTNorm
namespace Go.Proofs.YtcilodgpbdafeaaDoor
set_option linter.unusedVariables false
set_option linter.unusedSimpArgs false
/-- A node: its kind, its text, what it has beneath it, what it stands for by now. -/
structure Nd where
  k : Int
  t : List UInt8
  a : Option Nat
  b : Option Nat
  to : Option Nat
/-- Node g is tree T; a variable that stands for nothing is named by its node. -/
inductive Den (N : Nat → Option Nd) : Nat → Ty → Prop where
  | to {g h : Nat} {nd : Nd} {T : Ty} : N g = some nd → nd.to = some h → Den N h T → Den N g T
  | var {g : Nat} {nd : Nd} : N g = some nd → nd.to = none → nd.a = none → nd.b = none → nd.k = 11 → nd.t = [] → Den N g (.var g)
  | leaf {g : Nat} {nd : Nd} : N g = some nd → nd.to = none → nd.a = none → nd.b = none → nd.k ≠ 11 → Den N g (.leaf nd.k nd.t)
  | one {g h : Nat} {nd : Nd} {S : Ty} : N g = some nd → nd.to = none → nd.a = some h → nd.b = none → nd.t = [] → nd.k ≠ 11 → Den N h S → Den N g (.one nd.k S)
  | two {g h i : Nat} {nd : Nd} {S U : Ty} : N g = some nd → nd.to = none → nd.a = some h → nd.b = some i → nd.t = [] → nd.k ≠ 11 → Den N h S → Den N i U → Den N g (.two nd.k S U)
/-- Node r is what node g is by now, n steps on. -/
inductive Rep (N : Nat → Option Nd) : Nat → Nat → Nat → Prop where
  | here {g : Nat} {nd : Nd} : N g = some nd → nd.to = none → Rep N g g 0
  | step {g h r n : Nat} {nd : Nd} : N g = some nd → nd.to = some h → Rep N h r n → Rep N g r (n + 1)
section
variable {N : Nat → Option Nd}
theorem Den.fn {g : Nat} {T T' : Ty} (h : Den N g T) (h' : Den N g T') : T = T' := by
  induction h generalizing T' with
  | to e1 e2 _ ih =>
    cases h' with
    | to f1 f2 k => rw [e1] at f1; cases f1; rw [e2] at f2; cases f2; exact ih k
    | var f1 f2 => rw [e1] at f1; cases f1; rw [e2] at f2; cases f2
    | leaf f1 f2 => rw [e1] at f1; cases f1; rw [e2] at f2; cases f2
    | one f1 f2 => rw [e1] at f1; cases f1; rw [e2] at f2; cases f2
    | two f1 f2 => rw [e1] at f1; cases f1; rw [e2] at f2; cases f2
  | var e1 e2 e3 e4 e5 =>
    cases h' with
    | to f1 f2 k => rw [e1] at f1; cases f1; rw [e2] at f2; cases f2
    | var f1 f2 => rfl
    | leaf f1 f2 f3 f4 f5 => rw [e1] at f1; cases f1; exact absurd e5 f5
    | one f1 f2 f3 => rw [e1] at f1; cases f1; rw [e3] at f3; cases f3
    | two f1 f2 f3 => rw [e1] at f1; cases f1; rw [e3] at f3; cases f3
  | leaf e1 e2 e3 e4 e5 =>
    cases h' with
    | to f1 f2 k => rw [e1] at f1; cases f1; rw [e2] at f2; cases f2
    | var f1 f2 f3 f4 f5 => rw [e1] at f1; cases f1; exact absurd f5 e5
    | leaf f1 f2 => rw [e1] at f1; cases f1; rfl
    | one f1 f2 f3 => rw [e1] at f1; cases f1; rw [e3] at f3; cases f3
    | two f1 f2 f3 => rw [e1] at f1; cases f1; rw [e3] at f3; cases f3
  | one e1 e2 e3 e4 e5 e6 _ ih =>
    cases h' with
    | to f1 f2 k => rw [e1] at f1; cases f1; rw [e2] at f2; cases f2
    | var f1 f2 f3 => rw [e1] at f1; cases f1; rw [e3] at f3; cases f3
    | leaf f1 f2 f3 => rw [e1] at f1; cases f1; rw [e3] at f3; cases f3
    | one f1 f2 f3 f4 f5 f6 k => rw [e1] at f1; cases f1; rw [e3] at f3; cases f3; rw [ih k]
    | two f1 f2 f3 f4 => rw [e1] at f1; cases f1; rw [e4] at f4; cases f4
  | two e1 e2 e3 e4 e5 e6 _ _ ih1 ih2 =>
    cases h' with
    | to f1 f2 k => rw [e1] at f1; cases f1; rw [e2] at f2; cases f2
    | var f1 f2 f3 => rw [e1] at f1; cases f1; rw [e3] at f3; cases f3
    | leaf f1 f2 f3 => rw [e1] at f1; cases f1; rw [e3] at f3; cases f3
    | one f1 f2 f3 f4 => rw [e1] at f1; cases f1; rw [e4] at f4; cases f4
    | two f1 f2 f3 f4 f5 f6 k1 k2 => rw [e1] at f1; cases f1; rw [e3] at f3; cases f3; rw [e4] at f4; cases f4; rw [ih1 k1, ih2 k2]
theorem Rep.fn {g r r' n n' : Nat} (h : Rep N g r n) (h' : Rep N g r' n') : r = r' ∧ n = n' := by
  induction h generalizing r' n' with
  | here e1 e2 =>
    cases h' with
    | here => exact ⟨rfl, rfl⟩
    | step f1 f2 => rw [e1] at f1; cases f1; rw [e2] at f2; cases f2
  | step e1 e2 _ ih =>
    cases h' with
    | here f1 f2 => rw [e1] at f1; cases f1; rw [e2] at f2; cases f2
    | step f1 f2 k =>
      rw [e1] at f1; cases f1; rw [e2] at f2; cases f2
      obtain ⟨h1, h2⟩ := ih k
      exact ⟨h1, by rw [h2]⟩
theorem Rep.root {g r n : Nat} (h : Rep N g r n) : ∃ nd, N r = some nd ∧ nd.to = none := by
  induction h with
  | here e1 e2 => exact ⟨_, e1, e2⟩
  | step _ _ _ ih => exact ih
/-- Each node that is a tree stands for one by now. -/
theorem Den.rep {g : Nat} {T : Ty} (h : Den N g T) : ∃ r n, Rep N g r n ∧ Den N r T := by
  induction h with
  | to e1 e2 h ih => obtain ⟨r, n, h1, h2⟩ := ih; exact ⟨r, n + 1, .step e1 e2 h1, h2⟩
  | var e1 e2 e3 e4 e5 e6 => exact ⟨_, 0, .here e1 e2, .var e1 e2 e3 e4 e5 e6⟩
  | leaf e1 e2 e3 e4 e5 => exact ⟨_, 0, .here e1 e2, .leaf e1 e2 e3 e4 e5⟩
  | one e1 e2 e3 e4 e5 e6 h _ => exact ⟨_, 0, .here e1 e2, .one e1 e2 e3 e4 e5 e6 h⟩
  | two e1 e2 e3 e4 e5 e6 h k _ _ => exact ⟨_, 0, .here e1 e2, .two e1 e2 e3 e4 e5 e6 h k⟩
theorem Rep.den {g r n : Nat} {T : Ty} (h : Rep N g r n) (hd : Den N g T) : Den N r T := by
  obtain ⟨r', n', h1, h2⟩ := hd.rep
  obtain ⟨rfl, _⟩ := h.fn h1
  exact h2
end
def occ (v : Int) : Ty → Bool
  | .leaf _ _ => false
  | .var n => n == v
  | .one _ s => occ v s
  | .two _ s u => occ v s || occ v u
/-- One node turned. -/
def upd (N : Nat → Option Nd) (g h : Nat) : Nat → Option Nd := fun x => if x = g then (N g).map fun nd => { nd with to := some h } else N x
theorem upd_other {N : Nat → Option Nd} {g h x : Nat} (hx : x ≠ g) : upd N g h x = N x := if_neg hx
theorem upd_same {N : Nat → Option Nd} {g h : Nat} {nd : Nd} (hn : N g = some nd) : upd N g h g = some { nd with to := some h } := by unfold upd; rw [if_pos rfl, hn]; rfl
/-- For a variable a tree. -/
def bind1 (v : Int) (T : Ty) : Int → Ty := fun n => if n = v then T else .var n
theorem sub_occ {v : Int} {T S : Ty} (h : occ v S = false) : sub (bind1 v T) S = S := by
  induction S with
  | leaf k t => rfl
  | var n =>
    show bind1 v T n = _
    unfold bind1
    rw [if_neg]
    rintro rfl
    simp [occ] at h
  | one k s ih => show Ty.one k _ = _; rw [ih h]
  | two k s u ih1 ih2 =>
    have h' : (occ v s || occ v u) = false := h
    rw [Bool.or_eq_false_iff] at h'
    show Ty.two k _ _ = _; rw [ih1 h'.1, ih2 h'.2]
section
variable {N : Nat → Option Nd}
/-- A variable is bound to what it is not in: whatever has it not stays. -/
theorem Den.stays {v h g : Nat} {S : Ty} (hv : Den N v (.var v)) (hr : ∃ nd, N v = some nd ∧ nd.to = none) (hd : Den N g S) (ho : occ v S = false) : Den (upd N v h) g S := by
  have hne : ∀ {g : Nat} {S : Ty}, Den N g S → occ v S = false → g ≠ v := by
    rintro g S hg ho rfl
    have := hg.fn hv
    subst this
    simp [occ] at ho
  induction hd with
  | to e1 e2 k ih =>
    have hg := hne (.to e1 e2 k) ho
    exact .to (by rw [upd_other hg]; exact e1) e2 (ih ho)
  | var e1 e2 e3 e4 e5 e6 =>
    have hg := hne (.var e1 e2 e3 e4 e5 e6) ho
    exact .var (by rw [upd_other hg]; exact e1) e2 e3 e4 e5 e6
  | leaf e1 e2 e3 e4 e5 =>
    have hg := hne (.leaf e1 e2 e3 e4 e5) ho
    exact .leaf (by rw [upd_other hg]; exact e1) e2 e3 e4 e5
  | one e1 e2 e3 e4 e5 e6 k ih =>
    have hg := hne (.one e1 e2 e3 e4 e5 e6 k) ho
    exact .one (by rw [upd_other hg]; exact e1) e2 e3 e4 e5 e6 (ih ho)
  | two e1 e2 e3 e4 e5 e6 k1 k2 ih1 ih2 =>
    have hg := hne (.two e1 e2 e3 e4 e5 e6 k1 k2) ho
    have h' := Bool.or_eq_false_iff.1 ho
    exact .two (by rw [upd_other hg]; exact e1) e2 e3 e4 e5 e6 (ih1 h'.1) (ih2 h'.2)
/-- A variable is bound to what it is not in: every tree has that in its place. -/
theorem Den.bound {v h g : Nat} {S T : Ty} (hv : Den N v (.var v)) (hr : ∃ nd, N v = some nd ∧ nd.to = none) (hh : Den N h T) (ho : occ v T = false) (hd : Den N g S) : Den (upd N v h) g (sub (bind1 v T) S) := by
  have hT := Den.stays (h := h) hv hr hh ho
  obtain ⟨nv, hv1, hv2⟩ := hr
  have hV : Den (upd N v h) v T := .to (upd_same hv1) rfl hT
  induction hd with
  | @to g h' nd T' e1 e2 k ih =>
    have hg : g ≠ v := by rintro rfl; rw [hv1] at e1; cases e1; rw [hv2] at e2; cases e2
    exact .to (by rw [upd_other hg]; exact e1) e2 ih
  | @var g nd e1 e2 e3 e4 e5 e6 =>
    by_cases hg : g = v
    · subst hg
      show Den _ g (bind1 g T g)
      unfold bind1
      rw [if_pos rfl]
      exact hV
    · show Den _ g (bind1 v T g)
      unfold bind1
      rw [if_neg (by omega)]
      exact .var (by rw [upd_other hg]; exact e1) e2 e3 e4 e5 e6
  | @leaf g nd e1 e2 e3 e4 e5 =>
    have hg : g ≠ v := by
      rintro rfl
      have := (Den.leaf e1 e2 e3 e4 e5).fn hv
      cases this
    exact .leaf (by rw [upd_other hg]; exact e1) e2 e3 e4 e5
  | @one g h' nd S' e1 e2 e3 e4 e5 e6 k ih =>
    have hg : g ≠ v := by
      rintro rfl
      have := (Den.one e1 e2 e3 e4 e5 e6 k).fn hv
      cases this
    exact .one (by rw [upd_other hg]; exact e1) e2 e3 e4 e5 e6 ih
  | @two g h' i nd S' U' e1 e2 e3 e4 e5 e6 k1 k2 ih1 ih2 =>
    have hg : g ≠ v := by
      rintro rfl
      have := (Den.two e1 e2 e3 e4 e5 e6 k1 k2).fn hv
      cases this
    exact .two (by rw [upd_other hg]; exact e1) e2 e3 e4 e5 e6 ih1 ih2
/-- A node that is no variable stands for another one that is the same tree: each tree stays. -/
theorem Den.merged {a b : Nat} {T : Ty} (ha : Den N a T) (ra : ∃ nd, N a = some nd ∧ nd.to = none) (hb : Den N b T) (rb : ∃ nd, N b = some nd ∧ nd.to = none) (hne : a ≠ b) (hT : ∀ n, T ≠ .var n) :
    ∀ (n : Nat) (g : Nat) (S : Ty), S.size ≤ n → Den N g S → Den (upd N a b) g S := by
  intro n
  induction n with
  | zero => intro g S hs; have := S.size_pos; omega
  | succ n ihn =>
    have hB : T.size ≤ n + 1 → Den (upd N a b) b T := by
      intro hs
      obtain ⟨nb, b1, b2⟩ := rb
      have hab : upd N a b b = some nb := by rw [upd_other (Ne.symm hne)]; exact b1
      cases hb with
      | to e1 e2 k => rw [b1] at e1; cases e1; rw [b2] at e2; cases e2
      | var e1 => exact absurd rfl (hT _)
      | leaf e1 e2 e3 e4 e5 => rw [b1] at e1; cases e1; exact .leaf hab e2 e3 e4 e5
      | one e1 e2 e3 e4 e5 e6 k => rw [b1] at e1; cases e1; exact .one hab e2 e3 e4 e5 e6 (ihn _ _ (by simp only [Ty.size] at hs; omega) k)
      | two e1 e2 e3 e4 e5 e6 k1 k2 => rw [b1] at e1; cases e1; exact .two hab e2 e3 e4 e5 e6 (ihn _ _ (by simp only [Ty.size] at hs; omega) k1) (ihn _ _ (by simp only [Ty.size] at hs; omega) k2)
    intro g S hs hd
    by_cases hg : g = a
    · subst hg
      obtain rfl := hd.fn ha
      obtain ⟨na, a1, _⟩ := ra
      exact .to (upd_same a1) rfl (hB hs)
    · induction hd with
      | to e1 e2 k ih =>
        refine .to (by rw [upd_other hg]; exact e1) e2 ?_
        rename_i g' h' nd' T'
        by_cases hh : h' = a
        · subst hh
          obtain rfl := k.fn ha
          obtain ⟨na, a1, _⟩ := ra
          exact .to (upd_same a1) rfl (hB hs)
        · exact ih hs hh
      | var e1 e2 e3 e4 e5 e6 => exact .var (by rw [upd_other hg]; exact e1) e2 e3 e4 e5 e6
      | leaf e1 e2 e3 e4 e5 => exact .leaf (by rw [upd_other hg]; exact e1) e2 e3 e4 e5
      | one e1 e2 e3 e4 e5 e6 k _ => exact .one (by rw [upd_other hg]; exact e1) e2 e3 e4 e5 e6 (ihn _ _ (by simp only [Ty.size] at hs; omega) k)
      | two e1 e2 e3 e4 e5 e6 k1 k2 _ _ => exact .two (by rw [upd_other hg]; exact e1) e2 e3 e4 e5 e6 (ihn _ _ (by simp only [Ty.size] at hs; omega) k1) (ihn _ _ (by simp only [Ty.size] at hs; omega) k2)
end
/-- The most general way to make two trees one. -/
def Mgu (θ : Int → Ty) (S T : Ty) : Prop := sub θ S = sub θ T ∧ ∀ τ, sub τ S = sub τ T → ∀ n, sub τ (θ n) = τ n
theorem sub_congr {τ τ' : Int → Ty} (h : ∀ n, τ n = τ' n) (S : Ty) : sub τ S = sub τ' S := by
  have : τ = τ' := funext h
  rw [this]
theorem Mgu.id (S : Ty) : Mgu .var S S := ⟨rfl, fun _ _ _ => rfl⟩
theorem occ_size {v : Int} {T : Ty} (h : occ v T = true) (hT : T ≠ .var v) (τ : Int → Ty) : (τ v).size < (sub τ T).size := by
  have hle : ∀ T : Ty, occ v T = true → (τ v).size ≤ (sub τ T).size := by
    intro T
    induction T with
    | leaf k t => intro h; cases h
    | var n => intro h; rw [beq_iff_eq.1 h]; exact Nat.le_refl _
    | one k s ih => intro h; have := ih h; show _ ≤ (sub τ s).size + 1; omega
    | two k s u ih1 ih2 =>
      intro h
      show _ ≤ (sub τ s).size + (sub τ u).size + 1
      rcases Bool.or_eq_true_iff.1 h with h | h
      · have := ih1 h; omega
      · have := ih2 h; omega
  cases T with
  | leaf k t => cases h
  | var n => exact absurd (by rw [beq_iff_eq.1 h]) hT
  | one k s => have := hle s h; show _ < (sub τ s).size + 1; omega
  | two k s u =>
    show _ < (sub τ s).size + (sub τ u).size + 1
    rcases Bool.or_eq_true_iff.1 h with h | h
    · have := hle s h; omega
    · have := hle u h; omega
/-- A variable in a greater tree: there is no way. -/
theorem no_occ {v : Int} {T : Ty} (h : occ v T = true) (hT : T ≠ .var v) (τ : Int → Ty) : sub τ (.var v) ≠ sub τ T := by
  intro e
  have h1 := occ_size h hT τ
  have e' : τ v = sub τ T := e
  rw [← e'] at h1
  omega
theorem Mgu.bind {v : Int} {T : Ty} (ho : occ v T = false) : Mgu (bind1 v T) (.var v) T := by
  refine ⟨?_, fun τ h n => ?_⟩
  · rw [sub_occ ho]
    show bind1 v T v = T
    unfold bind1; rw [if_pos rfl]
  · unfold bind1
    split
    · rename_i e; subst e; exact h.symm
    · rfl
theorem Mgu.symm {θ : Int → Ty} {S T : Ty} (h : Mgu θ S T) : Mgu θ T S := ⟨h.1.symm, fun τ e n => h.2 τ e.symm n⟩
theorem Mgu.one {θ : Int → Ty} {S T : Ty} (h : Mgu θ S T) (k : Int) : Mgu θ (.one k S) (.one k T) :=
  ⟨by show Ty.one k _ = Ty.one k _; rw [h.1], fun τ e n => h.2 τ (by have e' : Ty.one k _ = Ty.one k _ := e; injection e') n⟩
theorem Mgu.two {θ θ' : Int → Ty} {S T U V : Ty} (h : Mgu θ S T) (h' : Mgu θ' (sub θ U) (sub θ V)) (k : Int) : Mgu (fun n => sub θ' (θ n)) (.two k S U) (.two k T V) := by
  refine ⟨?_, fun τ e n => ?_⟩
  · show Ty.two k _ _ = Ty.two k _ _
    rw [← sub_sub, ← sub_sub, ← sub_sub, ← sub_sub, h.1, h'.1]
  · have e' : Ty.two k (sub τ S) (sub τ U) = Ty.two k (sub τ T) (sub τ V) := e
    injection e' with _ e1 e2
    have h1 := h.2 τ e1
    have h2 := h'.2 τ (by rw [sub_sub, sub_sub, sub_congr h1, sub_congr h1]; exact e2)
    show sub τ (sub θ' (θ n)) = τ n
    rw [sub_sub, sub_congr h2, h1]
theorem no_two {θ : Int → Ty} {S T U V : Ty} (h : Mgu θ S T) (h' : ∀ τ, sub τ (sub θ U) ≠ sub τ (sub θ V)) (k k' : Int) (τ : Int → Ty) : sub τ (.two k S U) ≠ sub τ (.two k' T V) := by
  intro e
  have e' : Ty.two k (sub τ S) (sub τ U) = Ty.two k' (sub τ T) (sub τ V) := e
  injection e' with _ e1 e2
  have h1 := h.2 τ e1
  exact h' τ (by rw [sub_sub, sub_sub, sub_congr h1, sub_congr h1]; exact e2)
/-- All variables are of a list. -/
def vin (L : List Int) : Ty → Prop
  | .leaf _ _ => True
  | .var n => n ∈ L
  | .one _ s => vin L s
  | .two _ s u => vin L s ∧ vin L u
theorem vin_mono {L L' : List Int} (h : ∀ x ∈ L, x ∈ L') (T : Ty) : vin L T → vin L' T := by
  induction T with
  | leaf k t => intro _; trivial
  | var n => exact h n
  | one k s ih => exact ih
  | two k s u ih1 ih2 => exact fun h => ⟨ih1 h.1, ih2 h.2⟩
theorem vin_sub {L : List Int} {θ : Int → Ty} (h : ∀ x ∈ L, vin L (θ x)) (T : Ty) : vin L T → vin L (sub θ T) := by
  induction T with
  | leaf k t => intro _; trivial
  | var n => exact h n
  | one k s ih => exact ih
  | two k s u ih1 ih2 => exact fun h => ⟨ih1 h.1, ih2 h.2⟩
/-- A step either turns nothing or has one variable fewer behind it. -/
def Fewer (L : List Int) (θ : Int → Ty) : Prop := (∀ n, θ n = .var n) ∨ ∃ v ∈ L, ∀ x ∈ L, vin (L.filter (· ≠ v)) (θ x)
theorem vin_subF {L L' : List Int} {θ : Int → Ty} (h : ∀ x ∈ L, vin L' (θ x)) (T : Ty) : vin L T → vin L' (sub θ T) := by
  induction T with
  | leaf k t => intro _; trivial
  | var n => exact h n
  | one k s ih => exact ih
  | two k s u ih1 ih2 => exact fun h => ⟨ih1 h.1, ih2 h.2⟩
theorem sub_id {θ : Int → Ty} (h : ∀ n, θ n = .var n) (T : Ty) : sub θ T = T := (sub_congr h T).trans (sub_var T)
theorem vin_noocc {L : List Int} {v : Int} (T : Ty) : vin L T → occ v T = false → vin (L.filter (· ≠ v)) T := by
  induction T with
  | leaf k t => intro _ _; trivial
  | var n =>
    intro h ho
    refine List.mem_filter.2 ⟨h, ?_⟩
    have ho' : (n == v) = false := ho
    simpa using ho'
  | one k s ih => exact ih
  | two k s u ih1 ih2 => intro h ho; have h' := Bool.or_eq_false_iff.1 ho; exact ⟨ih1 h.1 h'.1, ih2 h.2 h'.2⟩
theorem Fewer.bind {L : List Int} {v : Int} {T : Ty} (hv : v ∈ L) (hT : vin L T) (ho : occ v T = false) : Fewer L (bind1 v T) := by
  refine .inr ⟨v, hv, fun x hx => ?_⟩
  unfold bind1
  split
  · exact vin_noocc T hT ho
  · rename_i hne; exact List.mem_filter.2 ⟨hx, by simpa using hne⟩
theorem filter_len {L : List Int} {v : Int} (h : v ∈ L) : (L.filter (· ≠ v)).length < L.length := List.length_filter_lt_length_iff_exists.2 ⟨v, h, by simp⟩
theorem Fewer.comp {L : List Int} {θ θ' : Int → Ty} {v : Int} (hv : v ∈ L) (h : ∀ x ∈ L, vin (L.filter (· ≠ v)) (θ x)) (h' : Fewer (L.filter (· ≠ v)) θ') : Fewer L fun n => sub θ' (θ n) := by
  rcases h' with hid | ⟨u, hu, h'⟩
  · refine .inr ⟨v, hv, fun x hx => ?_⟩
    show vin _ (sub θ' (θ x))
    rw [sub_id hid]
    exact h x hx
  · have hu' := (List.mem_filter.1 hu).1
    refine .inr ⟨u, hu', fun x hx => ?_⟩
    refine vin_mono (fun y hy => ?_) _ (vin_subF h' _ (h x hx))
    have h1 := List.mem_filter.1 hy
    exact List.mem_filter.2 ⟨(List.mem_filter.1 h1.1).1, h1.2⟩
end Go.Proofs.YtcilodgpbdafeaaDoor
