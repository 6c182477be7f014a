/- The faults of a tree, and of a function of a name around it. -/
import Derived.Test.YtphojigdapaaiaaDoorZBh
import Derived.LoopN
import Derived.StillTailTactics
import Derived.Test.YtphojigdapaaiaaDoorZBc
import Derived.Test.YtphojigdapaaiaaDoorZBd
namespace Go.Proofs.YtphojigdapaaiaaDoor
set_option linter.unusedVariables false
set_option linter.unusedSimpArgs false
def LeB (b c : List Bool) : Prop := b.length = c.length ∧ ∀ i, b.getD i false = true → c.getD i false = true
theorem LeB.refl (b : List Bool) : LeB b b := ⟨rfl, fun _ h => h⟩
theorem getD_set (b : List Bool) (k i : Nat) (v : Bool) : (b.set k v).getD i false = if k = i ∧ i < b.length then v else b.getD i false := by
  rw [List.getD_eq_getElem?_getD, List.getD_eq_getElem?_getD, List.getElem?_set]
  by_cases h : k = i
  · subst h
    by_cases h2 : k < b.length
    · simp [h2]
    · simp [h2]
  · simp [h]
theorem LeB.set {b c : List Bool} (h : LeB b c) (k : Nat) {v u : Bool} (hv : v = true → u = true) : LeB (b.set k v) (c.set k u) := by
  refine ⟨by rw [List.length_set, List.length_set]; exact h.1, fun i hi => ?_⟩
  rw [getD_set] at hi ⊢
  rw [← h.1]
  by_cases h2 : k = i ∧ i < b.length
  · rw [if_pos h2] at hi ⊢; exact hv hi
  · rw [if_neg h2] at hi ⊢; exact h.2 i hi
theorem nameLe {t : Tre} {k : Nat} {S R : NS} (hm : S.met = R.met) (hb : LeB S.bad R.bad) : (nameStep k (nd t k) S).2 = (nameStep k (nd t k) R).2 ∧ (nameStep k (nd t k) S).1.met = (nameStep k (nd t k) R).1.met ∧ LeB (nameStep k (nd t k) S).1.bad (nameStep k (nd t k) R).1.bad := by
  unfold nameStep
  rw [hm]
  split
  · split
    · exact ⟨rfl, rfl, hb.set _ fun h => h⟩
    · exact ⟨rfl, rfl, hb⟩
  · exact ⟨rfl, hm, hb⟩
theorem names_le {t : Tre} (n : Nat) : ∀ (k : Nat) (S R : NS), S.met = R.met → LeB S.bad R.bad → (namesF t n k S).met = (namesF t n k R).met ∧ LeB (namesF t n k S).bad (namesF t n k R).bad := by
  induction n with
  | zero => intro k S R hm hb; exact ⟨hm, hb⟩
  | succ n ih =>
    intro k S R hm hb
    obtain ⟨h1, h2, h3⟩ := nameLe (t := t) (k := k) hm hb
    simp only [namesF]
    rw [h1]
    generalize (nameStep k (nd t k) S).1 = S1 at h2 h3
    generalize (nameStep k (nd t k) R).1 = R1 at h2 h3
    generalize kidsS (nd t (nameStep k (nd t k) R).2) = ks
    induction ks generalizing S1 R1 with
    | nil => exact ⟨h2, h3⟩
    | cons c ks ih2 =>
      obtain ⟨h4, h5⟩ := ih c.toNat S1 R1 h2 h3
      exact ih2 _ _ h4 h5
def LeN (B C : KS → Int) : Prop := ∀ s, 0 ≤ B s ∧ B s ≤ C s
theorem LeN.add {B C : KS → Int} (h : LeN B C) (l : List KS) : LeN (addB B l) (addB C l) := fun s => by
  have := h s
  unfold addB
  omega
theorem LeN.met {B C : KS → Int} (h : LeN B C) (m : KS → Option Nat) : LeN (addM B m) (addM C m) := fun s => by
  have := h s
  unfold addM
  split <;> omega
theorem expr_le {t : Tre} (n : Nat) : ∀ (k : Nat) (B C : KS → Int) (b c : List Bool), LeN B C → LeB c b → LeB (exprS t n k C c) (exprS t n k B b) := by
  induction n with
  | zero => intro k B C b c _ h; exact h
  | succ n ih =>
    intro k B C b c hB hb
    simp only [exprS]
    split
    · refine hb.set _ fun h => ?_
      have h1 := of_decide_eq_true h
      have h2 := hB (nd t k).t
      exact decide_eq_true (by omega)
    split
    · exact ih _ _ _ _ _ (hB.add _) hb
    split
    · exact ih _ _ _ _ _ (hB.add _) (ih _ _ _ _ _ hB hb)
    split
    · exact ih _ _ _ _ _ (hB.add _) (ih _ _ _ _ _ (hB.add _) hb)
    split
    · exact ih _ _ _ _ _ (hB.add _) (ih _ _ _ _ _ hB hb)
    split
    · have h1 := ih (nd t k).a.toNat B C b c hB hb
      generalize exprS t n (nd t k).a.toNat C c = c1 at h1
      generalize exprS t n (nd t k).a.toNat B b = b1 at h1
      generalize (nd t k).b = ci
      generalize 501 = m
      have hcl : ∀ (m : Nat) (ci : Int) (b1 c1 : List Bool), LeB c1 b1 → LeB (clF (exprS t n) t m ci C c1) (clF (exprS t n) t m ci B b1) := by
        intro m
        induction m with
        | zero => intro ci b1 c1 h; exact h
        | succ m ihm =>
          intro ci b1 c1 h
          simp only [clF]
          split
          · exact h
          · obtain ⟨h2, h3⟩ := names_le (t := t) 501 (nd t ci.toNat).a.toNat ⟨c1, fun _ => none⟩ ⟨b1, fun _ => none⟩ rfl h
            rw [h2]
            exact ihm _ _ _ (ih _ _ _ _ _ (hB.met _) h3)
      exact hcl m ci b1 c1 h1
    · generalize kidsS (nd t k) = ks
      induction ks generalizing b c with
      | nil => exact hb
      | cons x ks ih2 => exact ih2 _ _ (ih _ _ _ _ _ hB hb)
theorem expr_same {t : Tre} {name : KS} (hv : ∀ k, k < t.l.length → (nd t k).k = 5 → (nd t k).t ≠ name) (hs : Shp t) (n : Nat) : ∀ (k : Nat) (B C : KS → Int) (b : List Bool), k < t.l.length → (∀ s, s ≠ name → B s = C s) → exprS t n k B b = exprS t n k C b := by
  induction n with
  | zero => intro k B C b _ _; rfl
  | succ n ih =>
    intro k B C b hk hB
    have hadd : ∀ l, ∀ s, s ≠ name → addB B l s = addB C l s := fun l s h => by unfold addB; rw [hB s h]
    have hmet : ∀ m, ∀ s, s ≠ name → addM B m s = addM C m s := fun m s h => by unfold addM; rw [hB s h]
    have h1 := hs.one k hk
    have h2 := hs.two k hk
    simp only [exprS]
    split
    · rename_i h5
      rw [hB _ (hv k hk h5)]
    split
    · rename_i h
      have ha := h1 (.inl h)
      exact ih _ _ _ _ (by unfold InR at ha; omega) (hadd _)
    split
    · rename_i h
      have ha := h1 (.inr (.inl h))
      have hb := h2 (.inl h)
      rw [ih (nd t k).a.toNat B C b (by unfold InR at ha; omega) hB]
      exact ih _ _ _ _ (by unfold InR at hb; omega) (hadd _)
    split
    · rename_i h
      have ha := h1 (.inr (.inr (.inl h)))
      have hb := h2 (.inr (.inl h))
      rw [ih (nd t k).a.toNat _ _ b (by unfold InR at ha; omega) (hadd _)]
      exact ih _ _ _ _ (by unfold InR at hb; omega) (hadd _)
    split
    · rename_i h
      have ha := h1 (.inr (.inr (.inr (.inl h))))
      have hb := h2 (.inr (.inr (.inl h)))
      rw [ih (nd t k).a.toNat B C b (by unfold InR at ha; omega) hB]
      exact ih _ _ _ _ (by unfold InR at hb; omega) (hadd _)
    split
    · rename_i h
      have ha := h1 (.inr (.inr (.inr (.inr (.inl h)))))
      have hb := h2 (.inr (.inr (.inr (.inl h))))
      rw [ih (nd t k).a.toNat B C b (by unfold InR at ha; omega) hB]
      generalize exprS t n (nd t k).a.toNat C b = b1
      have hcl : ∀ (m : Nat) (ci : Int) (b1 : List Bool), (ci < 0 ∨ InR t.l.length ci ∧ (nd t ci.toNat).k = 19) → clF (exprS t n) t m ci B b1 = clF (exprS t n) t m ci C b1 := by
        intro m
        induction m with
        | zero => intro ci b1 _; rfl
        | succ m ihm =>
          intro ci b1 hc
          simp only [clF]
          split
          · rfl
          · rename_i h0
            rcases hc with hc | ⟨hc, hk9⟩
            · exact absurd hc h0
            · have hcl : ci.toNat < t.l.length := by unfold InR at hc; omega
              have hb9 := hs.two ci.toNat hcl (.inr (.inr (.inr (.inr hk9))))
              rw [ih _ _ _ _ (by unfold InR at hb9; omega) (hmet _)]
              refine ihm _ _ ?_
              rcases hs.cl2 ci.toNat hcl hk9 with h | ⟨h, h9⟩
              · exact .inl h
              · exact .inr ⟨⟨h.1, by unfold InR at h; omega⟩, h9⟩
      exact hcl _ _ _ (.inr ⟨⟨hb.1, by unfold InR at hb; omega⟩, hs.cl k hk h⟩)
    · have hks := hs.kids k hk
      generalize kidsS (nd t k) = ks at hks
      induction ks generalizing b with
      | nil => rfl
      | cons x ks ih2 =>
        simp only [List.foldl_cons]
        have hx := hks x (List.mem_cons_self ..)
        rw [ih x.toNat B C b (by unfold InR at hx; omega) hB]
        exact ih2 _ (fun c hc => hks c (List.mem_cons_of_mem _ hc))
section
variable {t : Tre} {z : Nod}
theorem nd_ext {k : Nat} (h : k < t.l.length) : nd (ext t z) k = nd t k := by
  unfold nd
  rw [List.getD_eq_getElem?_getD, List.getD_eq_getElem?_getD, ext_get h]
theorem nd_ext_at : nd (ext t z) t.l.length = z := by
  unfold nd
  rw [List.getD_eq_getElem?_getD, ext_at]
  rfl
theorem set_app {b : List Bool} {v : Bool} {k : Nat} {u : Bool} (h : k < b.length) : (b ++ [u]).set k v = b.set k v ++ [u] := by
  rw [List.set_append_left _ _ h]
theorem chain_ext (hs : Shp t) (ty : KS) : ∀ (m : Nat) (c i : Int) (M : CM), (c < 0 ∨ InR t.l.length c ∧ (nd t c.toNat).k = 43) → conChain (ext t z) ty m c i M = conChain t ty m c i M := by
  intro m
  induction m with
  | zero => intro c i M _; rfl
  | succ m ih =>
    intro c i M hc
    simp only [conChain]
    split
    · rfl
    · rename_i h0
      rcases hc with hc | ⟨hc, hk⟩
      · exact absurd hc h0
      · have hl : c.toNat < t.l.length := by unfold InR at hc; omega
        rw [nd_ext hl]
        refine ih _ _ _ ?_
        rcases hs.con c.toNat hl hk with h | ⟨h, h9⟩
        · exact .inl h
        · exact .inr ⟨⟨h.1, by unfold InR at h; omega⟩, h9⟩
theorem consL_ext (hs : Shp t) : ∀ (ys : List Int) (M : CM), (∀ k ∈ ys, k ∈ t.y) → consL (ext t z) ys M = consL t ys M := by
  intro ys
  induction ys with
  | nil => intro M _; rfl
  | cons k ys ih =>
    intro M hy
    simp only [consL]
    have hk := hs.ty k (hy k (List.mem_cons_self ..))
    have hl : k.toNat < t.l.length := by have := hk.1; unfold InR at this; omega
    have hd := hs.data k.toNat hl hk.2
    rw [nd_ext hl, chain_ext hs _ _ _ _ _ (.inr ⟨⟨hd.1.1, by have := hd.1.2; omega⟩, hd.2⟩)]
    exact ih _ (fun x hx => hy x (List.mem_cons_of_mem _ hx))
theorem conMap_ext (hs : Shp t) : conMap (ext t z) = conMap t := consL_ext hs _ _ (fun _ h => h)
def TS.app (S : TS) : TS := { S with bad := S.bad ++ [false] }
theorem met_ext (hs : Shp t) : ∀ (m : Nat) (c : Int) (S : TS), (c < 0 ∨ InR t.l.length c ∧ (nd t c.toNat).k = 43) → S.bad.length = t.l.length → metChain (ext t z) m c S.app = (metChain t m c S).app ∧ (metChain t m c S).bad.length = t.l.length := by
  intro m
  induction m with
  | zero => intro c S _ hl; exact ⟨rfl, hl⟩
  | succ m ih =>
    intro c S hc hl
    simp only [metChain]
    split
    · exact ⟨rfl, hl⟩
    · rename_i h0
      rcases hc with hc | ⟨hc, hk⟩
      · exact absurd hc h0
      · have hlt : c.toNat < t.l.length := by unfold InR at hc; omega
        rw [nd_ext hlt]
        have e : metStep c.toNat (nd t c.toNat) S.app = (metStep c.toNat (nd t c.toNat) S).app := by
          unfold metStep TS.app
          simp only
          rw [set_app (by rw [hl]; exact hlt)]
        rw [e]
        refine ih _ _ ?_ (by show (S.bad.set _ _).length = _; rw [List.length_set]; exact hl)
        rcases hs.con c.toNat hlt hk with h | ⟨h, h9⟩
        · exact .inl h
        · exact .inr ⟨⟨h.1, by unfold InR at h; omega⟩, h9⟩
theorem typesL_ext (hs : Shp t) : ∀ (ys : List Int) (S : TS), (∀ k ∈ ys, k ∈ t.y) → S.bad.length = t.l.length → typesL (ext t z) ys S.app = (typesL t ys S).app ∧ (typesL t ys S).bad.length = t.l.length := by
  intro ys
  induction ys with
  | nil => intro S _ hl; exact ⟨rfl, hl⟩
  | cons k ys ih =>
    intro S hy hl
    simp only [typesL]
    have hk := hs.ty k (hy k (List.mem_cons_self ..))
    have hlt : k.toNat < t.l.length := by have := hk.1; unfold InR at this; omega
    have hd := hs.data k.toNat hlt hk.2
    rw [nd_ext hlt]
    have e : tyStep k.toNat (nd t k.toNat) S.app = (tyStep k.toNat (nd t k.toNat) S).app := by
      unfold tyStep TS.app
      simp only
      rw [set_app (by rw [hl]; exact hlt)]
    rw [e]
    obtain ⟨h1, h2⟩ := met_ext (z := z) hs 501 (nd t k.toNat).a (tyStep k.toNat (nd t k.toNat) S) (.inr ⟨⟨hd.1.1, by have := hd.1.2; omega⟩, hd.2⟩) (by show (S.bad.set _ _).length = _; rw [List.length_set]; exact hl)
    rw [h1]
    exact ih _ (fun x hx => hy x (List.mem_cons_of_mem _ hx)) h2
theorem nodeB_len (M : CM) (N : KS → Bool) (k : Nat) (x : Nod) (b : List Bool) : (nodeB M N k x b).length = b.length := by
  unfold nodeB
  split
  · rw [List.length_set]
  split
  · rw [List.length_set]
  · rfl
theorem nodesB_len (M : CM) (N : KS → Bool) (k : Nat) (b : List Bool) : (nodesB t M N k b).length = b.length := by
  induction k with
  | zero => rfl
  | succ k ih => simp only [nodesB]; rw [nodeB_len, ih]
theorem nodesB_ext (M : CM) (N : KS → Bool) (b : List Bool) (hl : b.length = t.l.length) : ∀ k, k ≤ t.l.length → nodesB (ext t z) M N k (b ++ [false]) = nodesB t M N k b ++ [false] := by
  intro k
  induction k with
  | zero => intro _; rfl
  | succ k ih =>
    intro hk
    simp only [nodesB]
    rw [nd_ext (by omega), ih (by omega)]
    have hlen : k < (nodesB t M N k b).length := by rw [nodesB_len, hl]; omega
    unfold nodeB
    split
    · rw [set_app hlen]
    split
    · rw [set_app hlen]
    · rfl
theorem marks_ext (hs : Shp t) (hz : z.k = 10) (M : CM) (b : List Bool) (hl : b.length = t.l.length) : marksF (ext t z) M (b ++ [false]) = marksF t M b ++ [false] ∧ (marksF t M b).length = t.l.length := by
  obtain ⟨h1, h2⟩ := typesL_ext (z := z) hs t.y ⟨b, fun _ => false, fun _ => false⟩ (fun _ h => h) hl
  unfold marksF
  rw [show (ext t z).y = t.y from rfl, show (⟨b ++ [false], fun _ => false, fun _ => false⟩ : TS) = TS.app ⟨b, fun _ => false, fun _ => false⟩ from rfl, h1, ext_len]
  refine ⟨?_, by rw [nodesB_len, h2]⟩
  simp only [nodesB]
  rw [nd_ext_at]
  show nodeB M _ t.l.length z (nodesB (ext t z) M _ t.l.length ((typesL t t.y ⟨b, fun _ => false, fun _ => false⟩).bad ++ [false])) = _
  rw [nodesB_ext M _ _ h2 _ (Nat.le_refl _)]
  unfold nodeB
  rw [if_neg (by omega), if_neg (by omega)]
  rfl
theorem name_ext {k : Nat} (hk : k < t.l.length) {S : NS} (hl : S.bad.length = t.l.length) (hm : ∀ s i, S.met s = some i → i < t.l.length) :
    nameStep k (nd t k) ⟨S.bad ++ [false], S.met⟩ = (⟨(nameStep k (nd t k) S).1.bad ++ [false], (nameStep k (nd t k) S).1.met⟩, (nameStep k (nd t k) S).2) ∧ (nameStep k (nd t k) S).1.bad.length = t.l.length ∧ (∀ s i, (nameStep k (nd t k) S).1.met s = some i → i < t.l.length) ∧ (nameStep k (nd t k) S).2 < t.l.length := by
  have hput : ∀ (s : KS) (v : Nat), v < t.l.length → ∀ x i, put S.met s v x = some i → i < t.l.length := by
    intro s v hv x i h
    unfold put at h
    split at h
    · rw [← Option.some.inj h]; exact hv
    · exact hm x i h
  unfold nameStep
  split
  · simp only
    cases hms : S.met (nd t k).t with
    | some a =>
      have ha := hm _ _ hms
      simp only
      refine ⟨?_, by rw [List.length_set]; exact hl, hput _ _ (by omega), by omega⟩
      rw [set_app (by rw [hl]; omega)]
    | none => exact ⟨rfl, hl, hput _ _ hk, hk⟩
  · exact ⟨rfl, hl, hm, hk⟩
theorem names_ext (hs : Shp t) (n : Nat) : ∀ (k : Nat) (S : NS), k < t.l.length → S.bad.length = t.l.length → (∀ s i, S.met s = some i → i < t.l.length) →
    namesF (ext t z) n k ⟨S.bad ++ [false], S.met⟩ = ⟨(namesF t n k S).bad ++ [false], (namesF t n k S).met⟩ ∧ (namesF t n k S).bad.length = t.l.length ∧ (∀ s i, (namesF t n k S).met s = some i → i < t.l.length) := by
  induction n with
  | zero => intro k S _ hl hm; exact ⟨rfl, hl, hm⟩
  | succ n ih =>
    intro k S hk hl hm
    obtain ⟨h1, h2, h3, h4⟩ := name_ext hk hl hm
    simp only [namesF]
    rw [nd_ext hk, h1]
    simp only
    rw [nd_ext h4]
    have hks := hs.kids _ h4
    generalize (nameStep k (nd t k) S).2 = k1 at h4 hks
    generalize (nameStep k (nd t k) S).1 = S1 at h2 h3
    generalize kidsS (nd t k1) = ks at hks
    clear h1
    induction ks generalizing S1 with
    | nil => exact ⟨rfl, h2, h3⟩
    | cons c ks ih2 =>
      have hc := hks c (List.mem_cons_self ..)
      obtain ⟨h5, h6, h7⟩ := ih c.toNat S1 (by unfold InR at hc; omega) h2 h3
      simp only [List.foldl_cons]
      rw [h5]
      exact ih2 _ h6 h7 (fun x hx => hks x (List.mem_cons_of_mem _ hx))
theorem expr_ext (hs : Shp t) (n : Nat) : ∀ (k : Nat) (B : KS → Int) (b : List Bool), k < t.l.length → b.length = t.l.length → exprS (ext t z) n k B (b ++ [false]) = exprS t n k B b ++ [false] ∧ (exprS t n k B b).length = t.l.length := by
  induction n with
  | zero => intro k B b _ hl; exact ⟨rfl, hl⟩
  | succ n ih =>
    intro k B b hk hl
    have h1 := hs.one k hk
    have h2 := hs.two k hk
    simp only [exprS]
    rw [nd_ext hk]
    split
    · exact ⟨set_app (by rw [hl]; exact hk), by rw [List.length_set]; exact hl⟩
    split
    · rename_i h
      have ha := h1 (.inl h)
      exact ih _ _ _ (by unfold InR at ha; omega) hl
    split
    · rename_i h
      have ha := h1 (.inr (.inl h))
      have hb := h2 (.inl h)
      obtain ⟨h3, h4⟩ := ih (nd t k).a.toNat B b (by unfold InR at ha; omega) hl
      rw [h3]
      exact ih _ _ _ (by unfold InR at hb; omega) h4
    split
    · rename_i h
      have ha := h1 (.inr (.inr (.inl h)))
      have hb := h2 (.inr (.inl h))
      obtain ⟨h3, h4⟩ := ih (nd t k).a.toNat (addB B [(nd t k).t, (nd t k).t2]) b (by unfold InR at ha; omega) hl
      rw [h3]
      exact ih _ _ _ (by unfold InR at hb; omega) h4
    split
    · rename_i h
      have ha := h1 (.inr (.inr (.inr (.inl h))))
      have hb := h2 (.inr (.inr (.inl h)))
      obtain ⟨h3, h4⟩ := ih (nd t k).a.toNat B b (by unfold InR at ha; omega) hl
      rw [h3]
      exact ih _ _ _ (by unfold InR at hb; omega) h4
    split
    · rename_i h
      have ha := h1 (.inr (.inr (.inr (.inr (.inl h)))))
      have hb := h2 (.inr (.inr (.inr (.inl h))))
      obtain ⟨h3, h4⟩ := ih (nd t k).a.toNat B b (by unfold InR at ha; omega) hl
      rw [h3]
      generalize exprS t n (nd t k).a.toNat B b = b1 at h4
      have hcl : ∀ (m : Nat) (ci : Int) (b1 : List Bool), (ci < 0 ∨ InR t.l.length ci ∧ (nd t ci.toNat).k = 19) → b1.length = t.l.length → clF (exprS (ext t z) n) (ext t z) m ci B (b1 ++ [false]) = clF (exprS t n) t m ci B b1 ++ [false] ∧ (clF (exprS t n) t m ci B b1).length = t.l.length := by
        intro m
        induction m with
        | zero => intro ci b1 _ hl; exact ⟨rfl, hl⟩
        | succ m ihm =>
          intro ci b1 hc hl1
          simp only [clF]
          split
          · exact ⟨rfl, hl1⟩
          · rename_i h0
            rcases hc with hc | ⟨hc, hk9⟩
            · exact absurd hc h0
            · have hcl : ci.toNat < t.l.length := by unfold InR at hc; omega
              have ha9 := hs.one ci.toNat hcl (.inr (.inr (.inr (.inr (.inr hk9)))))
              have hb9 := hs.two ci.toNat hcl (.inr (.inr (.inr (.inr hk9))))
              rw [nd_ext hcl]
              obtain ⟨h5, h6, h7⟩ := names_ext (z := z) hs 501 (nd t ci.toNat).a.toNat ⟨b1, fun _ => none⟩ (by unfold InR at ha9; omega) hl1 (fun s i h => by cases h)
              rw [h5]
              obtain ⟨h8, h9⟩ := ih (nd t ci.toNat).b.toNat (addM B (namesF t 501 (nd t ci.toNat).a.toNat ⟨b1, fun _ => none⟩).met) _ (by unfold InR at hb9; omega) h6
              rw [h8]
              refine ihm _ _ ?_ h9
              rcases hs.cl2 ci.toNat hcl hk9 with h | ⟨h, h9⟩
              · exact .inl h
              · exact .inr ⟨⟨h.1, by unfold InR at h; omega⟩, h9⟩
      exact hcl _ _ _ (.inr ⟨⟨hb.1, by unfold InR at hb; omega⟩, hs.cl k hk h⟩) h4
    · have hks := hs.kids k hk
      generalize kidsS (nd t k) = ks at hks
      induction ks generalizing b with
      | nil => exact ⟨rfl, hl⟩
      | cons x ks ih2 =>
        simp only [List.foldl_cons]
        have hx := hks x (List.mem_cons_self ..)
        obtain ⟨h3, h4⟩ := ih x.toNat B b (by unfold InR at hx; omega) hl
        rw [h3]
        exact ih2 _ h4 (fun c hc => hks c (List.mem_cons_of_mem _ hc))
end
theorem expr_fuel {t : Tre} (hs : Shp t) (n : Nat) : ∀ (k : Nat) (B : KS → Int) (b : List Bool), k < t.l.length → k < n → exprS t (n + 1) k B b = exprS t n k B b := by
  induction n with
  | zero => intro k B b _ h; omega
  | succ n ih =>
    intro k B b hk hkn
    have h1 := hs.one k hk
    have h2 := hs.two k hk
    conv => lhs; rw [exprS]
    conv => rhs; rw [exprS]
    split
    · rfl
    split
    · rename_i h
      have ha := h1 (.inl h)
      exact ih _ _ _ (by unfold InR at ha; omega) (by unfold InR at ha; omega)
    split
    · rename_i h
      have ha := h1 (.inr (.inl h))
      have hb := h2 (.inl h)
      rw [ih (nd t k).a.toNat B b (by unfold InR at ha; omega) (by unfold InR at ha; omega)]
      exact ih _ _ _ (by unfold InR at hb; omega) (by unfold InR at hb; omega)
    split
    · rename_i h
      have ha := h1 (.inr (.inr (.inl h)))
      have hb := h2 (.inr (.inl h))
      rw [ih (nd t k).a.toNat _ b (by unfold InR at ha; omega) (by unfold InR at ha; omega)]
      exact ih _ _ _ (by unfold InR at hb; omega) (by unfold InR at hb; omega)
    split
    · rename_i h
      have ha := h1 (.inr (.inr (.inr (.inl h))))
      have hb := h2 (.inr (.inr (.inl h)))
      rw [ih (nd t k).a.toNat B b (by unfold InR at ha; omega) (by unfold InR at ha; omega)]
      exact ih _ _ _ (by unfold InR at hb; omega) (by unfold InR at hb; omega)
    split
    · rename_i h
      have ha := h1 (.inr (.inr (.inr (.inr (.inl h)))))
      have hb := h2 (.inr (.inr (.inr (.inl h))))
      rw [ih (nd t k).a.toNat B b (by unfold InR at ha; omega) (by unfold InR at ha; omega)]
      generalize exprS t n (nd t k).a.toNat B b = b1
      have hcl : ∀ (m : Nat) (ci : Int) (b1 : List Bool), (ci < 0 ∨ InR k ci ∧ (nd t ci.toNat).k = 19) → clF (exprS t (n + 1)) t m ci B b1 = clF (exprS t n) t m ci B b1 := by
        intro m
        induction m with
        | zero => intro ci b1 _; rfl
        | succ m ihm =>
          intro ci b1 hc
          simp only [clF]
          split
          · rfl
          · rename_i h0
            rcases hc with hc | ⟨hc, hk9⟩
            · exact absurd hc h0
            · have hcl : ci.toNat < t.l.length := by unfold InR at hc; omega
              have hb9 := hs.two ci.toNat hcl (.inr (.inr (.inr (.inr hk9))))
              rw [ih _ _ _ (by unfold InR at hb9; omega) (by unfold InR at hb9 hc; omega)]
              refine ihm _ _ ?_
              rcases hs.cl2 ci.toNat hcl hk9 with h | ⟨h, h9⟩
              · exact .inl h
              · exact .inr ⟨⟨h.1, by unfold InR at h hc; omega⟩, h9⟩
      exact hcl _ _ _ (.inr ⟨hb, hs.cl k hk h⟩)
    · have hks := hs.kids k hk
      generalize kidsS (nd t k) = ks at hks
      induction ks generalizing b with
      | nil => rfl
      | cons x ks ih2 =>
        simp only [List.foldl_cons]
        have hx := hks x (List.mem_cons_self ..)
        rw [ih x.toNat B b (by unfold InR at hx; omega) (by unfold InR at hx; omega)]
        exact ih2 _ (fun c hc => hks c (List.mem_cons_of_mem _ hc))
section
variable {t : Tre} {name : KS}
theorem bad_ext (hs : Shp t) (hn : 1 ≤ t.l.length) (hr : t.r = (t.l.length : Int) - 1) :
    badF (ext t (funN name t.r)) = exprS t 501 t.r.toNat (addB (fun _ => 0) (bindL name)) (marksF t (conMap t) (List.replicate t.l.length false)) ++ [false] := by
  have hlen := hs.len
  obtain ⟨h1, h2⟩ := marks_ext (z := funN name t.r) hs rfl (conMap t) (List.replicate t.l.length false) List.length_replicate
  unfold badF
  rw [conMap_ext hs, ext_len, List.replicate_succ', h1]
  generalize marksF t (conMap t) (List.replicate t.l.length false) = b0 at h2
  show exprS (ext t (funN name t.r)) (500 + 1) ((t.l.length : Int)).toNat _ _ = _
  rw [exprS, Int.toNat_natCast, nd_ext_at]
  rw [if_neg (show ¬ (funN name t.r).k = 5 by show ¬ (10 : Int) = 5; decide), if_pos (show (funN name t.r).k = 10 from rfl)]
  show exprS (ext t (funN name t.r)) 500 t.r.toNat (addB (fun _ => 0) (bindL name)) (b0 ++ [false]) = _
  rw [(expr_ext hs 500 _ _ _ (by omega) h2).1, expr_fuel hs 500 _ _ _ (by omega) (by omega)]
theorem idx_app {b : List Bool} : (b ++ [false]).findIdx? id = b.findIdx? id := by
  rw [List.findIdx?_append]
  cases b.findIdx? id <;> simp
theorem bad_len (hs : Shp t) (hn : 1 ≤ t.l.length) (hr : t.r = (t.l.length : Int) - 1) (B : KS → Int) : (exprS t 501 t.r.toNat B (marksF t (conMap t) (List.replicate t.l.length false))).length = t.l.length :=
  (expr_ext (z := z0) hs 501 _ _ _ (by omega) (marks_ext (z := funN [] 0) hs rfl (conMap t) (List.replicate t.l.length false) List.length_replicate).2).2
theorem fault_same (hs : Shp t) (hn : 1 ≤ t.l.length) (hr : t.r = (t.l.length : Int) - 1) (hv : ∀ k, k < t.l.length → (nd t k).k = 5 → (nd t k).t ≠ name) : faultF (ext t (funN name t.r)) = faultF t := by
  have h1 : badF (ext t (funN name t.r)) = badF t ++ [false] := by
    rw [bad_ext hs hn hr]
    unfold badF
    rw [expr_same hv hs 501 _ (addB (fun _ => 0) (bindL name)) (fun _ => 0) _ (by omega) (fun s h => by
      unfold addB bindL
      split
      · simp
      · rw [List.count_eq_zero_of_not_mem (by simpa using h)]; rfl)]
  unfold faultF
  rw [h1, idx_app]
  have h2 := bad_len hs hn hr (fun _ => 0)
  cases hx : (badF t).findIdx? id with
  | none => rfl
  | some k =>
    have hk := (List.findIdx?_eq_some_iff_getElem.1 hx).1
    have h3 : (badF t).length = t.l.length := h2
    simp only
    rw [nd_ext (by omega)]
theorem fault_none (hs : Shp t) (hn : 1 ≤ t.l.length) (hr : t.r = (t.l.length : Int) - 1) (h : (faultF t).1 = 0) : (faultF (ext t (funN name t.r))).1 = 0 := by
  have h1 : (badF t).findIdx? id = none := by
    unfold faultF at h
    cases hx : (badF t).findIdx? id with
    | none => rfl
    | some k => rw [hx] at h; exact absurd (show (13 : Int) = 0 from h) (by decide)
  have h2 : (badF (ext t (funN name t.r))).findIdx? id = none := by
    rw [bad_ext hs hn hr, idx_app, List.findIdx?_eq_none_iff]
    have h3 : LeB (exprS t 501 t.r.toNat (addB (fun _ => 0) (bindL name)) (marksF t (conMap t) (List.replicate t.l.length false))) (badF t) :=
      expr_le 501 _ _ _ _ _ (fun s => ⟨Int.le_refl _, by show (0 : Int) ≤ 0 + ((bindL name).count s : Int); omega⟩) (LeB.refl _)
    intro v hv
    obtain ⟨i, hi⟩ := List.mem_iff_getElem?.1 hv
    cases v with
    | false => rfl
    | true =>
      have h4 := h3.2 i (by rw [List.getD_eq_getElem?_getD, hi]; rfl)
      rw [List.getD_eq_getElem?_getD] at h4
      cases h5 : (badF t)[i]? with
      | none => rw [h5] at h4; cases h4
      | some u =>
        rw [h5] at h4
        obtain rfl : u = true := h4
        have := (List.findIdx?_eq_none_iff.1 h1) true (List.mem_of_getElem? h5)
        cases this
  unfold faultF
  rw [h2]
end
end Go.Proofs.YtphojigdapaaiaaDoor
namespace Go.Proofs.YtphojigdapaaiaaDoor
open Go.ChangeShapes Go.WideShapes Go.ChangeAt Go.RowKit
set_option linter.unusedVariables false
set_option linter.unusedSimpArgs false
def RowEnd (ty : TypeId) (xs : List Value) (w : World) (e : Ending) (w' : World) : Prop := ∃ (A : Option Addr) (c : Nat), e = .returned (.slice A xs.length c) ∧ w'.ownsRow w.heap.size ty 1 (.slice A xs.length c) xs.length xs ∧ Below w.heap.size w w'
theorem RowEnd.nil (ty : TypeId) {w w' : World} (hb : Below w.heap.size w w') : RowEnd ty [] w (.returned (.slice none 0 0)) w' := ⟨none, 0, rfl, ⟨rfl, .inl ⟨rfl, rfl⟩⟩, hb⟩
theorem RowEnd.new (ty : TypeId) (xs : List Value) {w w' : World} (hb : Below w.heap.size w w') (hn : xs.length ≤ maxLen) : RowEnd ty xs w (.returned (.slice (some ⟨w'.heap.size, 0, none⟩) xs.length xs.length)) (w'.alloc (.cells xs.toArray ty)) :=
  ⟨_, _, rfl, own_new w' hb.size (by simp) hn, hb.alloc hb.size _⟩
set_option maxRecDepth 100000 in
set_option maxHeartbeats 8000000 in
theorem c40 (s : KS) (w : World) : Calls Tryd.prog 40 #[strV s] w (RowEnd 9 ((bindL s).map strV) w) := by
  show Calls Tryd.prog 40 #[.string ⟨s.toArray⟩] w _
  by_cases h : s = [95]
  · have ff : (s == [95]) = true := beq_iff_eq.2 h
    have HB := Lib.hid (show (bindL s).map strV = [] by unfold bindL; rw [if_pos h]; rfl)
    clear h
    go_enter Tryd.func40, Tryd.ntmps40
    go_wp2_with fail
    go_ret
    rw [HB.out]
    exact RowEnd.nil 9 (Below.refl _ _)
  · have ff : (s == [95]) = false := beq_false_of_ne h
    have HB := Lib.hid (show (bindL s).map strV = [strV s] by unfold bindL; rw [if_neg h]; rfl)
    clear h
    go_enter Tryd.func40, Tryd.ntmps40
    go_wp2_with fail
    go_ret
    rw [HB.out]
    exact RowEnd.new 9 [strV s] (Below.refl _ _) (by unfold maxLen; simp)
set_option maxRecDepth 100000 in
set_option maxHeartbeats 8000000 in
theorem c42 {t : Tre} {A A' : Option Addr} {c c' : Nat} (k : Nat) (x : Nod) (w : World) (hT : TreIs w A A' t) (hx : t.l[k]? = some x) :
    Calls Tryd.prog 42 #[treV A c A' c' t, .int .i64 (k : Int)] w (RowEnd 3 ((kidsS x).map intV) w) := by
  have hk : k < t.l.length := (List.getElem?_eq_some_iff.1 hx).1
  have hX := Blk.new w 25 #[.slice A t.l.length c, .slice A' t.y.length c', .int .i64 t.r]
  have hb0 := below_new w (.cells #[.slice A t.l.length c, .slice A' t.y.length c', .int .i64 t.r] 25)
  have HT := Lib.hid (hT.next hb0)
  have HB0 := Lib.hid hb0
  have HX := Lib.hid hX
  clear hT hb0 hX
  show Calls Tryd.prog 42 #[.agg #[.slice A t.l.length c, .slice A' t.y.length c', .int .i64 t.r], .int .i64 (k : Int)] w _
  generalize hw0 : w.alloc (.cells #[.slice A t.l.length c, .slice A' t.y.length c', .int .i64 t.r] 25) = w0 at HT HB0 HX
  go_enter Tryd.func42, Tryd.ntmps42
  go_upto_region 1 with fail
  clear hw0
  generalize hxb : w.heap.size = xb at HX ⊢
  have HXB := Lib.hid hxb
  clear hxb
  have i1 : (0 : Int) ≤ (k : Int) := by omega
  have i2 : (k : Int) < (t.l.length : Int) := by omega
  obtain ⟨ad, rfl, _, hcs⟩ := HT.out.nodes.nodAt hx
  have HCS := Lib.hid hcs
  have x0 : w0.cell? ⟨xb, 0, none⟩ = some (.slice (some ad) t.l.length c) := HX.out.cell 0
  clear hcs hx hk
  have hN := Blk.new w0 30 #[.int .i64 x.k, strV x.t, strV x.t2, .int .i64 x.n, .int .i64 x.a, .int .i64 x.b, .int .i64 x.c, .int .i64 x.h]
  have hb1 := below_new w0 (.cells #[.int .i64 x.k, strV x.t, strV x.t2, .int .i64 x.n, .int .i64 x.a, .int .i64 x.b, .int .i64 x.c, .int .i64 x.h] 30)
  generalize hw1 : w0.alloc (.cells #[.int .i64 x.k, strV x.t, strV x.t2, .int .i64 x.n, .int .i64 x.a, .int .i64 x.b, .int .i64 x.c, .int .i64 x.h] 30) = w1 at hN hb1
  have HN1 := Lib.hid hN
  have HB1 := Lib.hid (next_ HB0.out hb1)
  clear hN hb1
  go_upto_region 2 with (refine wpList_load_at rfl 30 (.tmp 12) rfl (ad.add (k * 8)) rfl [.int .i64 x.k, strV x.t, strV x.t2, .int .i64 x.n, .int .i64 x.a, .int .i64 x.b, .int .i64 x.c, .int .i64 x.h] _ HCS.out Tryd.underlying30 rfl (by kernel_rfl) ?_)
  clear hw1 x0 i1 i2
  generalize w0.heap.size = nb at HN1 ⊢
  have n0 : w1.cell? ⟨nb, 0, none⟩ = some (.int .i64 x.k) := HN1.out.cell 0
  have n1 : w1.cell? ⟨nb, 1, none⟩ = some (strV x.t) := HN1.out.cell 1
  have n2 : w1.cell? ⟨nb, 2, none⟩ = some (strV x.t2) := HN1.out.cell 2
  have n3 : w1.cell? ⟨nb, 3, none⟩ = some (.int .i64 x.n) := HN1.out.cell 3
  have n4 : w1.cell? ⟨nb, 4, none⟩ = some (.int .i64 x.a) := HN1.out.cell 4
  have n5 : w1.cell? ⟨nb, 5, none⟩ = some (.int .i64 x.b) := HN1.out.cell 5
  have n6 : w1.cell? ⟨nb, 6, none⟩ = some (.int .i64 x.c) := HN1.out.cell 6
  have n7 : w1.cell? ⟨nb, 7, none⟩ = some (.int .i64 x.h) := HN1.out.cell 7
  by_cases h1 : x.k = 32 ∨ x.k = 33 ∨ x.k = 8 ∨ x.k = 9 ∨ x.k = 11 ∨ x.k = 15 ∨ x.k = 16 ∨ x.k = 17
  · have HK := Lib.hid (show (kidsS x).map intV = [intV x.a, intV x.b] by unfold kidsS; rw [if_pos h1]; rfl)
    rcases h1 with h1 | h1 | h1 | h1 | h1 | h1 | h1 | h1
    all_goals (
      rw [h1] at n0
      clear h1
      go_wp2_with fail
      go_ret
      rw [HK.out]
      exact RowEnd.new 3 [intV x.a, intV x.b] HB1.out (by unfold maxLen; simp))
  by_cases h2 : x.k = 14
  · have HK := Lib.hid (show (kidsS x).map intV = [intV x.a, intV x.b, intV x.c] by unfold kidsS; rw [if_neg h1, if_pos h2]; rfl)
    rw [h2] at n0
    clear h1 h2
    go_wp2_with fail
    go_ret
    rw [HK.out]
    exact RowEnd.new 3 [intV x.a, intV x.b, intV x.c] HB1.out (by unfold maxLen; simp)
  by_cases h3 : x.k = 20 ∨ x.k = 22 ∨ x.k = 23
  · have HK := Lib.hid (show (kidsS x).map intV = [intV x.a] by unfold kidsS; rw [if_neg h1, if_neg h2, if_pos h3]; rfl)
    clear h1 h2
    rcases h3 with h3 | h3 | h3
    all_goals (
      rw [h3] at n0
      clear h3
      go_wp2_with fail
      go_ret
      rw [HK.out]
      exact RowEnd.new 3 [intV x.a] HB1.out (by unfold maxLen; simp))
  by_cases h4 : x.k = 34 ∨ x.k = 6
  · by_cases h9 : 0 ≤ x.a
    · have HK := Lib.hid (show (kidsS x).map intV = [intV x.a] by unfold kidsS; rw [if_neg h1, if_neg h2, if_neg h3, if_pos h4, if_pos h9]; rfl)
      clear h1 h2 h3
      rcases h4 with h4 | h4
      all_goals (
        rw [h4] at n0
        clear h4
        go_wp2_with fail
        go_ret
        rw [HK.out]
        exact RowEnd.new 3 [intV x.a] HB1.out (by unfold maxLen; simp))
    · have HK := Lib.hid (show (kidsS x).map intV = [] by unfold kidsS; rw [if_neg h1, if_neg h2, if_neg h3, if_pos h4, if_neg h9]; rfl)
      clear h1 h2 h3
      rcases h4 with h4 | h4
      all_goals (
        rw [h4] at n0
        clear h4
        go_wp2_with fail
        go_ret
        rw [HK.out]
        exact RowEnd.nil 3 HB1.out)
  by_cases h5 : x.k = 24
  · have HK := Lib.hid (show kidsS x = [x.a, x.b, x.c].filter (fun c => decide (0 ≤ c)) by unfold kidsS; rw [if_neg h1, if_neg h2, if_neg h3, if_neg h4, if_pos h5])
    have HKK := Lib.hid (show x.k = 24 from h5)
    rw [h5] at n0
    clear h1 h2 h3 h4 h5
    obtain ⟨i3, fi3, hz0, hz1, hz2⟩ := info_parts int_info
    have H3 := Lib.hid (show i3.zero = some (.int .i64 0) ∧ i3.size = 1 ∧ i3.bytes = 8 from ⟨hz0, hz1, hz2⟩)
    clear hz0 hz1 hz2
    have hs3 := Blk.new w1 3 #[.int .i64 x.a, .int .i64 x.b, .int .i64 x.c]
    have hb3 := below_new w1 (.cells #[.int .i64 x.a, .int .i64 x.b, .int .i64 x.c] 3)
    have HN3 := Lib.hid (HN1.out.next hb3)
    have HB3 := Lib.hid (next_ HB1.out hb3)
    generalize hw3 : w1.alloc (.cells #[.int .i64 x.a, .int .i64 x.b, .int .i64 x.c] 3) = w3 at hs3 hb3 HN3 HB3
    have HS3 := Lib.hid hs3
    clear hs3 hb3
    go_upto_region 26 with fail
    clear hw3 n0 n1 n2 n3 n4 n5 n6 n7 HN1 HB1
    generalize w1.heap.size = sb at HS3 ⊢
    go_loopw [66, 6] (fun iv lv wr => ∃ (j : Nat) (A1 : Option Addr) (c1 : Nat) (l : List Int), j ≤ 3 ∧ l = ([x.a, x.b, x.c].take j).filter (fun c => decide (0 ≤ c)) ∧ l.length ≤ 3 ∧ blkOf A1 ≠ some sb ∧ iv = .int .i64 j ∧ lv = .slice A1 l.length c1 ∧
        wr.ownsRow w.heap.size 3 1 (.slice A1 l.length c1) l.length (l.map intV) ∧ Below w.heap.size w wr ∧ Blk wr nb 30 #[.int .i64 24, strV x.t, strV x.t2, .int .i64 x.n, .int .i64 x.a, .int .i64 x.b, .int .i64 x.c, .int .i64 x.h] ∧ Blk wr sb 3 #[.int .i64 x.a, .int .i64 x.b, .int .i64 x.c]) (fun iv _ _ => 3 - (intOf iv).toNat)
    case atStart => exact ⟨0, none, 0, [], by omega, rfl, by simp, (fun h => by cases h), rfl, rfl, ⟨rfl, .inl ⟨rfl, rfl⟩⟩, HB3.out, by have h9 := HN3.out; rw [HKK.out] at h9; exact h9, HS3.out⟩
    case round =>
      obtain ⟨j, A1, c1, l, hj, hle, hl3, hne, rfl, rfl, ho, hb, hn, hs⟩ := hrel
      have HNE := Lib.hid hne
      have HO := Lib.hid ho
      have HB := Lib.hid hb
      have HN := Lib.hid hn
      have HS := Lib.hid hs
      have HLE := Lib.hid hle
      have HLL := Lib.hid hl3
      clear ho hb hn hs hle hl3 hne HN3 HB3 HS3
      have n0 : wr.cell? ⟨nb, 0, none⟩ = some (.int .i64 24) := HN.out.cell 0
      have s0 : wr.cell? ⟨sb, 0, none⟩ = some (.int .i64 x.a) := HS.out.cell 0
      have s1 : wr.cell? ⟨sb, 1, none⟩ = some (.int .i64 x.b) := HS.out.cell 1
      have s2 : wr.cell? ⟨sb, 2, none⟩ = some (.int .i64 x.c) := HS.out.cell 2
      rcases (by omega : j = 0 ∨ j = 1 ∨ j = 2 ∨ j = 3) with rfl | rfl | rfl | rfl
      · by_cases hv : 0 ≤ x.a
        · have HLE2 := Lib.hid (show l ++ [x.a] = ([x.a, x.b, x.c].take 1).filter (fun c => decide (0 ≤ c)) by
            rw [List.take_add_one, List.filter_append, ← HLE.out]
            congr 1
            show [x.a] = [x.a].filter (fun c => decide (0 ≤ c))
            simp [hv])
          have HL2 := Lib.hid (show (l ++ [x.a]).length ≤ 3 by rw [HLE2.out]; exact Nat.le_trans (List.length_filter_le _ _) (by simp))
          go_upto_region 30 with (at_builtin; refine wpList_append_any _ rfl (.tmp 82) (.tmp 84) 23 rfl w.heap.size 3 i3 _ 1 8 Tryd.underlying23 fi3 H3.out.1 H3.out.2.1 H3.out.2.2 rfl (by omega) (.slice A1 l.length c1) l.length (l.map intV) rfl (own_next HO.out (below_new _ _)) (wr.heap.size + 1) (some ⟨wr.heap.size, 0, none⟩) 1 1 [intV x.a] rfl (reads_blkN (Blk.new wr 3 #[intV x.a]) rfl) (int_one [x.a]) (by unfold maxLen; have := HLL.out; omega) (by have := HLL.out; omega) (by rw [World.size_alloc]; have := HB.out.size; omega) ?_; intro v1 w7 oA gA nA)
          have hN7 := blk_row (HN.out.next (below_new wr (.cells #[intV x.a] 3))) (own_next HO.out (below_new wr (.cells #[intV x.a] 3))) gA (by decide)
          have hS7 := (HS.out.next (below_new wr (.cells #[intV x.a] 3))).grown gA (by rw [own_blkOf]; exact fun e => HNE.out e.symm)
          obtain ⟨A2, c2, rfl⟩ := own_form oA
          have hne2 : blkOf A2 ≠ some sb := by
            rw [own_blkOf, own_blkOf] at nA
            rcases nA with nA | nA
            · rw [nA]; exact HNE.out
            · rw [nA, World.size_alloc]
              intro e
              have := Option.some.inj e
              have := HS.out.lt
              omega
          have hB7 : Below w.heap.size w w7 := (HB.out.alloc HB.out.size (.cells #[intV x.a] 3)).grown gA (by rw [World.size_alloc]; have := HB.out.size; omega) (fun i hi => (HO.out.lt i hi).1)
          have HN7 := Lib.hid hN7
          have HS7 := Lib.hid hS7
          have HNE7 := Lib.hid hne2
          have HB7 := Lib.hid hB7
          have HO7 := Lib.hid oA
          clear oA gA nA hN7 hS7 hne2 hB7 n0 s0 s1 s2
          go_wp2_with fail
          go_roundw
          case rel => exact ⟨1, A2, c2, l ++ [x.a], by omega, HLE2.out, HL2.out, HNE7.out, by go_num, by rw [List.length_append]; rfl, by rw [List.length_append, List.map_append]; exact HO7.out, HB7.out, HN7.out, HS7.out⟩
          case measure => simp [intOf]
        · have HLE2 := Lib.hid (show l = ([x.a, x.b, x.c].take 1).filter (fun c => decide (0 ≤ c)) by
            rw [List.take_add_one, List.filter_append, ← HLE.out]
            show l = l ++ [x.a].filter (fun c => decide (0 ≤ c))
            simp [hv])
          go_wp2_with fail
          go_roundw
          case rel => exact ⟨1, A1, c1, l, by omega, HLE2.out, HLL.out, HNE.out, by go_num, rfl, HO.out, HB.out, HN.out, HS.out⟩
          case measure => simp [intOf]
      · by_cases hv : 0 ≤ x.b
        · have HLE2 := Lib.hid (show l ++ [x.b] = ([x.a, x.b, x.c].take 2).filter (fun c => decide (0 ≤ c)) by
            rw [List.take_add_one, List.filter_append, ← HLE.out]
            congr 1
            show [x.b] = [x.b].filter (fun c => decide (0 ≤ c))
            simp [hv])
          have HL2 := Lib.hid (show (l ++ [x.b]).length ≤ 3 by rw [HLE2.out]; exact Nat.le_trans (List.length_filter_le _ _) (by simp))
          go_upto_region 30 with (at_builtin; refine wpList_append_any _ rfl (.tmp 82) (.tmp 84) 23 rfl w.heap.size 3 i3 _ 1 8 Tryd.underlying23 fi3 H3.out.1 H3.out.2.1 H3.out.2.2 rfl (by omega) (.slice A1 l.length c1) l.length (l.map intV) rfl (own_next HO.out (below_new _ _)) (wr.heap.size + 1) (some ⟨wr.heap.size, 0, none⟩) 1 1 [intV x.b] rfl (reads_blkN (Blk.new wr 3 #[intV x.b]) rfl) (int_one [x.b]) (by unfold maxLen; have := HLL.out; omega) (by have := HLL.out; omega) (by rw [World.size_alloc]; have := HB.out.size; omega) ?_; intro v1 w7 oA gA nA)
          have hN7 := blk_row (HN.out.next (below_new wr (.cells #[intV x.b] 3))) (own_next HO.out (below_new wr (.cells #[intV x.b] 3))) gA (by decide)
          have hS7 := (HS.out.next (below_new wr (.cells #[intV x.b] 3))).grown gA (by rw [own_blkOf]; exact fun e => HNE.out e.symm)
          obtain ⟨A2, c2, rfl⟩ := own_form oA
          have hne2 : blkOf A2 ≠ some sb := by
            rw [own_blkOf, own_blkOf] at nA
            rcases nA with nA | nA
            · rw [nA]; exact HNE.out
            · rw [nA, World.size_alloc]
              intro e
              have := Option.some.inj e
              have := HS.out.lt
              omega
          have hB7 : Below w.heap.size w w7 := (HB.out.alloc HB.out.size (.cells #[intV x.b] 3)).grown gA (by rw [World.size_alloc]; have := HB.out.size; omega) (fun i hi => (HO.out.lt i hi).1)
          have HN7 := Lib.hid hN7
          have HS7 := Lib.hid hS7
          have HNE7 := Lib.hid hne2
          have HB7 := Lib.hid hB7
          have HO7 := Lib.hid oA
          clear oA gA nA hN7 hS7 hne2 hB7 n0 s0 s1 s2
          go_wp2_with fail
          go_roundw
          case rel => exact ⟨2, A2, c2, l ++ [x.b], by omega, HLE2.out, HL2.out, HNE7.out, by go_num, by rw [List.length_append]; rfl, by rw [List.length_append, List.map_append]; exact HO7.out, HB7.out, HN7.out, HS7.out⟩
          case measure => simp [intOf]
        · have HLE2 := Lib.hid (show l = ([x.a, x.b, x.c].take 2).filter (fun c => decide (0 ≤ c)) by
            rw [List.take_add_one, List.filter_append, ← HLE.out]
            show l = l ++ [x.b].filter (fun c => decide (0 ≤ c))
            simp [hv])
          go_wp2_with fail
          go_roundw
          case rel => exact ⟨2, A1, c1, l, by omega, HLE2.out, HLL.out, HNE.out, by go_num, rfl, HO.out, HB.out, HN.out, HS.out⟩
          case measure => simp [intOf]
      · by_cases hv : 0 ≤ x.c
        · have HLE2 := Lib.hid (show l ++ [x.c] = ([x.a, x.b, x.c].take 3).filter (fun c => decide (0 ≤ c)) by
            rw [List.take_add_one, List.filter_append, ← HLE.out]
            congr 1
            show [x.c] = [x.c].filter (fun c => decide (0 ≤ c))
            simp [hv])
          have HL2 := Lib.hid (show (l ++ [x.c]).length ≤ 3 by rw [HLE2.out]; exact Nat.le_trans (List.length_filter_le _ _) (by simp))
          go_upto_region 30 with (at_builtin; refine wpList_append_any _ rfl (.tmp 82) (.tmp 84) 23 rfl w.heap.size 3 i3 _ 1 8 Tryd.underlying23 fi3 H3.out.1 H3.out.2.1 H3.out.2.2 rfl (by omega) (.slice A1 l.length c1) l.length (l.map intV) rfl (own_next HO.out (below_new _ _)) (wr.heap.size + 1) (some ⟨wr.heap.size, 0, none⟩) 1 1 [intV x.c] rfl (reads_blkN (Blk.new wr 3 #[intV x.c]) rfl) (int_one [x.c]) (by unfold maxLen; have := HLL.out; omega) (by have := HLL.out; omega) (by rw [World.size_alloc]; have := HB.out.size; omega) ?_; intro v1 w7 oA gA nA)
          have hN7 := blk_row (HN.out.next (below_new wr (.cells #[intV x.c] 3))) (own_next HO.out (below_new wr (.cells #[intV x.c] 3))) gA (by decide)
          have hS7 := (HS.out.next (below_new wr (.cells #[intV x.c] 3))).grown gA (by rw [own_blkOf]; exact fun e => HNE.out e.symm)
          obtain ⟨A2, c2, rfl⟩ := own_form oA
          have hne2 : blkOf A2 ≠ some sb := by
            rw [own_blkOf, own_blkOf] at nA
            rcases nA with nA | nA
            · rw [nA]; exact HNE.out
            · rw [nA, World.size_alloc]
              intro e
              have := Option.some.inj e
              have := HS.out.lt
              omega
          have hB7 : Below w.heap.size w w7 := (HB.out.alloc HB.out.size (.cells #[intV x.c] 3)).grown gA (by rw [World.size_alloc]; have := HB.out.size; omega) (fun i hi => (HO.out.lt i hi).1)
          have HN7 := Lib.hid hN7
          have HS7 := Lib.hid hS7
          have HNE7 := Lib.hid hne2
          have HB7 := Lib.hid hB7
          have HO7 := Lib.hid oA
          clear oA gA nA hN7 hS7 hne2 hB7 n0 s0 s1 s2
          go_wp2_with fail
          go_roundw
          case rel => exact ⟨3, A2, c2, l ++ [x.c], by omega, HLE2.out, HL2.out, HNE7.out, by go_num, by rw [List.length_append]; rfl, by rw [List.length_append, List.map_append]; exact HO7.out, HB7.out, HN7.out, HS7.out⟩
          case measure => simp [intOf]
        · have HLE2 := Lib.hid (show l = ([x.a, x.b, x.c].take 3).filter (fun c => decide (0 ≤ c)) by
            rw [List.take_add_one, List.filter_append, ← HLE.out]
            show l = l ++ [x.c].filter (fun c => decide (0 ≤ c))
            simp [hv])
          go_wp2_with fail
          go_roundw
          case rel => exact ⟨3, A1, c1, l, by omega, HLE2.out, HLL.out, HNE.out, by go_num, rfl, HO.out, HB.out, HN.out, HS.out⟩
          case measure => simp [intOf]
      · go_wp2_with fail
        go_ret
        rw [HK.out, show (([x.a, x.b, x.c].filter (fun c => decide (0 ≤ c))).map intV) = l.map intV by rw [HLE.out]; rfl]
        exact ⟨A1, c1, by rw [List.length_map]; rfl, by rw [List.length_map]; exact HO.out, HB.out⟩
  by_cases h6 : x.k = 25
  · have HK := Lib.hid (show kidsS x = [x.a, x.b].filter (fun c => decide (0 ≤ c)) by unfold kidsS; rw [if_neg h1, if_neg h2, if_neg h3, if_neg h4, if_neg h5, if_pos h6])
    have HKK := Lib.hid (show x.k = 25 from h6)
    rw [h6] at n0
    clear h1 h2 h3 h4 h5 h6
    obtain ⟨i3, fi3, hz0, hz1, hz2⟩ := info_parts int_info
    have H3 := Lib.hid (show i3.zero = some (.int .i64 0) ∧ i3.size = 1 ∧ i3.bytes = 8 from ⟨hz0, hz1, hz2⟩)
    clear hz0 hz1 hz2
    have hs3 := Blk.new w1 3 #[.int .i64 x.a, .int .i64 x.b, .int .i64 x.c]
    have hb3 := below_new w1 (.cells #[.int .i64 x.a, .int .i64 x.b, .int .i64 x.c] 3)
    have HN3 := Lib.hid (HN1.out.next hb3)
    have HB3 := Lib.hid (next_ HB1.out hb3)
    generalize hw3 : w1.alloc (.cells #[.int .i64 x.a, .int .i64 x.b, .int .i64 x.c] 3) = w3 at hs3 hb3 HN3 HB3
    have HS3 := Lib.hid hs3
    clear hs3 hb3
    go_upto_region 26 with fail
    clear hw3 n0 n1 n2 n3 n4 n5 n6 n7 HN1 HB1
    generalize w1.heap.size = sb at HS3 ⊢
    go_loopw [66, 6] (fun iv lv wr => ∃ (j : Nat) (A1 : Option Addr) (c1 : Nat) (l : List Int), j ≤ 3 ∧ l = ([x.a, x.b].take j).filter (fun c => decide (0 ≤ c)) ∧ l.length ≤ 3 ∧ blkOf A1 ≠ some sb ∧ iv = .int .i64 j ∧ lv = .slice A1 l.length c1 ∧
        wr.ownsRow w.heap.size 3 1 (.slice A1 l.length c1) l.length (l.map intV) ∧ Below w.heap.size w wr ∧ Blk wr nb 30 #[.int .i64 25, strV x.t, strV x.t2, .int .i64 x.n, .int .i64 x.a, .int .i64 x.b, .int .i64 x.c, .int .i64 x.h] ∧ Blk wr sb 3 #[.int .i64 x.a, .int .i64 x.b, .int .i64 x.c]) (fun iv _ _ => 3 - (intOf iv).toNat)
    case atStart => exact ⟨0, none, 0, [], by omega, rfl, by simp, (fun h => by cases h), rfl, rfl, ⟨rfl, .inl ⟨rfl, rfl⟩⟩, HB3.out, by have h9 := HN3.out; rw [HKK.out] at h9; exact h9, HS3.out⟩
    case round =>
      obtain ⟨j, A1, c1, l, hj, hle, hl3, hne, rfl, rfl, ho, hb, hn, hs⟩ := hrel
      have HNE := Lib.hid hne
      have HO := Lib.hid ho
      have HB := Lib.hid hb
      have HN := Lib.hid hn
      have HS := Lib.hid hs
      have HLE := Lib.hid hle
      have HLL := Lib.hid hl3
      clear ho hb hn hs hle hl3 hne HN3 HB3 HS3
      have n0 : wr.cell? ⟨nb, 0, none⟩ = some (.int .i64 25) := HN.out.cell 0
      have s0 : wr.cell? ⟨sb, 0, none⟩ = some (.int .i64 x.a) := HS.out.cell 0
      have s1 : wr.cell? ⟨sb, 1, none⟩ = some (.int .i64 x.b) := HS.out.cell 1
      have s2 : wr.cell? ⟨sb, 2, none⟩ = some (.int .i64 x.c) := HS.out.cell 2
      rcases (by omega : j = 0 ∨ j = 1 ∨ j = 2 ∨ j = 3) with rfl | rfl | rfl | rfl
      · by_cases hv : 0 ≤ x.a
        · have HLE2 := Lib.hid (show l ++ [x.a] = ([x.a, x.b].take 1).filter (fun c => decide (0 ≤ c)) by
            rw [List.take_add_one, List.filter_append, ← HLE.out]
            congr 1
            show [x.a] = [x.a].filter (fun c => decide (0 ≤ c))
            simp [hv])
          have HL2 := Lib.hid (show (l ++ [x.a]).length ≤ 3 by rw [HLE2.out]; exact Nat.le_trans (List.length_filter_le _ _) (by simp))
          go_upto_region 30 with (at_builtin; refine wpList_append_any _ rfl (.tmp 82) (.tmp 84) 23 rfl w.heap.size 3 i3 _ 1 8 Tryd.underlying23 fi3 H3.out.1 H3.out.2.1 H3.out.2.2 rfl (by omega) (.slice A1 l.length c1) l.length (l.map intV) rfl (own_next HO.out (below_new _ _)) (wr.heap.size + 1) (some ⟨wr.heap.size, 0, none⟩) 1 1 [intV x.a] rfl (reads_blkN (Blk.new wr 3 #[intV x.a]) rfl) (int_one [x.a]) (by unfold maxLen; have := HLL.out; omega) (by have := HLL.out; omega) (by rw [World.size_alloc]; have := HB.out.size; omega) ?_; intro v1 w7 oA gA nA)
          have hN7 := blk_row (HN.out.next (below_new wr (.cells #[intV x.a] 3))) (own_next HO.out (below_new wr (.cells #[intV x.a] 3))) gA (by decide)
          have hS7 := (HS.out.next (below_new wr (.cells #[intV x.a] 3))).grown gA (by rw [own_blkOf]; exact fun e => HNE.out e.symm)
          obtain ⟨A2, c2, rfl⟩ := own_form oA
          have hne2 : blkOf A2 ≠ some sb := by
            rw [own_blkOf, own_blkOf] at nA
            rcases nA with nA | nA
            · rw [nA]; exact HNE.out
            · rw [nA, World.size_alloc]
              intro e
              have := Option.some.inj e
              have := HS.out.lt
              omega
          have hB7 : Below w.heap.size w w7 := (HB.out.alloc HB.out.size (.cells #[intV x.a] 3)).grown gA (by rw [World.size_alloc]; have := HB.out.size; omega) (fun i hi => (HO.out.lt i hi).1)
          have HN7 := Lib.hid hN7
          have HS7 := Lib.hid hS7
          have HNE7 := Lib.hid hne2
          have HB7 := Lib.hid hB7
          have HO7 := Lib.hid oA
          clear oA gA nA hN7 hS7 hne2 hB7 n0 s0 s1 s2
          go_wp2_with fail
          go_roundw
          case rel => exact ⟨1, A2, c2, l ++ [x.a], by omega, HLE2.out, HL2.out, HNE7.out, by go_num, by rw [List.length_append]; rfl, by rw [List.length_append, List.map_append]; exact HO7.out, HB7.out, HN7.out, HS7.out⟩
          case measure => simp [intOf]
        · have HLE2 := Lib.hid (show l = ([x.a, x.b].take 1).filter (fun c => decide (0 ≤ c)) by
            rw [List.take_add_one, List.filter_append, ← HLE.out]
            show l = l ++ [x.a].filter (fun c => decide (0 ≤ c))
            simp [hv])
          go_wp2_with fail
          go_roundw
          case rel => exact ⟨1, A1, c1, l, by omega, HLE2.out, HLL.out, HNE.out, by go_num, rfl, HO.out, HB.out, HN.out, HS.out⟩
          case measure => simp [intOf]
      · by_cases hv : 0 ≤ x.b
        · have HLE2 := Lib.hid (show l ++ [x.b] = ([x.a, x.b].take 2).filter (fun c => decide (0 ≤ c)) by
            rw [List.take_add_one, List.filter_append, ← HLE.out]
            congr 1
            show [x.b] = [x.b].filter (fun c => decide (0 ≤ c))
            simp [hv])
          have HL2 := Lib.hid (show (l ++ [x.b]).length ≤ 3 by rw [HLE2.out]; exact Nat.le_trans (List.length_filter_le _ _) (by simp))
          go_upto_region 30 with (at_builtin; refine wpList_append_any _ rfl (.tmp 82) (.tmp 84) 23 rfl w.heap.size 3 i3 _ 1 8 Tryd.underlying23 fi3 H3.out.1 H3.out.2.1 H3.out.2.2 rfl (by omega) (.slice A1 l.length c1) l.length (l.map intV) rfl (own_next HO.out (below_new _ _)) (wr.heap.size + 1) (some ⟨wr.heap.size, 0, none⟩) 1 1 [intV x.b] rfl (reads_blkN (Blk.new wr 3 #[intV x.b]) rfl) (int_one [x.b]) (by unfold maxLen; have := HLL.out; omega) (by have := HLL.out; omega) (by rw [World.size_alloc]; have := HB.out.size; omega) ?_; intro v1 w7 oA gA nA)
          have hN7 := blk_row (HN.out.next (below_new wr (.cells #[intV x.b] 3))) (own_next HO.out (below_new wr (.cells #[intV x.b] 3))) gA (by decide)
          have hS7 := (HS.out.next (below_new wr (.cells #[intV x.b] 3))).grown gA (by rw [own_blkOf]; exact fun e => HNE.out e.symm)
          obtain ⟨A2, c2, rfl⟩ := own_form oA
          have hne2 : blkOf A2 ≠ some sb := by
            rw [own_blkOf, own_blkOf] at nA
            rcases nA with nA | nA
            · rw [nA]; exact HNE.out
            · rw [nA, World.size_alloc]
              intro e
              have := Option.some.inj e
              have := HS.out.lt
              omega
          have hB7 : Below w.heap.size w w7 := (HB.out.alloc HB.out.size (.cells #[intV x.b] 3)).grown gA (by rw [World.size_alloc]; have := HB.out.size; omega) (fun i hi => (HO.out.lt i hi).1)
          have HN7 := Lib.hid hN7
          have HS7 := Lib.hid hS7
          have HNE7 := Lib.hid hne2
          have HB7 := Lib.hid hB7
          have HO7 := Lib.hid oA
          clear oA gA nA hN7 hS7 hne2 hB7 n0 s0 s1 s2
          go_wp2_with fail
          go_roundw
          case rel => exact ⟨2, A2, c2, l ++ [x.b], by omega, HLE2.out, HL2.out, HNE7.out, by go_num, by rw [List.length_append]; rfl, by rw [List.length_append, List.map_append]; exact HO7.out, HB7.out, HN7.out, HS7.out⟩
          case measure => simp [intOf]
        · have HLE2 := Lib.hid (show l = ([x.a, x.b].take 2).filter (fun c => decide (0 ≤ c)) by
            rw [List.take_add_one, List.filter_append, ← HLE.out]
            show l = l ++ [x.b].filter (fun c => decide (0 ≤ c))
            simp [hv])
          go_wp2_with fail
          go_roundw
          case rel => exact ⟨2, A1, c1, l, by omega, HLE2.out, HLL.out, HNE.out, by go_num, rfl, HO.out, HB.out, HN.out, HS.out⟩
          case measure => simp [intOf]
      · have HLE2 := Lib.hid (show l = ([x.a, x.b].take 3).filter (fun c => decide (0 ≤ c)) from HLE.out)
        by_cases hv : 0 ≤ x.c
        · go_wp2_with fail
          go_roundw
          case rel => exact ⟨3, A1, c1, l, by omega, HLE2.out, HLL.out, HNE.out, by go_num, rfl, HO.out, HB.out, HN.out, HS.out⟩
          case measure => simp [intOf]
        · go_wp2_with fail
          go_roundw
          case rel => exact ⟨3, A1, c1, l, by omega, HLE2.out, HLL.out, HNE.out, by go_num, rfl, HO.out, HB.out, HN.out, HS.out⟩
          case measure => simp [intOf]
      · go_wp2_with fail
        go_ret
        rw [HK.out, show (([x.a, x.b].filter (fun c => decide (0 ≤ c))).map intV) = l.map intV by rw [HLE.out]; rfl]
        exact ⟨A1, c1, by rw [List.length_map]; rfl, by rw [List.length_map]; exact HO.out, HB.out⟩
  have HK := Lib.hid (show (kidsS x).map intV = [] by unfold kidsS; rw [if_neg h1, if_neg h2, if_neg h3, if_neg h4, if_neg h5, if_neg h6]; rfl)
  have e32 : (x.k == 32) = false := beq_false_of_ne (by omega)
  have e33 : (x.k == 33) = false := beq_false_of_ne (by omega)
  have e8 : (x.k == 8) = false := beq_false_of_ne (by omega)
  have e9 : (x.k == 9) = false := beq_false_of_ne (by omega)
  have e11 : (x.k == 11) = false := beq_false_of_ne (by omega)
  have e15 : (x.k == 15) = false := beq_false_of_ne (by omega)
  have e16 : (x.k == 16) = false := beq_false_of_ne (by omega)
  have e17 : (x.k == 17) = false := beq_false_of_ne (by omega)
  have e14 : (x.k == 14) = false := beq_false_of_ne (by omega)
  have e20 : (x.k == 20) = false := beq_false_of_ne (by omega)
  have e22 : (x.k == 22) = false := beq_false_of_ne (by omega)
  have e23 : (x.k == 23) = false := beq_false_of_ne (by omega)
  have e34 : (x.k == 34) = false := beq_false_of_ne (by omega)
  have e6 : (x.k == 6) = false := beq_false_of_ne (by omega)
  have e24 : (x.k == 24) = false := beq_false_of_ne (by omega)
  have e25 : (x.k == 25) = false := beq_false_of_ne (by omega)
  clear h1 h2 h3 h4 h5 h6
  go_wp2_with fail
  go_ret
  rw [HK.out]
  exact RowEnd.nil 3 HB1.out
end Go.Proofs.YtphojigdapaaiaaDoor
namespace Go.Proofs.YtphojigdapaaiaaDoor
open Go.ChangeShapes Go.WideShapes Go.ChangeAt Go.RowKit
set_option linter.unusedVariables false
set_option linter.unusedSimpArgs false
theorem own_of_block {w w' : World} {base : Nat} {e : TypeId} {size n : Nat} {v : Value} {xs : List Value} (h : w.ownsRow base e size v n xs) (hk : ∀ k, v.ownBlock = some k → w'.heap[k]? = w.heap[k]?) : w'.ownsRow base e size v n xs := by
  obtain ⟨h1, h2⟩ := h
  refine ⟨h1, ?_⟩
  rcases h2 with h2 | ⟨g, cap, cur, rfl, h3, h4, h5⟩
  · exact .inl h2
  · exact .inr ⟨g, cap, cur, rfl, h3, (hk g rfl).trans h4, h5⟩
theorem flat_set {α : Type} (f : α → List Value) (m : Nat) (hf : ∀ x, (f x).length = m) {u : Value} {j : Nat} (hj : j < m) : ∀ (l : List α) (i : Nat) (x y : α), l[i]? = some x → (f x).set j u = f y → (l.flatMap f).set (i * m + j) u = (l.set i y).flatMap f := by
  intro l
  induction l with
  | nil => intro i x y h; cases h
  | cons z l ih =>
    intro i x y h hy
    cases i with
    | zero =>
      obtain rfl := Option.some.inj h
      simp only [List.flatMap_cons, List.set_cons_zero, Nat.zero_mul, Nat.zero_add]
      rw [List.set_append_left _ _ (by rw [hf]; exact hj), hy]
    | succ i =>
      simp only [List.flatMap_cons, List.set_cons_succ]
      rw [List.set_append_right _ _ (by rw [hf, Nat.succ_mul]; omega), hf, show (i + 1) * m + j - m = i * m + j by rw [Nat.succ_mul]; omega, ih i x y h hy]
theorem own_set_in {w : World} {base : Nat} {e : TypeId} {size n cap : Nat} {xs : List Value} {g : Nat} (h : w.ownsRow base e size (.slice (some ⟨g, 0, none⟩) n cap) n xs) (j : Nat) (u : Value) :
    (w.setCell ⟨g, j, none⟩ u).ownsRow base e size (.slice (some ⟨g, 0, none⟩) n cap) n (xs.set j u) := by
  obtain ⟨h1, h2⟩ := h
  refine ⟨by rw [List.length_set]; exact h1, ?_⟩
  rcases h2 with ⟨h2, _⟩ | ⟨g', cap', cur, hv, h3, h4, h5, h6, h7, h8⟩
  · cases h2
  · injection hv with hA hn hc
    injection hA with hA
    injection hA with hA
    subst hA hc
    have hb : Blk w g e cur := h4
    refine .inr ⟨g, cap, _, rfl, h3, hb.set_ j u, h5, h6, by rw [Array.size_setIfInBounds]; exact h7, ?_⟩
    rw [Array.toList_setIfInBounds, List.take_set, h8]
structure Lr (b0 : Nat) (R : Rw) (w : World) (A : Option Addr) (c : Nat) (l : List Nod) : Prop where
  own : w.ownsRow b0 30 8 (.slice A l.length c) l.length (l.flatMap nodC)
  n1 : ∀ k, blkOf A = some k → blkOf R.A ≠ some k
section
variable {B b0 : Nat} {AL : Option Addr} {cL g : Nat} {S : Rd} {R R' R0 : Rw} {w w' w0 : World} {A : Option Addr} {c : Nat} {l : List Nod}
theorem Lr.nil (b0 : Nat) (R : Rw) (w : World) : Lr b0 R w none 0 [] := ⟨⟨rfl, .inl ⟨rfl, rfl⟩⟩, fun k hk => by cases hk⟩
theorem Lr.lt (h : Lr b0 R w A c l) {k : Nat} (hk : blkOf A = some k) : b0 ≤ k ∧ k < w.heap.size := h.own.lt k (by rw [own_blkOf]; exact hk)
theorem Lr.far (h : Lr b0 R w A c l) (hS : RdSt B AL cL g S R w) {k : Nat} (hk : blkOf A = some k) : k ≠ g ∧ some k ≠ blkOf R.A ∧ some k ≠ blkOf R.A' := by
  refine ⟨fun e => ?_, fun e => h.n1 k hk e.symm, fun e => ?_⟩
  · exact own_blk_ne h.own hS.blk (by decide) (by rw [own_blkOf, hk, e])
  · rcases own_own_ne h.own hS.typ (by decide) with h1 | h1
    · rw [own_blkOf, hk] at h1; cases h1
    · rw [own_blkOf, own_blkOf, hk] at h1; exact h1 e
theorem Lr.to (h : Lr b0 R w A c l) (hS : RdSt B AL cL g S R w) (k : To g R w R' w') : Lr b0 R' w' A c l := by
  refine ⟨own_of_block h.own fun i hi => ?_, fun i hi e => ?_⟩
  · rw [own_blkOf] at hi
    obtain ⟨h1, h2, h3⟩ := h.far hS hi
    exact k.block i (h.lt hi).2 h1 h2 h3
  · rcases k.n1 i e with h1 | h1
    · exact h.n1 i hi h1
    · have := (h.lt hi).2; omega
theorem Lr.next (h : Lr b0 R w A c l) (k : Below w.heap.size w w') : Lr b0 R w' A c l := ⟨own_next h.own k, h.n1⟩
theorem Lr.set (h : Lr b0 R w A c l) {tb : Nat} (hn : blkOf A ≠ some tb) (i : Nat) (u : Value) : Lr b0 R (w.setCell ⟨tb, i, none⟩ u) A c l :=
  ⟨h.own.kept (grown_set w tb i u) (.inr (by rw [own_blkOf]; exact hn)), h.n1⟩
theorem Lr.fresh (h : Lr b0 R w A c l) {tb : Nat} (hb : w.heap.size ≤ tb) : blkOf A ≠ some tb := fun e => by have := (h.lt e).2; omega
theorem RdSt.grow (h : RdSt B AL cL g S R w) {row : Option Nat} (gr : w.grownBy w' row) (hr : ∀ k, row = some k → B ≤ k ∧ k ≠ g ∧ some k ≠ blkOf R.A ∧ some k ≠ blkOf R.A') : RdSt B AL cL g S R w' := by
  refine ⟨h.blk.grown gr fun e => (hr g e.symm).2.1 rfl, own_of_block h.nod fun i hi => ?_, own_of_block h.typ fun i hi => ?_, h.tok.keep fun p hp => World.cell?_of_block (gr.block _ (by have := h.size; omega) fun e => ?_), h.gB, h.len, h.dp⟩
  · rw [own_blkOf] at hi
    exact gr.block i (h.lt1 hi).2 fun e => (hr i e.symm).2.2.1 hi.symm
  · rw [own_blkOf] at hi
    exact gr.block i (h.lt2 hi).2 fun e => (hr i e.symm).2.2.2 hi.symm
  · have := (hr _ e.symm).1
    omega
theorem To.grow (h : To g R0 w0 R w) {row : Option Nat} (gr : w.grownBy w' row) (hr : ∀ k, row = some k → w0.heap.size ≤ k) : To g R0 w0 R w' := by
  refine ⟨gr.os.trans h.os, gr.tape.trans h.tape, gr.output.trans h.output, Nat.le_trans h.size gr.size, fun i hi h1 h2 h3 => ?_, h.n1, h.n2⟩
  exact (gr.block i (Nat.lt_of_lt_of_le hi h.size) fun e => by have := hr i e.symm; omega).trans (h.block i hi h1 h2 h3)
theorem Lr.push (h : Lr b0 R w A c l) (hS : RdSt B AL cL g S R w) (hT : To g R0 w0 R w) (hB : B ≤ b0) (hw : w0.heap.size ≤ b0) (x : Nod) {v : Value} (o : w'.ownsRow b0 30 8 v (l.length + 1) (l.flatMap nodC ++ nodC x))
    (gr : w.grownBy w' (Value.ownBlock (.slice A l.length c))) (hn : v.ownBlock = Value.ownBlock (.slice A l.length c) ∨ v.ownBlock = some w.heap.size) :
    ∃ A' c', v = .slice A' (l.length + 1) c' ∧ Lr b0 R w' A' c' (l ++ [x]) ∧ RdSt B AL cL g S R w' ∧ To g R0 w0 R w' := by
  obtain ⟨A', c', rfl⟩ := own_form o
  have hl : (l ++ [x]).length = l.length + 1 := by rw [List.length_append]; rfl
  rw [own_blkOf] at gr
  refine ⟨A', c', rfl, ⟨?_, fun k hk => ?_⟩, hS.grow gr fun k hk => ?_, hT.grow gr fun k hk => ?_⟩
  · rw [List.flatMap_append, hl]
    simpa using o
  · rw [own_blkOf, own_blkOf] at hn
    rcases hn with hn | hn
    · exact h.n1 k (hn.symm.trans hk)
    · obtain rfl := Option.some.inj (hn.symm.trans hk)
      intro e
      have := (hS.lt1 e).2
      omega
  · obtain ⟨h1, h2, h3⟩ := h.far hS hk
    exact ⟨by have := (h.lt hk).1; omega, h1, h2, h3⟩
  · have := (h.lt hk).1
    omega
theorem Lr.upd {k : Nat} (h : Lr b0 R w (some ⟨k, 0, none⟩) c l) (hS : RdSt B AL cL g S R w) (hT : To g R0 w0 R w) (hB : B ≤ b0) (hw : w0.heap.size ≤ b0) {i j : Nat} {x y : Nod} {u : Value} (hx : l[i]? = some x) (hj : j < 8) (hy : (nodC x).set j u = nodC y) :
    Lr b0 R (w.setCell ⟨k, i * 8 + j, none⟩ u) (some ⟨k, 0, none⟩) c (l.set i y) ∧ RdSt B AL cL g S R (w.setCell ⟨k, i * 8 + j, none⟩ u) ∧ To g R0 w0 R (w.setCell ⟨k, i * 8 + j, none⟩ u) := by
  have gr := grown_set w k (i * 8 + j) u
  refine ⟨⟨?_, h.n1⟩, hS.grow gr fun k' hk => ?_, hT.grow gr fun k' hk => ?_⟩
  · have := own_set_in h.own (i * 8 + j) u
    rw [flat_set nodC 8 (fun _ => rfl) hj l i x y hx hy] at this
    rw [List.length_set]
    exact this
  · obtain ⟨h1, h2, h3⟩ := h.far hS (k := k') hk
    exact ⟨by have := (h.lt (k := k') hk).1; omega, h1, h2, h3⟩
  · have := (h.lt (k := k') hk).1
    omega
theorem Lr.addr (h : Lr b0 R w A c l) (hl : 0 < l.length) : ∃ k, A = some ⟨k, 0, none⟩ := by
  obtain ⟨_, h2⟩ := h.own
  rcases h2 with ⟨_, h3⟩ | ⟨g', cap, cur, hv, _⟩
  · omega
  · injection hv with hA
    exact ⟨g', hA⟩
theorem Lr.at_ {k : Nat} (h : Lr b0 R w (some ⟨k, 0, none⟩) c l) {i : Nat} {x : Nod} (hx : l[i]? = some x) : ∀ j v, (nodC x)[j]? = some v → w.cell? ⟨k, i * 8 + j, none⟩ = some v := by
  intro j v hv
  obtain ⟨ad, hA, _, hc⟩ := (Reads.of_own h.own).nodAt hx
  have hA := Option.some.inj hA
  subst hA
  have h1 := hc j v hv
  rw [add_of_add] at h1
  unfold Addr.add at h1
  split at h1
  · rename_i h0; rw [h0]; exact h1
  · simpa using h1
theorem Lr.fz {k : Nat} (h : Lr b0 R w (some ⟨k, 0, none⟩) c l) (hl : 0 < l.length) (i : Nat) : w.frozen? ⟨k, i, none⟩ = false := by
  obtain ⟨_, h2⟩ := h.own
  rcases h2 with ⟨_, h3⟩ | ⟨g', cap, cur, hv, _, h4, _⟩
  · omega
  · injection hv with hA
    injection hA with hA
    injection hA with hA
    subst hA
    exact (show Blk w k 30 cur from h4).frozen i
end
end Go.Proofs.YtphojigdapaaiaaDoor
namespace Go.Proofs.YtphojigdapaaiaaDoor
open Go.ChangeShapes Go.WideShapes Go.ChangeAt Go.RowKit
set_option linter.unusedVariables false
def boolV (b : Bool) : Value := .bool b
def natV (n : Nat) : Value := .int .i64 (n : Int)
def conV (c : Con) : Value := .agg #[strV c.typ, .int .i64 c.num, .bool c.has]
structure Fr (pb bb : Nat) (w w' : World) : Prop where
  os : w'.os = w.os
  tape : w'.tape = w.tape
  output : w'.output = w.output
  size : w.heap.size ≤ w'.heap.size
  block : ∀ k, k < w.heap.size → k ≠ pb → k ≠ bb → w'.heap[k]? = w.heap[k]?
section
variable {pb bb : Nat} {w w' w'' : World}
theorem Fr.refl (pb bb : Nat) (w : World) : Fr pb bb w w := ⟨rfl, rfl, rfl, Nat.le_refl _, fun _ _ _ _ => rfl⟩
theorem Fr.trans (h : Fr pb bb w w') (k : Fr pb bb w' w'') : Fr pb bb w w'' :=
  ⟨k.os.trans h.os, k.tape.trans h.tape, k.output.trans h.output, Nat.le_trans h.size k.size, fun i hi h1 h2 => (k.block i (Nat.lt_of_lt_of_le hi h.size) h1 h2).trans (h.block i hi h1 h2)⟩
theorem Fr.of (hb : Below w.heap.size w w') : Fr pb bb w w' := ⟨hb.os, hb.tape, hb.output, hb.size, fun k hk _ _ => hb.block k hk⟩
theorem Fr.below (h : Fr pb bb w w') (hb : Below w'.heap.size w' w'') : Fr pb bb w w'' := h.trans (.of hb)
theorem Fr.drewN (h : Fr pb bb w w') (n : Nat) : Fr pb bb w (w'.drewN n) := h.below (below_drewN (Below.refl _ _) n)
theorem Fr.set (h : Fr pb bb w w') {p : Addr} (hp : p.block = pb ∨ p.block = bb ∨ w.heap.size ≤ p.block) (u : Value) : Fr pb bb w (w'.setCell p u) := by
  have hs := Below.setCell (B := p.block) (Below.refl _ w') (Nat.le_refl _) u
  refine ⟨hs.os.trans h.os, hs.tape.trans h.tape, hs.output.trans h.output, Nat.le_trans h.size hs.size, fun i hi h1 h2 => ?_⟩
  refine (Below.heap_setCell w' p u i ?_).trans (h.block i hi h1 h2)
  rintro rfl
  rcases hp with hp | hp | hp
  · exact h1 hp
  · exact h2 hp
  · omega
theorem Fr.grown (h : Fr pb bb w w') {row : Option Nat} (g : w'.grownBy w'' row) (hr : ∀ k, row = some k → k = pb ∨ k = bb ∨ w.heap.size ≤ k) : Fr pb bb w w'' := by
  refine ⟨g.os.trans h.os, g.tape.trans h.tape, g.output.trans h.output, Nat.le_trans h.size g.size, fun i hi h1 h2 => ?_⟩
  refine (g.block i (Nat.lt_of_lt_of_le hi h.size) (fun e => ?_)).trans (h.block i hi h1 h2)
  rcases hr i e.symm with h3 | h3 | h3
  · exact h1 h3
  · exact h2 h3
  · omega
theorem Fr.wide {bb' : Nat} (h : Fr pb bb' w w') (hb : bb' = pb ∨ w.heap.size ≤ bb') : Fr pb bb w w' :=
  ⟨h.os, h.tape, h.output, h.size, fun i hi h1 h2 => h.block i hi h1 (fun e => by rcases hb with hb | hb; exact h1 (e.trans hb); omega)⟩
theorem Fr.belowB {B : Nat} {W0 : World} (h : Fr pb bb w w') (hl : Below B W0 w) (h1 : B ≤ pb) (h2 : B ≤ bb) (hs : B ≤ w.heap.size) : Below B W0 w' :=
  ⟨h.os.trans hl.os, h.tape.trans hl.tape, h.output.trans hl.output, Nat.le_trans hl.size h.size, fun i hi => (h.block i (Nat.lt_of_lt_of_le hi hs) (by omega) (by omega)).trans (hl.block i hi)⟩
end
section
variable {pb bb : Nat} {w w' : World}
theorem Blk.fr {b : Nat} {t : TypeId} {cs : Array Value} (h : Blk w b t cs) (hf : Fr pb bb w w') (h1 : b ≠ pb) (h2 : b ≠ bb) : Blk w' b t cs := (hf.block b h.lt h1 h2).trans h
theorem SMap.fr {b : Nat} {D : KS → Option Value} (h : SMap w b D) (hf : Fr pb bb w w') (h1 : b ≠ pb) (h2 : b ≠ bb) : SMap w' b D := h.keep (hf.block b h.lt h1 h2)
theorem own_fr {base : Nat} {e : TypeId} {size n c : Nat} {A : Option Addr} {xs : List Value} (h : w.ownsRow base e size (.slice A n c) n xs) (hf : Fr pb bb w w') (h1 : blkOf A ≠ some pb) (h2 : blkOf A ≠ some bb) : w'.ownsRow base e size (.slice A n c) n xs :=
  own_of_block h fun k hk => by
    have hlt := (h.lt k hk).2
    rw [own_blkOf] at hk
    exact hf.block k hlt (fun e => h1 (by rw [hk, e])) (fun e => h2 (by rw [hk, e]))
theorem own_map_ne {base : Nat} {e : TypeId} {size n : Nat} {v : Value} {xs : List Value} (h : w.ownsRow base e size v n xs) {b : Nat} {D : KS → Option Value} (hm : SMap w b D) : v.ownBlock ≠ some b := by
  intro he
  rcases h.2 with ⟨rfl, _⟩ | ⟨g, cap, cur, rfl, _, hh, _⟩
  · cases he
  · have : g = b := by simpa [Value.ownBlock] using he
    subst this
    exact hm.ne (show Blk w g e cur from hh) rfl
end
theorem look65 {W : World} {b : Nat} {D : KS → Option Value} (h : SMap W b D) (g : KS) (ok : Bool) : (Instr.lookup 65 (.map (some b)) (strV g) true).run Tryd.prog W = .ok (.tuple #[(D g).getD (.int .i64 0), .bool (D g).isSome]) W :=
  h.look Tryd.underlying65 Tryd.underlying9 (by kernel_rfl) g
theorem look65a {W : World} {b : Nat} {D : KS → Option Value} (h : SMap W b D) (g : KS) : (Instr.lookup 65 (.map (some b)) (strV g) false).run Tryd.prog W = .ok ((D g).getD (.int .i64 0)) W :=
  h.look1 Tryd.underlying65 Tryd.underlying9 (by kernel_rfl) g
theorem store65 {W : World} {b : Nat} {D : KS → Option Value} (h : SMap W b D) (g : KS) (v : Value) : ∃ w', (Instr.mapUpdate 65 (.map (some b)) (strV g) v).run Tryd.prog W = .ok () w' ∧ SMap w' b (fun x => if x = g then some v else D x) ∧ W.grownBy w' (some b) :=
  h.store Tryd.underlying65 Tryd.underlying9 g v
theorem look85 {W : World} {b : Nat} {D : KS → Option Value} (h : SMap W b D) (g : KS) : (Instr.lookup 85 (.map (some b)) (strV g) false).run Tryd.prog W = .ok ((D g).getD (.bool false)) W :=
  h.look1 Tryd.underlying85 Tryd.underlying9 (by kernel_rfl) g
theorem store85 {W : World} {b : Nat} {D : KS → Option Value} (h : SMap W b D) (g : KS) (v : Value) : ∃ w', (Instr.mapUpdate 85 (.map (some b)) (strV g) v).run Tryd.prog W = .ok () w' ∧ SMap w' b (fun x => if x = g then some v else D x) ∧ W.grownBy w' (some b) :=
  h.store Tryd.underlying85 Tryd.underlying9 g v
def zCon : Con := ⟨[], 0, false⟩
theorem look63 {W : World} {b : Nat} {D : KS → Option Value} (h : SMap W b D) (g : KS) : (Instr.lookup 63 (.map (some b)) (strV g) true).run Tryd.prog W = .ok (.tuple #[(D g).getD (conV zCon), .bool (D g).isSome]) W :=
  h.look Tryd.underlying63 Tryd.underlying9 (by kernel_rfl) g
theorem store63 {W : World} {b : Nat} {D : KS → Option Value} (h : SMap W b D) (g : KS) (v : Value) : ∃ w', (Instr.mapUpdate 63 (.map (some b)) (strV g) v).run Tryd.prog W = .ok () w' ∧ SMap w' b (fun x => if x = g then some v else D x) ∧ W.grownBy w' (some b) :=
  h.store Tryd.underlying63 Tryd.underlying9 g v
def akC (A A' : Option Addr) (c c' : Nat) (t : Tre) (pb cb bb : Nat) : Array Value := #[.slice A t.l.length c, .slice A' t.y.length c', .int .i64 t.r, .slice (some ⟨pb, 0, none⟩) t.l.length t.l.length, .map (some cb), .map (some bb)]
structure Ak (W0 : World) (g pb cb bb : Nat) (A A' : Option Addr) (c c' : Nat) (t : Tre) (M : CM) (B : KS → Int) (bad : List Bool) (w : World) : Prop where
  ask : Blk w g 67 (akC A A' c c' t pb cb bb)
  mark : Blk w pb 4 (bad.map boolV).toArray
  len : bad.length = t.l.length
  con : SMap w cb (fun s => (M s).map conV)
  bnd : ∃ D, SMap w bb D ∧ ∀ s, (D s).getD (.int .i64 0) = .int .i64 (B s)
  low : Below W0.heap.size W0 w
  lg : W0.heap.size ≤ g
  lp : W0.heap.size ≤ pb
  lc : W0.heap.size ≤ cb
  lb : W0.heap.size ≤ bb
  ne : cb ≠ bb
  tree : TreIs W0 A A' t
section
variable {W0 w w' : World} {g pb cb bb : Nat} {A A' : Option Addr} {c c' : Nat} {t : Tre} {M : CM} {B : KS → Int} {bad : List Bool}
theorem Ak.next (h : Ak W0 g pb cb bb A A' c c' t M B bad w) (hb : Below w.heap.size w w') : Ak W0 g pb cb bb A A' c c' t M B bad w' := by
  obtain ⟨D, hD, hv⟩ := h.bnd
  exact ⟨h.ask.next hb, h.mark.next hb, h.len, h.con.next hb, ⟨D, hD.next hb, hv⟩, next_ h.low hb, h.lg, h.lp, h.lc, h.lb, h.ne, h.tree⟩
theorem Ak.drewN (h : Ak W0 g pb cb bb A A' c c' t M B bad w) (n : Nat) : Ak W0 g pb cb bb A A' c c' t M B bad (w.drewN n) := h.next (below_drewN (Below.refl _ _) n)
theorem Ak.size (h : Ak W0 g pb cb bb A A' c c' t M B bad w) : W0.heap.size ≤ w.heap.size := h.low.size
theorem Ak.gp (h : Ak W0 g pb cb bb A A' c c' t M B bad w) : g ≠ pb := h.ask.ne_ h.mark (by decide)
theorem Ak.gc (h : Ak W0 g pb cb bb A A' c c' t M B bad w) : g ≠ cb := h.con.ne h.ask
theorem Ak.gb (h : Ak W0 g pb cb bb A A' c c' t M B bad w) : g ≠ bb := by obtain ⟨D, hD, _⟩ := h.bnd; exact hD.ne h.ask
theorem Ak.pc (h : Ak W0 g pb cb bb A A' c c' t M B bad w) : pb ≠ cb := h.con.ne h.mark
theorem Ak.pbb (h : Ak W0 g pb cb bb A A' c c' t M B bad w) : pb ≠ bb := by obtain ⟨D, hD, _⟩ := h.bnd; exact hD.ne h.mark
theorem map_set {b : Nat} {D : KS → Option Value} (h : SMap w b D) {p : Addr} (hp : p.block ≠ b) (u : Value) : SMap (w.setCell p u) b D := h.keep (Below.heap_setCell w p u b (fun e => hp e.symm))
theorem Ak.setBad (h : Ak W0 g pb cb bb A A' c c' t M B bad w) (k : Nat) (b : Bool) : Ak W0 g pb cb bb A A' c c' t M B (bad.set k b) (w.setCell ⟨pb, k, none⟩ (.bool b)) := by
  obtain ⟨D, hD, hv⟩ := h.bnd
  have hb := h.mark.set_ k (.bool b)
  rw [List.setIfInBounds_toArray] at hb
  refine ⟨h.ask.far (p := ⟨pb, k, none⟩) h.gp _, by rw [List.map_set]; exact hb, by rw [List.length_set]; exact h.len, map_set h.con (p := ⟨pb, k, none⟩) h.pc _, ⟨D, map_set hD (p := ⟨pb, k, none⟩) h.pbb _, hv⟩, h.low.setCell (p := ⟨pb, k, none⟩) h.lp _, h.lg, h.lp, h.lc, h.lb, h.ne, h.tree⟩
theorem Ak.far (h : Ak W0 g pb cb bb A A' c c' t M B bad w) {b i : Nat} (hb : W0.heap.size ≤ b) (h1 : b ≠ g) (h2 : b ≠ pb) (h3 : b ≠ cb) (h4 : b ≠ bb) (u : Value) : Ak W0 g pb cb bb A A' c c' t M B bad (w.setCell ⟨b, i, none⟩ u) := by
  obtain ⟨D, hD, hv⟩ := h.bnd
  exact ⟨h.ask.far (p := ⟨b, i, none⟩) (fun e => h1 e.symm) u, h.mark.far (p := ⟨b, i, none⟩) (fun e => h2 e.symm) u, h.len, map_set h.con (p := ⟨b, i, none⟩) h3 u, ⟨D, map_set hD (p := ⟨b, i, none⟩) h4 u, hv⟩, h.low.setCell (p := ⟨b, i, none⟩) hb u, h.lg, h.lp, h.lc, h.lb, h.ne, h.tree⟩
theorem Ak.grown (h : Ak W0 g pb cb bb A A' c c' t M B bad w) {row : Option Nat} (gr : w.grownBy w' row) (hb : ∀ k, row = some k → W0.heap.size ≤ k ∧ k ≠ g ∧ k ≠ pb ∧ k ≠ cb ∧ k ≠ bb) : Ak W0 g pb cb bb A A' c c' t M B bad w' := by
  obtain ⟨D, hD, hv⟩ := h.bnd
  exact ⟨h.ask.grown gr (fun e => (hb g e.symm).2.1 rfl), h.mark.grown gr (fun e => (hb pb e.symm).2.2.1 rfl), h.len, h.con.keep (gr.block _ h.con.lt (fun e => (hb cb e.symm).2.2.2.1 rfl)), ⟨D, hD.keep (gr.block _ hD.lt (fun e => (hb bb e.symm).2.2.2.2 rfl)), hv⟩, h.low.grown gr h.low.size (fun k hk => (hb k hk).1), h.lg, h.lp, h.lc, h.lb, h.ne, h.tree⟩
theorem Ak.bound (h : Ak W0 g pb cb bb A A' c c' t M B bad w) (s : KS) : (Instr.lookup 65 (.map (some bb)) (strV s) false).run Tryd.prog w = .ok (.int .i64 (B s)) w := by
  obtain ⟨D, hD, hv⟩ := h.bnd
  rw [look65a hD s, hv]
theorem Ak.bind (h : Ak W0 g pb cb bb A A' c c' t M B bad w) (s : KS) (v : Int) : ∃ w', (Instr.mapUpdate 65 (.map (some bb)) (strV s) (.int .i64 v)).run Tryd.prog w = .ok () w' ∧ Ak W0 g pb cb bb A A' c c' t M (fun x => if x = s then v else B x) bad w' ∧ w.grownBy w' (some bb) := by
  obtain ⟨D, hD, hv⟩ := h.bnd
  obtain ⟨w', hr, hm, hg⟩ := store65 hD s (.int .i64 v)
  refine ⟨w', hr, ⟨h.ask.grown hg (fun e => h.gb (Option.some.inj e)), h.mark.grown hg (fun e => h.pbb (Option.some.inj e)), h.len, h.con.keep (hg.block _ h.con.lt (fun e => h.ne (Option.some.inj e))), ⟨_, hm, fun x => ?_⟩, h.low.grown hg h.low.size (fun k hk => by obtain rfl := Option.some.inj hk; exact h.lb), h.lg, h.lp, h.lc, h.lb, h.ne, h.tree⟩, hg⟩
  by_cases hx : x = s
  · simp [hx]
  · simp only [if_neg hx]
    exact hv x
end
end Go.Proofs.YtphojigdapaaiaaDoor
