/- The most general common instance of two types: what it is, that there is one at most, and that a most general way of making trees one gives it. -/
import Derived.Test.YtcilodgpbdafeaaDoorTUni
namespace Go.Proofs.YtcilodgpbdafeaaDoor
set_option linter.unusedVariables false
set_option linter.unusedSimpArgs false
/-- The most general common instance, normal; none: there is no common instance. -/
def MeetR (a b : List Part) : Option (List Part) → Prop
  | some m => Inst a m ∧ Inst b m ∧ norm m = m ∧ ∀ c, Inst a c → Inst b c → Inst m c
  | none => ∀ c, Inst a c → Inst b c → False
def WfS (θ : Int → Ty) : Prop := ∀ n, 0 ≤ n → (θ n).wf
theorem sub_wf {θ : Int → Ty} (h : WfS θ) (T : Ty) : T.wf → (sub θ T).wf := by
  induction T with
  | leaf k t => exact id
  | var n => exact h n
  | one k s ih => exact fun hw => ⟨hw.1, ih hw.2⟩
  | two k s u ih1 ih2 => exact fun hw => ⟨hw.1, ih1 hw.2.1, ih2 hw.2.2⟩
theorem WfS.var : WfS Ty.var := fun _ h => h
theorem WfS.bind {v : Int} {T : Ty} (hT : T.wf) : WfS (bind1 v T) := by
  intro n hn
  unfold bind1
  split
  · exact hT
  · exact hn
theorem WfS.comp {θ θ' : Int → Ty} (h : WfS θ) (h' : WfS θ') : WfS fun n => sub θ' (θ n) := fun n hn => sub_wf h' _ (h n hn)
theorem sub_le (τ : Int → Ty) (T : Ty) : T.size ≤ (sub τ T).size := by
  induction T with
  | leaf k t => exact Nat.le_refl _
  | var n => exact (τ n).size_pos
  | one k s ih => show s.size + 1 ≤ (sub τ s).size + 1; omega
  | two k s u ih1 ih2 => show s.size + u.size + 1 ≤ (sub τ s).size + (sub τ u).size + 1; omega
theorem sub_agree {L : List Int} {τ τ' : Int → Ty} (h : ∀ x ∈ L, τ x = τ' x) (T : Ty) : vin L T → sub τ T = sub τ' T := by
  induction T with
  | leaf k t => intro _; rfl
  | var n => exact h n
  | one k s ih => intro hv; show Ty.one k _ = Ty.one k _; rw [ih hv]
  | two k s u ih1 ih2 => intro hv; show Ty.two k _ _ = Ty.two k _ _; rw [ih1 hv.1, ih2 hv.2]
/-- The variables of two trees, turned so that none of the one is one of the other. -/
structure Apart (A B S T : Ty) (VA VB : List Int) (ia ib : Int → Int) : Prop where
  va : vin VA A
  vb : vin VB B
  ja : ∀ x ∈ VA, ∀ y ∈ VA, ia x = ia y → x = y
  jb : ∀ x ∈ VB, ∀ y ∈ VB, ib x = ib y → x = y
  ne : ∀ x ∈ VA, ∀ y ∈ VB, ia x ≠ ib y
  ea : S = sub (fun n => .var (ia n)) A
  eb : T = sub (fun n => .var (ib n)) B
theorem Apart.join {A B S T : Ty} {VA VB : List Int} {ia ib : Int → Int} (h : Apart A B S T VA VB ia ib) (τa τb : Int → Ty) : ∃ τ : Int → Ty, sub τ S = sub τa A ∧ sub τ T = sub τb B := by
  classical
  refine ⟨fun z => if h : ∃ n, n ∈ VA ∧ ia n = z then τa h.choose else if h : ∃ n, n ∈ VB ∧ ib n = z then τb h.choose else .var z, ?_, ?_⟩
  · rw [h.ea, sub_sub]
    refine sub_agree (fun x hx => ?_) A h.va
    show (if h : ∃ n, n ∈ VA ∧ ia n = ia x then τa h.choose else _) = _
    have he : ∃ n, n ∈ VA ∧ ia n = ia x := ⟨x, hx, rfl⟩
    rw [dif_pos he]
    have hc := he.choose_spec
    rw [h.ja _ hc.1 _ hx hc.2]
  · rw [h.eb, sub_sub]
    refine sub_agree (fun x hx => ?_) B h.vb
    show (if h : ∃ n, n ∈ VA ∧ ia n = ib x then τa h.choose else if h : ∃ n, n ∈ VB ∧ ib n = ib x then τb h.choose else _) = _
    rw [dif_neg (by rintro ⟨n, hn, e⟩; exact h.ne n hn x hx e)]
    have he : ∃ n, n ∈ VB ∧ ib n = ib x := ⟨x, hx, rfl⟩
    rw [dif_pos he]
    have hc := he.choose_spec
    rw [h.jb _ hc.1 _ hx hc.2]
theorem meet_some {A B S T : Ty} {VA VB : List Int} {ia ib : Int → Int} (h : Apart A B S T VA VB ia ib) (wA : A.wf) (wB : B.wf) (zA : A.size ≤ 200) (zB : B.size ≤ 200) {θ : Int → Ty} (hm : Mgu θ S T) (hw : (sub θ S).wf) (hs : (sub θ S).size ≤ 200) :
    MeetR (enc 0 A) (enc 0 B) (some (norm (enc 0 (sub θ S)))) := by
  have hg : gTy (enc 0 (sub θ S)) = true := (gTy_iff _).2 ⟨_, hw, rfl, hs⟩
  have hi := inst_norm hg
  refine ⟨Inst.trans ⟨A, _, wA, hw, zA, hs, rfl, rfl, ?_⟩ hi, Inst.trans ⟨B, _, wB, hw, zB, hs, rfl, rfl, ?_⟩ hi, norm_norm _, ?_⟩
  · exact ⟨_, by rw [h.ea, sub_sub]⟩
  · exact ⟨_, by rw [hm.1, h.eb, sub_sub]⟩
  · rintro c ⟨A', C, wA', wC, _, zC, e1, rfl, τa, ta⟩ ⟨B', C', wB', wC', _, _, e2, e3, τb, tb⟩
    have e1 := enc_inj wA wA' e1
    have e2 := enc_inj wB wB' e2
    have e3 := enc_inj wC wC' e3
    subst e1 e2 e3
    obtain ⟨τ, h1, h2⟩ := h.join τa τb
    have hu : sub τ S = sub τ T := by rw [h1, h2, ta, tb]
    have ht := hm.2 τ hu
    refine Inst.trans (norm_inst hg) ⟨_, C, hw, wC, hs, zC, rfl, rfl, τ, ?_⟩
    rw [sub_sub, sub_congr ht, h1, ta]
theorem meet_none {A B S T : Ty} {VA VB : List Int} {ia ib : Int → Int} (h : Apart A B S T VA VB ia ib) (wA : A.wf) (wB : B.wf) (hn : (∀ τ, sub τ S ≠ sub τ T) ∨ ∃ θ, Mgu θ S T ∧ 200 < (sub θ S).size) :
    MeetR (enc 0 A) (enc 0 B) none := by
  rintro c ⟨A', C, wA', wC, _, zC, e1, rfl, τa, ta⟩ ⟨B', C', wB', wC', _, _, e2, e3, τb, tb⟩
  have e1 := enc_inj wA wA' e1
  have e2 := enc_inj wB wB' e2
  have e3 := enc_inj wC wC' e3
  subst e1 e2 e3
  obtain ⟨τ, h1, h2⟩ := h.join τa τb
  have hu : sub τ S = sub τ T := by rw [h1, h2, ta, tb]
  rcases hn with hn | ⟨θ, hm, hz⟩
  · exact hn τ hu
  · have ht := hm.2 τ hu
    have e : sub τ (sub θ S) = C := by rw [sub_sub, sub_congr ht, h1, ta]
    have := sub_le τ (sub θ S)
    rw [e] at this
    omega
theorem Inst.good {a b : List Part} (h : Inst a b) : gTy a = true ∧ gTy b = true := by
  obtain ⟨S, T, wS, wT, zS, zT, rfl, rfl, _⟩ := h
  exact ⟨(gTy_iff _).2 ⟨S, wS, rfl, zS⟩, (gTy_iff _).2 ⟨T, wT, rfl, zT⟩⟩
theorem meet_bad {a b : List Part} (h : gTy a = false ∨ gTy b = false) : MeetR a b none := by
  intro c h1 h2
  rcases h with h | h
  · rw [h1.good.1] at h; cases h
  · rw [h2.good.1] at h; cases h
/-- A part with its number turned. -/
def rn (f : Int → Int) (p : Part) : Part := if p.k = 11 then { p with n := f p.n } else p
theorem enc_rn {f : Int → Int} (T : Ty) : ∀ o, T.wf → enc o (sub (fun n => .var (f n)) T) = (enc o T).map (rn f) := by
  have hz : ∀ T : Ty, (sub (fun n => .var (f n)) T).size = T.size := by
    intro T
    induction T with
    | leaf k t => rfl
    | var n => rfl
    | one k s ih => show (sub _ s).size + 1 = _; rw [ih]; rfl
    | two k s u ih1 ih2 => show (sub _ s).size + (sub _ u).size + 1 = _; rw [ih1, ih2]; rfl
  induction T with
  | leaf k t =>
    intro o h
    show [_] = [_]
    unfold rn
    rw [if_neg (by simp only [Ty.wf] at h; simp only; omega)]
  | var n => intro o _; rfl
  | one k s ih =>
    intro o h
    show enc o (sub _ s) ++ [⟨k, ((o + (sub _ s).size - 1 : Nat) : Int), 0, 0, []⟩] = (enc o s ++ [_]).map _
    rw [List.map_append, ih o h.2, hz]
    congr 1
    show [_] = [rn f _]
    unfold rn
    rw [if_neg (by have := h.1; simp only; omega)]
  | two k s u ih1 ih2 =>
    intro o h
    show enc o (sub _ s) ++ enc (o + (sub _ s).size) (sub _ u) ++ [⟨k, ((o + (sub _ s).size - 1 : Nat) : Int), ((o + (sub _ s).size + (sub _ u).size - 1 : Nat) : Int), 0, []⟩] = (enc o s ++ enc (o + s.size) u ++ [_]).map _
    rw [List.map_append, List.map_append, hz, hz, ih1 o h.2.1, ih2 _ h.2.2]
    congr 1
    show [_] = [rn f _]
    unfold rn
    rw [if_neg (by have := h.1; simp only; omega)]
/-- Numbers turned one to one: they come in the same order. -/
theorem nums_rn {f : Int → Int} (l : List Part) : ∀ (N : List Int), (∀ x ∈ nums l N, ∀ y ∈ nums l N, f x = f y → x = y) → nums (l.map (rn f)) (N.map f) = (nums l N).map f := by
  induction l with
  | nil => intro N _; rfl
  | cons p l ih =>
    intro N h
    have hk : (rn f p).k = p.k := by unfold rn; split <;> rfl
    show nums (l.map _) (if (rn f p).k = 11 ∧ _ then _ else _) = (nums l (if p.k = 11 ∧ p.n ∉ N then N ++ [p.n] else N)).map f
    rw [hk]
    by_cases h11 : p.k = 11
    · have hn : (rn f p).n = f p.n := by unfold rn; rw [if_pos h11]
      rw [hn]
      by_cases hin : p.n ∈ N
      · have e : nums (p :: l) N = nums l N := by
          show nums l (if p.k = 11 ∧ p.n ∉ N then _ else _) = _
          rw [if_neg (fun h => h.2 hin)]
        rw [if_neg (fun h => h.2 (List.mem_map.2 ⟨_, hin, rfl⟩)), if_neg (fun h => h.2 hin)]
        exact ih N (by rw [← e]; exact h)
      · have e : nums (p :: l) N = nums l (N ++ [p.n]) := by
          show nums l (if p.k = 11 ∧ p.n ∉ N then _ else _) = _
          rw [if_pos ⟨h11, hin⟩]
        rw [e] at h
        have hnin : f p.n ∉ N.map f := fun hm => by
          obtain ⟨y, hy, e⟩ := List.mem_map.1 hm
          have := h y (nums_sub l _ _ (List.mem_append_left _ hy)) p.n (nums_sub l _ _ (by simp)) e
          exact hin (this ▸ hy)
        rw [if_pos ⟨h11, hnin⟩, if_pos ⟨h11, hin⟩]
        have := ih (N ++ [p.n]) h
        rw [List.map_append] at this
        exact this
    · rw [if_neg (fun h => h11 h.1), if_neg (fun h => h11 h.1)]
      have e : nums (p :: l) N = nums l N := by
        show nums l (if p.k = 11 ∧ p.n ∉ N then _ else _) = _
        rw [if_neg (fun h => h11 h.1)]
      exact ih N (by rw [← e]; exact h)
theorem idx_map {f : Int → Int} (N : List Int) (x : Int) (hx : x ∈ N) (h : ∀ y ∈ N, f y = f x → y = x) : (N.map f).idxOf (f x) = N.idxOf x := by
  induction N with
  | nil => cases hx
  | cons y N ih =>
    rw [List.map_cons, List.idxOf_cons, List.idxOf_cons]
    by_cases e : y = x
    · subst e; simp
    · have hne : ¬ f y = f x := fun e' => e (h y (List.mem_cons_self ..) e')
      have hx' : x ∈ N := (List.mem_cons.1 hx).resolve_left (fun e' => e e'.symm)
      rw [beq_false_of_ne hne, beq_false_of_ne e, cond_false, cond_false, ih hx' fun z hz => h z (List.mem_cons_of_mem _ hz)]
theorem norm_rn {f : Int → Int} (l : List Part) (h : ∀ x ∈ nums l [], ∀ y ∈ nums l [], f x = f y → x = y) : norm (l.map (rn f)) = norm l := by
  unfold norm
  rw [show nums (l.map (rn f)) [] = (nums l []).map f from nums_rn l [] h, List.map_map]
  refine List.map_congr_left fun p hp => ?_
  show ren _ (rn f p) = ren _ p
  by_cases hk : p.k = 11
  · have hm := nums_mem l [] p hp hk
    have e1 : rn f p = { p with n := f p.n } := by unfold rn; rw [if_pos hk]
    rw [e1]
    unfold ren
    rw [if_pos hk, if_pos hk]
    show ({ p with n := _ } : Part) = { p with n := _ }
    rw [idx_map _ _ hm fun y hy e => h y hy _ hm e]
  · have e1 : rn f p = p := by unfold rn; rw [if_neg hk]
    rw [e1]
    unfold ren
    rw [if_neg hk, if_neg hk]
/-- Types that are instances of one another have one normal one. -/
theorem inst_norm_eq {a b : List Part} (h : Inst a b) (h' : Inst b a) : norm a = norm b := by
  obtain ⟨S, T, wS, wT, _, _, rfl, rfl, τ, hτ⟩ := h
  obtain ⟨T', S', wT', wS', _, _, e1, e2, τ', hτ'⟩ := h'
  have e1 := enc_inj wT wT' e1
  have e2 := enc_inj wS wS' e2
  subst e1 e2
  -- on the variables of S, τ is a turning of numbers
  have hv : ∀ U : Ty, sub τ' (sub τ U) = U → ∀ o, ∀ p ∈ enc o U, p.k = 11 → U.wf → ∃ m, τ p.n = .var m ∧ τ' m = .var p.n := by
    intro U
    induction U with
    | leaf k t => intro _ o p hp hk hw; rw [List.mem_singleton.1 hp] at hk; simp only [Ty.wf] at hw; simp only at hk; exfalso; omega
    | var n =>
      intro e o p hp hk _
      rw [List.mem_singleton.1 hp]
      have e' : sub τ' (τ n) = .var n := e
      show ∃ m, τ n = .var m ∧ τ' m = .var n
      cases hx : τ n with
      | leaf k t => rw [hx] at e'; cases e'
      | var m => rw [hx] at e'; exact ⟨m, rfl, e'⟩
      | one k s => rw [hx] at e'; cases e'
      | two k s u => rw [hx] at e'; cases e'
    | one k s ih =>
      intro e o p hp hk hw
      have e' : Ty.one k (sub τ' (sub τ s)) = .one k s := e
      injection e' with _ e'
      rcases List.mem_append.1 hp with hp | hp
      · exact ih e' o p hp hk hw.2
      · rw [List.mem_singleton.1 hp] at hk; have := hw.1; simp only at hk; exfalso; omega
    | two k s u ih1 ih2 =>
      intro e o p hp hk hw
      have e' : Ty.two k (sub τ' (sub τ s)) (sub τ' (sub τ u)) = .two k s u := e
      injection e' with _ e1 e2
      rcases List.mem_append.1 hp with hp | hp
      · rcases List.mem_append.1 hp with hp | hp
        · exact ih1 e1 o p hp hk hw.2.1
        · exact ih2 e2 _ p hp hk hw.2.2
      · rw [List.mem_singleton.1 hp] at hk; have := hw.1; simp only at hk; exfalso; omega
  have hvS := hv S (by rw [hτ, hτ'])
  let f : Int → Int := fun n => match τ n with | .var m => m | _ => 0
  have hf : ∀ p ∈ enc 0 S, p.k = 11 → τ p.n = .var (f p.n) ∧ τ' (f p.n) = .var p.n := by
    intro p hp hk
    obtain ⟨m, h1, h2⟩ := hvS 0 p hp hk wS
    have e : f p.n = m := by show (match τ p.n with | .var m => m | _ => 0) = m; rw [h1]
    rw [e]; exact ⟨h1, h2⟩
  have hnum : ∀ (l : List Part) (N : List Int) (x : Int), x ∈ nums l N → x ∈ N ∨ ∃ p ∈ l, p.k = 11 ∧ p.n = x := by
    intro l
    induction l with
    | nil => intro N x h; exact .inl h
    | cons p l ih =>
      intro N x h
      rcases ih _ x h with h | ⟨q, hq, h1, h2⟩
      · split at h
        · rename_i hp
          rcases List.mem_append.1 h with h | h
          · exact .inl h
          · rw [List.mem_singleton] at h; exact .inr ⟨p, List.mem_cons_self .., hp.1, h.symm⟩
        · exact .inl h
      · exact .inr ⟨q, List.mem_cons_of_mem _ hq, h1, h2⟩
  have hvars : ∀ x ∈ nums (enc 0 S) [], ∃ p ∈ enc 0 S, p.k = 11 ∧ p.n = x := fun x hx => (hnum _ _ _ hx).resolve_left (fun h => by cases h)
  have hin : ∀ (U : Ty) (o : Nat), U.wf → ∀ (L : List Int), (∀ p ∈ enc o U, p.k = 11 → p.n ∈ L) → vin L U := by
    intro U
    induction U with
    | leaf k t => intro _ _ _ _; trivial
    | var n => intro o _ L h; exact h ⟨11, 0, 0, n, []⟩ (List.mem_singleton.2 rfl) rfl
    | one k s ih => intro o hw L h; exact ih o hw.2 L fun p hp => h p (List.mem_append_left _ hp)
    | two k s u ih1 ih2 => intro o hw L h; exact ⟨ih1 o hw.2.1 L fun p hp => h p (List.mem_append_left _ (List.mem_append_left _ hp)), ih2 _ hw.2.2 L fun p hp => h p (List.mem_append_left _ (List.mem_append_right _ hp))⟩
  have hT : T = sub (fun n => .var (f n)) S := by
    rw [← hτ]
    refine sub_agree (L := nums (enc 0 S) []) (fun x hx => ?_) S (hin S 0 wS _ fun p hp hk => nums_mem _ _ p hp hk)
    obtain ⟨p, hp, hk, rfl⟩ := hvars x hx
    exact (hf p hp hk).1
  rw [hT, enc_rn S 0 wS, norm_rn]
  intro x hx y hy e
  obtain ⟨p, hp, hk, rfl⟩ := hvars x hx
  obtain ⟨q, hq, hkq, rfl⟩ := hvars y hy
  have h1 := (hf p hp hk).2
  have h2 := (hf q hq hkq).2
  rw [e, h2] at h1
  injection h1 with h1
  exact h1.symm
/-- There is one at most. -/
theorem MeetR.one {a b : List Part} {r r' : Option (List Part)} (h : MeetR a b r) (h' : MeetR a b r') : r = r' := by
  cases r with
  | none => cases r' with
    | none => rfl
    | some m' => exact (h m' h'.1 h'.2.1).elim
  | some m => cases r' with
    | none => exact (h' m h.1 h.2.1).elim
    | some m' =>
      have h1 := h.2.2.2 m' h'.1 h'.2.1
      have h2 := h'.2.2.2 m h.1 h.2.1
      have := inst_norm_eq h1 h2
      rw [h.2.2.1, h'.2.2.1] at this
      rw [this]
theorem MeetR.symm {a b : List Part} {r : Option (List Part)} (h : MeetR a b r) : MeetR b a r := by
  cases r with
  | none => exact fun c h1 h2 => h c h2 h1
  | some m => exact ⟨h.2.1, h.1, h.2.2.1, fun c h1 h2 => h.2.2.2 c h2 h1⟩
theorem MeetR.self {a : List Part} (h : gTy a = true) : MeetR a a (some (norm a)) :=
  ⟨inst_norm h, inst_norm h, norm_norm a, fun c h1 _ => (norm_inst h).trans h1⟩
/-- An instance meets its type as itself, normal. -/
theorem MeetR.inst {a b : List Part} (h : Inst a b) : MeetR a b (some (norm b)) :=
  ⟨h.trans (inst_norm h.good.2), inst_norm h.good.2, norm_norm b, fun c _ h2 => (norm_inst h.good.2).trans h2⟩
end Go.Proofs.YtcilodgpbdafeaaDoor
