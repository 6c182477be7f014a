/- term.Meet: two nodes are made one, in the most general way, or there is none. -/
import Derived.Test.YtcilodgpbdafeaaDoorTWth
import Derived.StillTailTactics
import Derived.Deep.QuietTactic
import Derived.BigQuiet
namespace Go.Proofs.YtcilodgpbdafeaaDoor
open Go.ChangeShapes Go.WideShapes Go.ChangeAt Go.RowKit
set_option linter.unusedVariables false
set_option linter.unusedSimpArgs false
/-- What is no node stays. -/
structure Turned (N : Nat → Option Nd) (W W' : World) : Prop where
  os : W'.os = W.os
  tape : W'.tape = W.tape
  output : W'.output = W.output
  size : W.heap.size ≤ W'.heap.size
  block : ∀ k, k < W.heap.size → N k = none → W'.heap[k]? = W.heap[k]?
def Dom (N N' : Nat → Option Nd) : Prop := ∀ x, N' x = none ↔ N x = none
def Carries (N N' : Nat → Option Nd) (θ : Int → Ty) : Prop := ∀ g U, Den N g U → Den N' g (sub θ U)
section
variable {N N' N'' : Nat → Option Nd} {W W' W'' : World}
theorem Turned.refl (W : World) : Turned N W W := ⟨rfl, rfl, rfl, Nat.le_refl _, fun _ _ _ => rfl⟩
theorem Turned.of_below (h : Below W.heap.size W W') : Turned N W W' := ⟨h.os, h.tape, h.output, h.size, fun k hk _ => h.block k hk⟩
theorem Turned.trans (h : Turned N W W') (hd : Dom N N') (h' : Turned N' W' W'') : Turned N W W'' :=
  ⟨h'.os.trans h.os, h'.tape.trans h.tape, h'.output.trans h.output, Nat.le_trans h.size h'.size, fun k hk hn => (h'.block k (Nat.lt_of_lt_of_le hk h.size) ((hd k).2 hn)).trans (h.block k hk hn)⟩
theorem Turned.set (h : Turned N W W') {g : Nat} {nd : Nd} (hg : N g = some nd) (i : Nat) (u : Value) : Turned N W (W'.setCell ⟨g, i, none⟩ u) :=
  ⟨h.os, h.tape, h.output, by rw [World.size_setCell]; exact h.size, fun k hk hn => (Below.heap_setCell W' ⟨g, i, none⟩ u k (by intro e; subst e; rw [hg] at hn; cases hn)).trans (h.block k hk hn)⟩
theorem Turned.drew (h : Turned N W W') : Turned N W W'.drew := ⟨h.os, h.tape, h.output, h.size, h.block⟩
theorem Turned.drewN (h : Turned N W W') (n : Nat) : Turned N W (W'.drewN n) := ⟨h.os, h.tape, h.output, h.size, h.block⟩
theorem Turned.reads {B size k : Nat} {A : Option Addr} {xs : List Value} (h : Turned N W W') (hr : Reads W B size A k xs) (hB : B ≤ W.heap.size) (hA : 0 < k → ∀ ad, A = some ad → N ad.block = none) : Reads W' B size A k xs := by
  refine ⟨hr.1, fun hn => ?_⟩
  obtain ⟨ad, e, hlt, hc⟩ := hr.2 hn
  refine ⟨ad, e, hlt, fun j u hu => ?_⟩
  have hbl := block_of_add ad j
  rw [← hc j u hu]
  have := h.block ad.block (by omega) (hA hn ad e)
  unfold World.cell?
  rw [hbl, this]
theorem Dom.refl : Dom N N := fun _ => Iff.rfl
theorem Dom.trans (h : Dom N N') (h' : Dom N' N'') : Dom N N'' := fun x => (h' x).trans (h x)
theorem Dom.upd (g x : Nat) : Dom N (upd N g x) := by
  intro y
  unfold Go.Proofs.YtcilodgpbdafeaaDoor.upd
  split
  · rename_i e
    subst e
    cases N y <;> simp
  · exact Iff.rfl
theorem Carries.refl : Carries N N .var := fun g U h => by rw [sub_var]; exact h
theorem Carries.trans {θ θ' : Int → Ty} (h : Carries N N' θ) (h' : Carries N' N'' θ') : Carries N N'' fun n => sub θ' (θ n) := fun g U hd => by
  have := h' _ _ (h _ _ hd)
  rw [sub_sub] at this
  exact this
theorem TMem.fresh (h : TMem W N) {g : Nat} (hg : W.heap.size ≤ g) : N g = none := by
  cases hn : N g with
  | none => rfl
  | some d => have := (h g d hn).lt; omega
theorem TMem.drew (h : TMem W N) : TMem W.drew N := h
theorem TMem.drewN (h : TMem W N) (n : Nat) : TMem (W.drewN n) N := h
end
/-- What becomes of two nodes that are made one. -/
def MtEnd (N : Nat → Option Nd) (L : List Int) (S T : Ty) (W : World) (e : Ending) (W' : World) : Prop :=
  ∃ r, e = .returned (.bool r) ∧ Turned N W W' ∧ (r = false → ∀ τ, sub τ S ≠ sub τ T) ∧ (r = true → ∃ θ N', Mgu θ S T ∧ TMem W' N' ∧ Dom N N' ∧ Carries N N' θ ∧ WfS θ ∧ Fewer L θ)
theorem MtEnd.swap {N : Nat → Option Nd} {L : List Int} {S T : Ty} {W : World} {e : Ending} {W' : World} (h : MtEnd N L T S W e W') : MtEnd N L S T W e W' := by
  obtain ⟨r, e1, h1, h2, h3⟩ := h
  refine ⟨r, e1, h1, fun hr τ ht => h2 hr τ ht.symm, fun hr => ?_⟩
  obtain ⟨θ, N', hm, h4⟩ := h3 hr
  exact ⟨θ, N', hm.symm, h4⟩
theorem Den.cells {W : World} {N : Nat → Option Nd} {r : Nat} {T : Ty} (h : Den N r T) (hr : Root N r) (hN : TMem W N) :
    W.cell? ⟨r, 0, none⟩ = some (.int .i64 T.kind) ∧ W.cell? ⟨r, 1, none⟩ = some (strV T.text) ∧ W.frozen? ⟨r, 4, none⟩ = false := by
  obtain ⟨⟨nd, e1, e2, e3, _⟩, _⟩ := h.parts hr
  have hb := hN _ _ e1
  exact ⟨by rw [← e2]; exact hb.cell 0, by rw [← e3]; exact hb.cell 1, hb.frozen 4⟩
set_option maxRecDepth 100000 in
set_option maxHeartbeats 4000000 in
theorem c32v {N : Nat → Option Nd} {L : List Int} {v a b ka : Nat} {T : Ty} (ha : Rep N a v ka) (hv : Den N v (.var v)) (hb : Den N b T) (hT : T.wf) (vL : (v : Int) ∈ L) (vT : vin L T) (W : World) (hN : TMem W N) :
    Calls Tryd.prog 32 #[ptr a, ptr b] W (MtEnd N L (.var v) T W) := by
  obtain ⟨r, kb, hr, hdr⟩ := hb.rep
  have ra := ha.isRoot
  have rr := hr.isRoot
  obtain ⟨a0, _, a4⟩ := hv.cells ra hN
  obtain ⟨nda, ea, _⟩ := ra
  obtain ⟨ndr, er, _⟩ := rr
  have hq := eql51 (hN _ _ ea) (hN _ _ er)
  have la := (hN _ _ ea).lt
  have HA := Lib.hid ha
  have HR := Lib.hid hr
  have HD := Lib.hid hdr
  have HN := Lib.hid hN
  have HV := Lib.hid hv
  have RA := Lib.hid ha.isRoot
  have RR := Lib.hid hr.isRoot
  have EA := Lib.hid ea
  have ER := Lib.hid er
  have HVL := Lib.hid vL
  have HVT := Lib.hid vT
  have HWf := Lib.hid hT
  clear ha hr hdr hN hv ea er vL vT hb hT
  replace a0 : W.cell? ⟨v, 0, none⟩ = some (.int .i64 11) := a0
  by_cases hvr : v = r
  · subst hvr
    have eT : T = .var v := HD.out.fn HV.out
    rw [beq_self_eq_true] at hq
    have ET := Lib.hid eT
    clear eT
    go_enter Tryd.func32, Tryd.ntmps32
    go_wp2_with fail
    refine (c41 HA.out W HN.out).mono ?_
    rintro e _ ⟨rfl, rfl⟩
    go_wp2_with fail
    refine (c41 HR.out W HN.out).mono ?_
    rintro e _ ⟨rfl, rfl⟩
    go_wp2_with fail
    go_ret
    refine ⟨true, rfl, Turned.refl _, fun h => (by cases h), fun _ => ⟨.var, N, ?_, HN.out, Dom.refl, Carries.refl, WfS.var, .inl fun _ => rfl⟩⟩
    rw [ET.out]
    exact Mgu.id _
  · rw [beq_false_of_ne hvr] at hq
    have HVR := Lib.hid hvr
    clear hvr
    have hmm := @run_makeMap Tryd.prog
    go_enter Tryd.func32, Tryd.ntmps32
    go_wp2_with fail
    refine (c41 HA.out W HN.out).mono ?_
    rintro e _ ⟨rfl, rfl⟩
    go_wp2_with fail
    refine (c41 HR.out W HN.out).mono ?_
    rintro e _ ⟨rfl, rfl⟩
    go_wp2_with fail
    refine (c42 HV.out RA.out T.size T r _ W.heap.size 0 (fun _ => none) (Nat.le_refl _) (HN.out.alloc _) HD.out (PMap.made W) (fun x u h => by cases h)).mono ?_
    rintro e w1 ⟨rfl, hw⟩
    have HWt := Lib.hid hw
    clear hw
    cases ho : occ v T with
    | true =>
      have HO := Lib.hid ho
      clear ho
      go_wp2_with fail
      go_ret
      obtain ⟨D', n', hg, _⟩ := HWt.out
      refine ⟨false, rfl, Turned.of_below ((below_new W _).grown hg (by rw [World.size_alloc]; omega) (fun k e => by injection e with e; omega)), fun _ τ => no_occ HO.out (fun e => HVR.out ?_) τ, fun h => by cases h⟩
      rw [e] at HD
      exact (RR.out.var HD.out).symm
    | false =>
      have HO := Lib.hid ho
      clear ho
      have hbel : Below W.heap.size W w1 := by
        obtain ⟨D', n', hg, _⟩ := HWt.out
        exact (below_new W _).grown hg (by rw [World.size_alloc]; omega) (fun k e => by injection e with e; omega)
      have HB := Lib.hid hbel
      have HN1 := Lib.hid (HN.out.next hbel)
      have f1 := (HN1.out _ _ EA.out).frozen 4
      have l1 := (HN1.out _ _ EA.out).lt
      have c1 := (HN1.out _ _ EA.out).cell 4
      clear hbel a4 a0
      go_wp2_with fail
      go_ret
      have hnr : Root N v := RA.out
      refine ⟨true, rfl, (Turned.of_below HB.out).set EA.out 4 _, fun h => (by cases h), fun _ => ⟨bind1 v T, upd N v r, Mgu.bind HO.out, HN1.out.upd v r, Dom.upd v r, ?_, WfS.bind HWf.out, Fewer.bind HVL.out HVT.out HO.out⟩⟩
      exact fun g U hd => Den.bound HV.out RA.out HD.out HO.out hd
theorem subs_wf {T : Ty} (h : T.wf) : ∀ U ∈ T.subs, U.wf := by
  cases T with
  | leaf k t => intro U hU; cases hU
  | var n => intro U hU; cases hU
  | one k s => intro U hU; rw [List.mem_singleton.1 hU]; exact h.2
  | two k s u =>
    intro U hU
    rcases List.mem_cons.1 hU with rfl | hU
    · exact h.2.1
    · rw [List.mem_singleton.1 hU]; exact h.2.2
theorem subs_vin {L : List Int} {T : Ty} (h : vin L T) : ∀ U ∈ T.subs, vin L U := by
  cases T with
  | leaf k t => intro U hU; cases hU
  | var n => intro U hU; cases hU
  | one k s => intro U hU; rw [List.mem_singleton.1 hU]; exact h
  | two k s u =>
    intro U hU
    rcases List.mem_cons.1 hU with rfl | hU
    · exact h.1
    · rw [List.mem_singleton.1 hU]; exact h.2
/-- Two trees that are no variables, of one kind and text: as long lists of parts; made one just if these are. -/
theorem subs_eq {S T : Ty} (wS : S.wf) (wT : T.wf) (hS : ∀ n, S ≠ .var n) (hT : ∀ n, T ≠ .var n) (hk : S.kind = T.kind) (ht : S.text = T.text) :
    S.subs.length = T.subs.length ∧ ∀ τ, sub τ S = sub τ T ↔ S.subs.map (sub τ) = T.subs.map (sub τ) := by
  cases S with
  | var n => exact absurd rfl (hS n)
  | leaf k t =>
    cases T with
    | var n => exact absurd rfl (hT n)
    | leaf k' t' =>
      have e1 : k = k' := hk
      have e2 : t = t' := ht
      subst e1 e2
      exact ⟨rfl, fun τ => by simp⟩
    | one k' s' =>
      have e1 : k = k' := hk
      simp only [Ty.wf] at wS wT
      exfalso; omega
    | two k' s' u' =>
      have e1 : k = k' := hk
      simp only [Ty.wf] at wS wT
      exfalso; omega
  | one k s =>
    have e1 : k = T.kind := hk
    cases T with
    | var n => exact absurd rfl (hT n)
    | leaf k' t' =>
      simp only [Ty.wf, Ty.kind] at wS wT e1
      exfalso; omega
    | one k' s' =>
      simp only [Ty.kind] at e1
      subst e1
      exact ⟨rfl, fun τ => by simp [sub, Ty.subs]⟩
    | two k' s' u' =>
      simp only [Ty.wf, Ty.kind] at wS wT e1
      exfalso; omega
  | two k s u =>
    have e1 : k = T.kind := hk
    cases T with
    | var n => exact absurd rfl (hT n)
    | leaf k' t' =>
      simp only [Ty.wf, Ty.kind] at wS wT e1
      exfalso; omega
    | one k' s' =>
      simp only [Ty.wf, Ty.kind] at wS wT e1
      exfalso; omega
    | two k' s' u' =>
      simp only [Ty.kind] at e1
      subst e1
      exact ⟨rfl, fun τ => by simp [sub, Ty.subs]⟩
theorem sub_kind (τ : Int → Ty) {S : Ty} (h : ∀ n, S ≠ .var n) : (sub τ S).kind = S.kind ∧ (sub τ S).text = S.text := by
  cases S with
  | var n => exact absurd rfl (h n)
  | leaf k t => exact ⟨rfl, rfl⟩
  | one k s => exact ⟨rfl, rfl⟩
  | two k s u => exact ⟨rfl, rfl⟩
/-- The most general way to make two lists of trees one. -/
def MguL (θ : Int → Ty) (l l' : List Ty) : Prop := l.map (sub θ) = l'.map (sub θ) ∧ ∀ τ, l.map (sub τ) = l'.map (sub τ) → ∀ n, sub τ (θ n) = τ n
theorem MguL.nil : MguL .var [] [] := ⟨rfl, fun _ _ _ => rfl⟩
theorem MguL.snoc {θ θ' : Int → Ty} {l l' : List Ty} {U V : Ty} (h : MguL θ l l') (h' : Mgu θ' (sub θ U) (sub θ V)) : MguL (fun n => sub θ' (θ n)) (l ++ [U]) (l' ++ [V]) := by
  refine ⟨?_, fun τ ht n => ?_⟩
  · rw [List.map_append, List.map_append]
    have e : ∀ X : Ty, sub (fun n => sub θ' (θ n)) X = sub θ' (sub θ X) := fun X => (sub_sub θ θ' X).symm
    congr 1
    · have := congrArg (List.map (sub θ')) h.1
      rw [List.map_map, List.map_map] at this
      rw [show l.map (sub fun n => sub θ' (θ n)) = l.map (sub θ' ∘ sub θ) from List.map_congr_left fun X _ => e X, show l'.map (sub fun n => sub θ' (θ n)) = l'.map (sub θ' ∘ sub θ) from List.map_congr_left fun X _ => e X]
      exact this
    · show [_] = [_]
      rw [e, e, h'.1]
  · rw [List.map_append, List.map_append] at ht
    obtain ⟨h1, h2⟩ := List.append_inj' ht rfl
    have h3 := h.2 τ h1
    have h4 : sub τ U = sub τ V := by injection h2
    have e : ∀ X : Ty, sub τ (sub θ X) = sub τ X := fun X => by rw [sub_sub]; exact sub_congr h3 X
    show sub τ (sub θ' (θ n)) = _
    rw [sub_sub, sub_congr (h'.2 τ (by rw [e, e, h4])), h3]
theorem MguL.no {θ : Int → Ty} {l l' : List Ty} {U V : Ty} (h : MguL θ l l') (h' : ∀ τ, sub τ (sub θ U) ≠ sub τ (sub θ V)) (τ : Int → Ty) (e1 : l.map (sub τ) = l'.map (sub τ)) (e2 : sub τ U = sub τ V) : False := by
  have h3 := h.2 τ e1
  refine h' τ ?_
  rw [sub_sub, sub_sub, sub_congr h3, sub_congr h3, e2]
theorem Fewer.nxt {L : List Int} {θ θ' : Int → Ty} (h : ∀ n, θ n = .var n) (h' : Fewer L θ') : Fewer L fun n => sub θ' (θ n) := by
  have e : (fun n => sub θ' (θ n)) = θ' := by
    funext n
    rw [h n]
    rfl
  rw [e]
  exact h'
/-- What becomes of two parts, behind what was found ahead. -/
def MtPart (N : Nat → Option Nd) (L : List Int) (θ : Int → Ty) (U V : Ty) (W : World) (e : Ending) (W' : World) : Prop :=
  ∃ r, e = .returned (.bool r) ∧ Turned N W W' ∧ (r = false → ∀ τ, sub τ (sub θ U) ≠ sub τ (sub θ V)) ∧ (r = true → ∃ θ' N', Mgu θ' (sub θ U) (sub θ V) ∧ TMem W' N' ∧ Dom N N' ∧ Carries N N' θ' ∧ WfS θ' ∧ Fewer L fun n => sub θ' (θ n))
def MtOk (n m : Nat) : Prop := ∀ (N : Nat → Option Nd) (L : List Int) (a b : Nat) (S T : Ty) (W : World), L.length ≤ n → S.size ≤ m → TMem W N → Den N a S → Den N b T → S.wf → T.wf → vin L S → vin L T → Calls Tryd.prog 32 #[ptr a, ptr b] W (MtEnd N L S T W)
/-- Two parts, behind what was found ahead. -/
def MtStep (L : List Int) (m : Nat) : Prop := ∀ (N : Nat → Option Nd) (θ : Int → Ty) (x y : Nat) (U V : Ty) (W : World), Fewer L θ → WfS θ → U.size ≤ m → TMem W N → Den N x (sub θ U) → Den N y (sub θ V) → U.wf → V.wf → vin L U → vin L V → Calls Tryd.prog 32 #[ptr x, ptr y] W (MtPart N L θ U V W)
theorem MtOk.step {n m : Nat} {L : List Int} (hL : L.length ≤ n) (ihn : ∀ n' < n, ∀ m, MtOk n' m) (ihm : MtOk n m) : MtStep L m := by
  intro N θ x y U V W hF hW hm hN hx hy wU wV vU vV
  rcases hF with hi | ⟨v, hv, hs⟩
  · have eU := sub_id hi U
    have eV := sub_id hi V
    rw [eU] at hx
    rw [eV] at hy
    refine (ihm N L x y U V W hL hm hN hx hy wU wV vU vV).mono ?_
    rintro e w ⟨r, e1, h1, h2, h3⟩
    refine ⟨r, e1, h1, by rw [eU, eV]; exact h2, fun hr => ?_⟩
    obtain ⟨θ', N', g1, g2, g3, g4, g5, g6⟩ := h3 hr
    exact ⟨θ', N', by rw [eU, eV]; exact g1, g2, g3, g4, g5, g6.nxt hi⟩
  · have hlt := filter_len hv
    refine (ihn _ (Nat.lt_of_lt_of_le hlt hL) _ N _ x y _ _ W (Nat.le_refl _) (Nat.le_refl _) hN hx hy (sub_wf hW U wU) (sub_wf hW V wV) (vin_subF hs U vU) (vin_subF hs V vV)).mono ?_
    rintro e w ⟨r, e1, h1, h2, h3⟩
    refine ⟨r, e1, h1, h2, fun hr => ?_⟩
    obtain ⟨θ', N', g1, g2, g3, g4, g5, g6⟩ := h3 hr
    exact ⟨θ', N', g1, g2, g3, g4, g5, Fewer.comp hv hs g6⟩
/-- What stands behind the first k parts. -/
def MtAt (N : Nat → Option Nd) (L : List Int) (S T : Ty) (W : World) (k : Nat) (wr : World) : Prop :=
  ∃ θ N', Turned N W wr ∧ TMem wr N' ∧ Dom N N' ∧ Carries N N' θ ∧ WfS θ ∧ Fewer L θ ∧ MguL θ (S.subs.take k) (T.subs.take k)
set_option maxRecDepth 100000 in
set_option maxHeartbeats 8000000 in
theorem c32n {N : Nat → Option Nd} {L : List Int} {a b ra rb ka kb : Nat} {S T : Ty} (ha : Rep N a ra ka) (hb : Rep N b rb kb) (dS : Den N ra S) (dT : Den N rb T) (hS : ∀ n, S ≠ .var n) (hT : ∀ n, T ≠ .var n)
    (wS : S.wf) (wT : T.wf) (vS : vin L S) (vT : vin L T) {m : Nat} (hm : S.size ≤ m + 1) (hst : MtStep L m) (W : World) (hN : TMem W N) :
    Calls Tryd.prog 32 #[ptr a, ptr b] W (MtEnd N L S T W) := by
  obtain ⟨a0, a1, _⟩ := dS.cells ha.isRoot hN
  obtain ⟨b0, b1, _⟩ := dT.cells hb.isRoot hN
  obtain ⟨nda, ea, _⟩ := ha.isRoot
  obtain ⟨ndb, eb, _⟩ := hb.isRoot
  have hq := eql51 (hN _ _ ea) (hN _ _ eb)
  have la := (hN _ _ ea).lt
  have lb := (hN _ _ eb).lt
  have HA := Lib.hid ha
  have HB := Lib.hid hb
  have DS := Lib.hid dS
  have DT := Lib.hid dT
  have HN := Lib.hid hN
  have HS := Lib.hid hS
  have HT := Lib.hid hT
  have WS := Lib.hid wS
  have WT := Lib.hid wT
  have VS := Lib.hid vS
  have VT := Lib.hid vT
  have HM := Lib.hid hm
  have HST := Lib.hid hst
  have EA := Lib.hid ea
  have EB := Lib.hid eb
  have kS : S.kind ≠ 11 := by
    cases S with
    | var n => exact absurd rfl (hS n)
    | leaf k t => simp only [Ty.wf, Ty.kind] at wS ⊢; omega
    | one k s => simp only [Ty.wf, Ty.kind] at wS ⊢; omega
    | two k s u => simp only [Ty.wf, Ty.kind] at wS ⊢; omega
  have kT : T.kind ≠ 11 := by
    cases T with
    | var n => exact absurd rfl (hT n)
    | leaf k t => simp only [Ty.wf, Ty.kind] at wT ⊢; omega
    | one k s => simp only [Ty.wf, Ty.kind] at wT ⊢; omega
    | two k s u => simp only [Ty.wf, Ty.kind] at wT ⊢; omega
  have HKS := Lib.hid kS
  have fS : (S.kind == 11) = false := beq_false_of_ne kS
  have fT : (T.kind == 11) = false := beq_false_of_ne kT
  clear ha hb dS dT hN hS hT wS wT vS vT hm hst ea eb kS kT
  by_cases hab : ra = rb
  · subst hab
    have eT : T = S := DT.out.fn DS.out
    rw [beq_self_eq_true] at hq
    have ET := Lib.hid eT
    clear eT
    go_enter Tryd.func32, Tryd.ntmps32
    go_wp2_with fail
    refine (c41 HA.out W HN.out).mono ?_
    rintro e _ ⟨rfl, rfl⟩
    go_wp2_with fail
    refine (c41 HB.out W HN.out).mono ?_
    rintro e _ ⟨rfl, rfl⟩
    go_wp2_with fail
    go_ret
    refine ⟨true, rfl, Turned.refl _, fun h => (by cases h), fun _ => ⟨.var, N, ?_, HN.out, Dom.refl, Carries.refl, WfS.var, .inl fun _ => rfl⟩⟩
    rw [ET.out]
    exact Mgu.id _
  · rw [beq_false_of_ne hab] at hq
    have HAB := Lib.hid hab
    clear hab
    by_cases hkt : S.kind = T.kind ∧ S.text = T.text
    · have fk : (S.kind != T.kind) = false := bne_eq_false_iff_eq.2 hkt.1
      obtain ⟨hlen, hsub⟩ := subs_eq WS.out WT.out HS.out HT.out hkt.1 hkt.2
      have HKT := Lib.hid hkt
      have HLen := Lib.hid hlen
      have HSub := Lib.hid hsub
      have f2 : (S.text == T.text) = true := beq_iff_eq.2 hkt.2
      clear hkt hlen hsub
      obtain ⟨_, l, hparts, hll, hkid⟩ := DS.out.parts HA.out.isRoot
      obtain ⟨_, l', hparts', hll', hkid'⟩ := DT.out.parts HB.out.isRoot
      have hl2 := hparts.len
      have HP := Lib.hid hparts
      have HP' := Lib.hid hparts'
      have HL := Lib.hid hll
      have HL' := Lib.hid hll'
      have HK := Lib.hid hkid
      have HK' := Lib.hid hkid'
      have hll2 : l'.length = l.length := by rw [hll, hll', HLen.out]
      have HLL := Lib.hid hll2
      clear hparts hparts' hll hll' hkid hkid' hll2
      go_enter Tryd.func32, Tryd.ntmps32
      go_wp2_with fail
      refine (c41 HA.out W HN.out).mono ?_
      rintro e _ ⟨rfl, rfl⟩
      go_wp2_with fail
      refine (c41 HB.out W HN.out).mono ?_
      rintro e _ ⟨rfl, rfl⟩
      go_wp2_with fail
      go_quiet (fail)
      go_wp2_with fail
      clear fk f2 hq a0 a1 b0 b1 la lb fS fT
      refine (c43 HA.out.isRoot.rep HP.out _ (HN.out.drewN _)).mono ?_
      rintro e w1 ⟨A, rfl, hr1, hb1, hf1⟩
      have HF1 := Lib.hid (show ∀ ad, A = some ad → N ad.block = none from fun ad h => HN.out.fresh (hf1 ad h))
      clear hf1
      have HR1 := Lib.hid hr1
      have HB1 := Lib.hid (show Below W.heap.size W w1 from ⟨hb1.os, hb1.tape, hb1.output, hb1.size, hb1.block⟩)
      clear hr1 hb1
      go_wp2_with fail
      refine (c43 HB.out.isRoot.rep HP'.out _ (HN.out.next HB1.out)).mono ?_
      rintro e w2 ⟨A', rfl, hr2, hb2, hf2⟩
      have HF2 := Lib.hid (show ∀ ad, A' = some ad → N ad.block = none from fun ad h => HN.out.fresh (Nat.le_trans HB1.out.size (hf2 ad h)))
      clear hf2
      have HR2 := Lib.hid hr2
      have HR1' := Lib.hid ((HR1.out.below hb2).more hb2.size)
      have HB2 := Lib.hid (next_ HB1.out hb2)
      have HN2 := Lib.hid (HN.out.next (next_ HB1.out hb2))
      clear hr2 hb2
      rw [HLL.out] at HR2 ⊢
      go_wp2_with fail
      go_loopw [66] (fun i wr => ∃ k : Nat, k ≤ l.length ∧ i = .int .i64 k ∧ w2.heap.size ≤ wr.heap.size ∧ Reads wr w2.heap.size 1 A l.length (l.map ptr) ∧ Reads wr w2.heap.size 1 A' l.length (l'.map ptr) ∧ MtAt N L S T W k wr) (fun i _ => l.length - (intOf i).toNat)
      case atStart => exact ⟨0, by omega, rfl, Nat.le_refl _, HR1'.out, HR2.out, .var, N, Turned.of_below HB2.out, HN2.out, Dom.refl, Carries.refl, WfS.var, .inl fun _ => rfl, MguL.nil⟩
      case round =>
        obtain ⟨k, hk, rfl, hsz, hr1, hr2, θ, N', ht, hn, hd, hc, hw, hf, hu⟩ := hrel
        have QS := Lib.hid hsz
        have Q1 := Lib.hid hr1
        have Q2 := Lib.hid hr2
        have QT := Lib.hid ht
        have QN := Lib.hid hn
        have QD := Lib.hid hd
        have QC := Lib.hid hc
        have QW := Lib.hid hw
        have QF := Lib.hid hf
        have QU := Lib.hid hu
        clear hsz hr1 hr2 ht hn hd hc hw hf hu
        by_cases hlt : k < l.length
        · have hl : (k : Int) < (l.length : Int) := by omega
          have hk0 : (0 : Int) ≤ (k : Int) := by omega
          have hlt' : k < l'.length := by rw [HLL.out]; exact hlt
          obtain ⟨ad, rfl, _, p0⟩ := Q1.out.ptrAt (List.getElem?_eq_getElem hlt)
          obtain ⟨ad', rfl, _, p1⟩ := Q2.out.ptrAt (List.getElem?_eq_getElem hlt')
          have hs1 : k < S.subs.length := by rw [← HL.out]; exact hlt
          have hs2 : k < T.subs.length := by rw [← HL'.out]; exact hlt'
          obtain ⟨hx, _⟩ := HK.out k _ _ (List.getElem?_eq_getElem hlt) (List.getElem?_eq_getElem hs1)
          obtain ⟨hy, _⟩ := HK'.out k _ _ (List.getElem?_eq_getElem hlt') (List.getElem?_eq_getElem hs2)
          have hsz := subs_lt (List.getElem?_eq_getElem hs1)
          have ht1 : S.subs.take (k + 1) = S.subs.take k ++ [S.subs[k]] := by rw [List.take_add_one, List.getElem?_eq_getElem hs1]; rfl
          have ht2 : T.subs.take (k + 1) = T.subs.take k ++ [T.subs[k]] := by rw [List.take_add_one, List.getElem?_eq_getElem hs2]; rfl
          have m1 : S.subs[k] ∈ S.subs := List.getElem_mem hs1
          have m2 : T.subs[k] ∈ T.subs := List.getElem_mem hs2
          have hno : (∀ τ, sub τ (sub θ S.subs[k]) ≠ sub τ (sub θ T.subs[k])) → ∀ τ, sub τ S ≠ sub τ T := by
            intro hn τ he
            have h1 := (HSub.out τ).1 he
            refine QU.out.no hn τ (by rw [List.map_take, h1, ← List.map_take]) ?_
            have h2 := congrArg (fun l : List Ty => l[k]?) h1
            simp only [List.getElem?_map, List.getElem?_eq_getElem hs1, List.getElem?_eq_getElem hs2] at h2
            injection h2
          generalize S.subs[k] = U at hx hsz ht1 m1 hno
          generalize T.subs[k] = V at hy ht2 m2 hno
          generalize l[k] = x at p0 hx
          generalize l'[k] = y at p1 hy
          have HX := Lib.hid hx
          have HY := Lib.hid hy
          have HSz := Lib.hid hsz
          have HT1 := Lib.hid ht1
          have HT2 := Lib.hid ht2
          have HM1 := Lib.hid m1
          have HM2 := Lib.hid m2
          have HNo := Lib.hid hno
          clear hx hy hsz ht1 ht2 m1 m2 hno
          go_wp2_with fail
          go_still_tail 8, (by kernel_rfl)
          change wpList _ _ _ _ _ wr.drew
          go_wp2_with fail
          refine (HST.out N' θ x y U V _ QF.out QW.out (by have := HSz.out; have := HM.out; omega) QN.out.drew (QC.out _ _ HX.out) (QC.out _ _ HY.out) (subs_wf WS.out _ HM1.out) (subs_wf WT.out _ HM2.out) (subs_vin VS.out _ HM1.out) (subs_vin VT.out _ HM2.out)).mono ?_
          rintro e w3 ⟨r, rfl, h1, h2, h3⟩
          have H1 := Lib.hid h1
          have H2 := Lib.hid h2
          have H3 := Lib.hid h3
          clear h1 h2 h3
          cases r with
          | false =>
            have HN3 := Lib.hid (HNo.out (H2.out rfl))
            go_wp2_with fail
            go_ret
            exact ⟨false, rfl, QT.out.drew.trans QD.out H1.out, fun _ => HN3.out, fun h => (by cases h)⟩
          | true =>
            obtain ⟨θ', N'', g1, g2, g3, g4, g5, g6⟩ := H3.out rfl
            have G1 := Lib.hid g1
            have G2 := Lib.hid g2
            have G3 := Lib.hid g3
            have G4 := Lib.hid g4
            have G5 := Lib.hid g5
            have G6 := Lib.hid g6
            clear g1 g2 g3 g4 g5 g6
            go_wp2_with fail
            go_roundw
            case rel =>
              refine ⟨k + 1, by omega, by go_num, Nat.le_trans QS.out H1.out.size, H1.out.reads Q1.out.drew QS.out fun _ ad e => (QD.out _).2 (HF1.out ad e), H1.out.reads Q2.out.drew QS.out fun _ ad e => (QD.out _).2 (HF2.out ad e), ?_⟩
              refine ⟨fun n => sub θ' (θ n), N'', QT.out.drew.trans QD.out H1.out, G2.out, QD.out.trans G3.out, QC.out.trans G4.out, QW.out.comp G5.out, G6.out, ?_⟩
              rw [HT1.out, HT2.out]
              exact QU.out.snoc G1.out
            case measure => simp [intOf]; omega
        · have hl : ¬ (k : Int) < (l.length : Int) := by omega
          have hk' : k = l.length := by omega
          subst hk'
          obtain ⟨x, kx, hx, dx⟩ := (QC.out _ _ DS.out).rep
          obtain ⟨y, ky, hy, dy⟩ := (QC.out _ _ DT.out).rep
          obtain ⟨hu1, hu2⟩ := QU.out
          rw [HL.out, List.take_length, ← HL.out, ← HLL.out, HL'.out, List.take_length] at hu1 hu2
          have HMg := Lib.hid (show Mgu θ S T from ⟨(HSub.out θ).2 hu1, fun τ e => hu2 τ ((HSub.out τ).1 e)⟩)
          have HX := Lib.hid hx
          have HY := Lib.hid hy
          have DX := Lib.hid dx
          have DY := Lib.hid dy
          obtain ⟨ndx, ex, _⟩ := hx.isRoot
          obtain ⟨ndy, ey, _⟩ := hy.isRoot
          have hq := neq51 (QN.out _ _ ex) (QN.out _ _ ey)
          have lx := (QN.out _ _ ex).lt
          have cx := (QN.out _ _ ex).cell 4
          have fx := (QN.out _ _ ex).frozen 4
          have EX := Lib.hid ex
          clear hx hy dx dy hu1 hu2 ex ey
          by_cases hxy : x = y
          · subst hxy
            rw [beq_self_eq_true] at hq
            go_wp2_with fail
            refine (c41 HX.out wr QN.out).mono ?_
            rintro e _ ⟨rfl, rfl⟩
            go_wp2_with fail
            refine (c41 HY.out wr QN.out).mono ?_
            rintro e _ ⟨rfl, rfl⟩
            go_wp2_with fail
            go_ret
            exact ⟨true, rfl, QT.out, fun h => (by cases h), fun _ => ⟨θ, N', HMg.out, QN.out, QD.out, QC.out, QW.out, QF.out⟩⟩
          · rw [beq_false_of_ne hxy] at hq
            have HXY := Lib.hid hxy
            clear hxy
            go_wp2_with fail
            refine (c41 HX.out wr QN.out).mono ?_
            rintro e _ ⟨rfl, rfl⟩
            go_wp2_with fail
            refine (c41 HY.out wr QN.out).mono ?_
            rintro e _ ⟨rfl, rfl⟩
            go_wp2_with fail
            go_ret
            have hnv : ∀ n, sub θ S ≠ .var n := fun n e => by
              have := (sub_kind θ HS.out).1
              rw [e] at this
              exact HKS.out this.symm
            have dy' : Den N' y (sub θ S) := HMg.out.1 ▸ DY.out
            have hnx : N x ≠ none := fun e => by have := (QD.out x).2 e; rw [EX.out] at this; cases this
            obtain ⟨ndx', hndx⟩ : ∃ d, N x = some d := by cases hn : N x with | none => exact absurd hn hnx | some d => exact ⟨d, rfl⟩
            exact ⟨true, rfl, QT.out.set hndx 4 _, fun h => (by cases h), fun _ => ⟨θ, upd N' x y, HMg.out, QN.out.upd x y, QD.out.trans (Dom.upd x y), fun g U hd => DX.out.merged HX.out.isRoot dy' HY.out.isRoot HXY.out hnv _ _ _ (Nat.le_refl _) (QC.out g U hd), QW.out, QF.out⟩⟩
    · have HNO := Lib.hid (show ∀ τ, sub τ S ≠ sub τ T from fun τ e => hkt (by
        have h1 := sub_kind τ HS.out
        have h2 := sub_kind τ HT.out
        rw [e] at h1
        exact ⟨h1.1.symm.trans h2.1, h1.2.symm.trans h2.2⟩))
      by_cases hk : S.kind = T.kind
      · have ht : S.text ≠ T.text := fun e => hkt ⟨hk, e⟩
        have fk : (S.kind != T.kind) = false := bne_eq_false_iff_eq.2 hk
        have f2 : (S.text == T.text) = false := beq_false_of_ne ht
        clear hkt hk ht
        go_enter Tryd.func32, Tryd.ntmps32
        go_wp2_with fail
        refine (c41 HA.out W HN.out).mono ?_
        rintro e _ ⟨rfl, rfl⟩
        go_wp2_with fail
        refine (c41 HB.out W HN.out).mono ?_
        rintro e _ ⟨rfl, rfl⟩
        go_wp2_with fail
        go_quiet (fail)
        go_wp2_with fail
        go_ret
        exact ⟨false, rfl, (Turned.refl _).drewN _, fun _ => HNO.out, fun h => (by cases h)⟩
      · have fk : (S.kind != T.kind) = true := bne_iff_ne.2 hk
        clear hkt hk
        go_enter Tryd.func32, Tryd.ntmps32
        go_wp2_with fail
        refine (c41 HA.out W HN.out).mono ?_
        rintro e _ ⟨rfl, rfl⟩
        go_wp2_with fail
        refine (c41 HB.out W HN.out).mono ?_
        rintro e _ ⟨rfl, rfl⟩
        go_wp2_with fail
        go_quiet (fail)
        go_wp2_with fail
        go_ret
        exact ⟨false, rfl, (Turned.refl _).drewN _, fun _ => HNO.out, fun h => (by cases h)⟩
set_option maxRecDepth 100000 in
set_option maxHeartbeats 4000000 in
theorem c32s {N : Nat → Option Nd} {L : List Int} {a b ra v ka kb : Nat} {S : Ty} (ha : Rep N a ra ka) (hb : Rep N b v kb) (dS : Den N ra S) (dv : Den N v (.var v)) (hS : ∀ n, S ≠ .var n)
    (wS : S.wf) (vL : (v : Int) ∈ L) (vS : vin L S) (W : World) (hN : TMem W N) : Calls Tryd.prog 32 #[ptr a, ptr b] W (MtEnd N L S (.var v) W) := by
  obtain ⟨a0, _, _⟩ := dS.cells ha.isRoot hN
  obtain ⟨b0, _, _⟩ := dv.cells hb.isRoot hN
  obtain ⟨nda, ea, _⟩ := ha.isRoot
  obtain ⟨ndb, eb, _⟩ := hb.isRoot
  have hq := eql51 (hN _ _ ea) (hN _ _ eb)
  have la := (hN _ _ ea).lt
  have lb := (hN _ _ eb).lt
  replace b0 : W.cell? ⟨v, 0, none⟩ = some (.int .i64 11) := b0
  have kS : S.kind ≠ 11 := by
    cases S with
    | var n => exact absurd rfl (hS n)
    | leaf k t => simp only [Ty.wf, Ty.kind] at wS ⊢; omega
    | one k s => simp only [Ty.wf, Ty.kind] at wS ⊢; omega
    | two k s u => simp only [Ty.wf, Ty.kind] at wS ⊢; omega
  have fS : (S.kind == 11) = false := beq_false_of_ne kS
  have hab : ra ≠ v := by
    rintro rfl
    exact hS _ (dS.fn dv)
  rw [beq_false_of_ne hab] at hq
  have HA := Lib.hid ha
  have HB := Lib.hid hb
  have DS := Lib.hid dS
  have DV := Lib.hid dv
  have HN := Lib.hid hN
  have WS := Lib.hid wS
  have VL := Lib.hid vL
  have VS := Lib.hid vS
  clear ha hb dS dv hN hS wS vL vS ea eb kS hab
  go_enter Tryd.func32, Tryd.ntmps32
  go_wp2_with fail
  refine (c41 HA.out W HN.out).mono ?_
  rintro e _ ⟨rfl, rfl⟩
  go_wp2_with fail
  refine (c41 HB.out W HN.out).mono ?_
  rintro e _ ⟨rfl, rfl⟩
  go_wp2_with fail
  refine (c32v HB.out.isRoot.rep DV.out DS.out WS.out VL.out VS.out W HN.out).mono ?_
  rintro e w ⟨r, rfl, h⟩
  have H := Lib.hid h
  clear h
  go_wp2_with fail
  go_ret
  exact MtEnd.swap ⟨r, rfl, H.out⟩
theorem Den.varNat {N : Nat → Option Nd} {g : Nat} {T : Ty} (h : Den N g T) : ∀ v, T = .var v → ∃ u : Nat, v = u := by
  induction h with
  | to _ _ _ ih => exact ih
  | var => intro v e; injection e with e; exact ⟨_, e.symm⟩
  | leaf => intro v e; cases e
  | one => intro v e; cases e
  | two => intro v e; cases e
theorem c32 : ∀ (n m : Nat), MtOk n m := by
  intro n
  induction n using Nat.strongRecOn with
  | ind n ihn =>
    intro m
    induction m with
    | zero => intro N L a b S T W _ h; have := S.size_pos; omega
    | succ m ihm =>
      intro N L a b S T W hL hm hN hS hT wS wT vS vT
      obtain ⟨ra, ka, ha, da⟩ := hS.rep
      obtain ⟨rb, kb, hb, db⟩ := hT.rep
      by_cases hSv : ∃ v, S = .var v
      · obtain ⟨v, rfl⟩ := hSv
        obtain ⟨u, rfl⟩ := da.varNat _ rfl
        have e := ha.isRoot.var da
        subst e
        exact c32v ha da hT wT vS vT W hN
      · by_cases hTv : ∃ v, T = .var v
        · obtain ⟨v, rfl⟩ := hTv
          obtain ⟨u, rfl⟩ := db.varNat _ rfl
          have e := hb.isRoot.var db
          subst e
          exact c32s ha hb da db (fun n e => hSv ⟨n, e⟩) wS vT vS W hN
        · exact c32n ha hb da db (fun n e => hSv ⟨n, e⟩) (fun n e => hTv ⟨n, e⟩) wS wT vS vT hm (MtOk.step hL ihn ihm) W hN
end Go.Proofs.YtcilodgpbdafeaaDoor
