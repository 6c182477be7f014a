/- matcher.at: is a part of a type an instance of a part of another one. -/
import Derived.Test.YtcilodgpbdafeaaDoorTSame
import Derived.StillTailTactics
namespace Go.Proofs.YtcilodgpbdafeaaDoor
open Go.ChangeShapes Go.WideShapes Go.ChangeAt Go.RowKit
set_option linter.unusedVariables false
set_option linter.unusedSimpArgs false
/-- What variables stand for, as parts. -/
def Rel (t : List Part) (s : Int → Option Nat) (σ : Int → Option Ty) : Prop := ∀ n, (s n = none ∧ σ n = none) ∨ ∃ j U, s n = some j ∧ σ n = some U ∧ U.wf ∧ At t U j
abbrev sD (s : Int → Option Nat) : Int → Option Value := fun x => (s x).map natV
def AtPost (t : List Part) (vb : Nat) (r : Bool × (Int → Option Ty)) (W W' : World) : Prop := ∃ s' n', W.grownBy W' (some vb) ∧ IMap W' vb (sD s') n' ∧ (r.1 = true → Rel t s' r.2)
theorem MatM.mapped {W W' : World} {mb vb n : Nat} {A A' : Option Addr} {c c' : Nat} {p t : List Part} {D : Int → Option Value} (h : MatM W mb vb A A' c c' p t) (hm : IMap W vb D n) (hg : W.grownBy W' (some vb)) : MatM W' mb vb A A' c c' p t := by
  have rd : ∀ {A : Option Addr} {l : List Part}, RT W A l → RT W' A l := fun {A l} hr => by
    refine ⟨hr.1, fun hn => ?_⟩
    obtain ⟨ad, e, hlt, hc⟩ := hr.2 hn
    refine ⟨ad, e, Nat.lt_of_lt_of_le hlt hg.size, fun j u hu => ?_⟩
    have hne := hm.cell_ne (hc j u hu)
    have hbl := block_of_add ad j
    rw [hbl] at hne
    rw [← hc j u hu]
    have := hg.block ad.block hlt (fun e => hne (by injection e))
    unfold World.cell?
    rw [hbl, this]
  exact ⟨h.blk.grown hg (fun e => hm.ne h.blk (by injection e)), rd h.rp, rd h.rt⟩
theorem MatM.drewN {W : World} {mb vb : Nat} {A A' : Option Addr} {c c' : Nat} {p t : List Part} (h : MatM W mb vb A A' c c' p t) (n : Nat) : MatM (W.drewN n) mb vb A A' c c' p t := ⟨h.blk, h.rp, h.rt⟩
theorem IMap.drewN {W : World} {b n : Nat} {D : Int → Option Value} (h : IMap W b D n) (k : Nat) : IMap (W.drewN k) b D n := h
theorem sD_put (s : Int → Option Nat) (n : Int) (j : Nat) : (fun x => if x = n then some (natV j) else sD s x) = sD (fun x => if x = n then some j else s x) := by
  funext x
  unfold sD
  by_cases h : x = n <;> simp [h]
theorem Rel.put {t : List Part} {s : Int → Option Nat} {σ : Int → Option Ty} (h : Rel t s σ) {n : Int} {j : Nat} {T : Ty} (wT : T.wf) (hT : At t T j) : Rel t (fun x => if x = n then some j else s x) (Go.Proofs.YtcilodgpbdafeaaDoor.put σ n T) := by
  intro m
  by_cases hm : m = n
  · right
    exact ⟨j, T, if_pos hm, if_pos hm, wT, hT⟩
  · rcases h m with ⟨h1, h2⟩ | ⟨k, U, h1, h2, h3⟩
    · left
      exact ⟨(if_neg hm).trans h1, (if_neg hm).trans h2⟩
    · right
      exact ⟨k, U, (if_neg hm).trans h1, (if_neg hm).trans h2, h3⟩
/-- A root that is no variable, of another kind or text. -/
theorem mat_no {S T : Ty} (wS : S.wf) (wT : T.wf) (hS : S.kind ≠ 11) (h : ¬ (S.kind = T.kind ∧ S.text = T.text)) (σ : Int → Option Ty) : mat S T σ = (false, σ) := by
  cases S with
  | var n => exact absurd rfl hS
  | leaf k t =>
    show (decide (T = .leaf k t), σ) = _
    rw [decide_eq_false (fun e => h (by rw [e]; exact ⟨rfl, rfl⟩))]
  | one k s =>
    cases T with
    | one k' s' =>
      show (if k = k' then _ else _) = _
      rw [if_neg (show ¬ k = k' from fun e => h ⟨e, rfl⟩)]
    | leaf k' t' => rfl
    | var m => rfl
    | two k' s' u' => rfl
  | two k s u =>
    cases T with
    | two k' s' u' =>
      show (if k = k' then _ else _) = _
      rw [if_neg (show ¬ k = k' from fun e => h ⟨e, rfl⟩)]
    | leaf k' t' => rfl
    | var m => rfl
    | one k' s' => rfl
/-- A root that is no variable, of the same kind and text. -/
theorem Ty.alike {S T : Ty} (wS : S.wf) (wT : T.wf) (hS : S.kind ≠ 11) (hk : S.kind = T.kind) (ht : S.text = T.text) :
    (S.kind ≠ 7 ∧ S.kind ≠ 9 ∧ S.kind ≠ 6 ∧ S.kind ≠ 8 ∧ ∀ σ, mat S T σ = (true, σ)) ∨ (∃ k s s', (k = 7 ∨ k = 9) ∧ S = .one k s ∧ T = .one k s') ∨ ∃ k s u s' u', (k = 6 ∨ k = 8) ∧ S = .two k s u ∧ T = .two k s' u' := by
  have hn : S.num = T.num := by
    cases S with
    | var n => exact absurd rfl hS
    | leaf k t => cases T with
      | var m => exact absurd hk hS
      | _ => rfl
    | one k s => cases T with
      | var m => exact absurd hk hS
      | _ => rfl
    | two k s u => cases T with
      | var m => exact absurd hk hS
      | _ => rfl
  rcases Ty.same wS wT hk ht hn with ⟨h7, h9, h6, h8, e⟩ | h | h
  · refine .inl ⟨h7, h9, h6, h8, fun σ => ?_⟩
    subst e
    cases S with
    | var n => exact absurd rfl hS
    | leaf k t => show (decide (Ty.leaf k t = .leaf k t), σ) = _; rw [decide_eq_true rfl]
    | one k s => (have := wS.1; simp only [Ty.kind] at h7 h9; exfalso; omega)
    | two k s u => (have := wS.1; simp only [Ty.kind] at h6 h8; exfalso; omega)
  · exact .inr (.inl h)
  · exact .inr (.inr h)
def AtOk (p t : List Part) (mb vb c c' : Nat) (A A' : Option Addr) (m : Nat) : Prop := ∀ (S T : Ty) (i j : Nat) (W : World) (s : Int → Option Nat) (ns : Nat) (σ : Int → Option Ty), S.size ≤ m → S.wf → T.wf → At p S i → At t T j → MatM W mb vb A A' c c' p t → IMap W vb (sD s) ns → Rel t s σ →
    Calls Tryd.prog 30 #[ptr mb, .int .i64 (i : Int), .int .i64 (j : Int)] W fun e W' => e = .returned (.bool (mat S T σ).1) ∧ AtPost t vb (mat S T σ) W W'
set_option maxRecDepth 100000 in
set_option maxHeartbeats 16000000 in
theorem c30no {p t : List Part} {mb vb c c' : Nat} {A A' : Option Addr} {i j : Nat} {W : World} {s : Int → Option Nat} {ns : Nat} {σ : Int → Option Ty} {S T : Ty} (wS : S.wf) (wT : T.wf) (hS : S.kind ≠ 11) (hne : ¬ (S.kind = T.kind ∧ S.text = T.text)) (hU : At p S i) (hV : At t T j) (hM : MatM W mb vb A A' c c' p t) (hI : IMap W vb (sD s) ns) (hRel : Rel t s σ) :
    Calls Tryd.prog 30 #[ptr mb, .int .i64 (i : Int), .int .i64 (j : Int)] W fun e W' => e = .returned (.bool (mat S T σ).1) ∧ AtPost t vb (mat S T σ) W W' := by
  obtain ⟨px, hpx, ek, et, en⟩ := hU.top
  obtain ⟨qx, hqx, ek', et', en'⟩ := hV.top
  have hi := hU.lt
  have hj := hV.lt
  obtain ⟨ad, rfl, hadb, hcp⟩ := Reads.partAt hM.rp hpx
  obtain ⟨ad', rfl, hadb', hcq⟩ := Reads.partAt hM.rt hqx
  have HM := Lib.hid hM
  have HI := Lib.hid hI
  have HRel := Lib.hid hRel
  have HP := Lib.hid hcp
  have HQ := Lib.hid hcq
  have HAd := Lib.hid (show ad.block < W.heap.size ∧ ad'.block < W.heap.size from ⟨hadb, hadb'⟩)
  have HIJ := Lib.hid (show i < p.length ∧ j < t.length from ⟨hi, hj⟩)
  have HU := Lib.hid hU
  have HV := Lib.hid hV
  have HPX := Lib.hid hpx
  have HQX := Lib.hid hqx
  clear hM hcp hcq hadb hadb' hi hj hU hV hpx hqx hI hRel
  obtain ⟨pk, pa, pb, pn, pt⟩ := px
  obtain ⟨qk, qa, qb, qn, qt⟩ := qx
  simp only at ek et en ek' et' en'
  by_cases hk : pk = qk
  · have f1 : (pk != qk) = false := bne_eq_false_iff_eq.2 hk
    have ht : pt ≠ qt := fun e => hne ⟨by rw [← ek, ← ek', hk], by rw [← et, ← et', e]⟩
    have f2 : (pt == qt) = false := beq_false_of_ne ht
    have f11 : (pk == 11) = false := beq_false_of_ne (by rw [ek]; exact hS)
    have HNE := Lib.hid (mat_no wS wT hS hne σ)
    clear ek et en ek' et' en' hk ht wS wT hS hne
    go_enter Tryd.func30, Tryd.ntmps30
    go_wp2_with fail
    refine reg30 mb i j p.length t.length c c' ⟨pk, pa, pb, pn, pt⟩ ⟨qk, qa, qb, qn, qt⟩ ad ad' W HIJ.out.1 HIJ.out.2 HM.out.blk.lt (HM.out.blk.cell 0) (HM.out.blk.cell 1) HAd.out.1 HAd.out.2 HP.out HQ.out (fun _ _ d _ _ h => by cases d <;> exact h) ?_
    intro b7 b8 w1 v11 v12 v13 v14 v15 v16 v17 v18 v19 v20 v21 v22 v23 v24 h7 h8 hb1
    have HB1 := Lib.hid hb1
    have HM1 := Lib.hid (HM.out.next hb1)
    have HI1 := Lib.hid (HI.out.next hb1)
    have HG1 := Lib.hid (grown_of_below hb1 (some vb))
    have H7 := Lib.hid h7
    have H8 := Lib.hid h8
    have x0 : w1.cell? ⟨b7, 0, none⟩ = some (.int .i64 pk) := h7.cell 0
    have x1 : w1.cell? ⟨b7, 1, none⟩ = some (.int .i64 pa) := h7.cell 1
    have x2 : w1.cell? ⟨b7, 2, none⟩ = some (.int .i64 pb) := h7.cell 2
    have x3 : w1.cell? ⟨b7, 3, none⟩ = some (.int .i64 pn) := h7.cell 3
    have x4 : w1.cell? ⟨b7, 4, none⟩ = some (strV pt) := h7.cell 4
    have y0 : w1.cell? ⟨b8, 0, none⟩ = some (.int .i64 qk) := h8.cell 0
    have y1 : w1.cell? ⟨b8, 1, none⟩ = some (.int .i64 qa) := h8.cell 1
    have y2 : w1.cell? ⟨b8, 2, none⟩ = some (.int .i64 qb) := h8.cell 2
    have y3 : w1.cell? ⟨b8, 3, none⟩ = some (.int .i64 qn) := h8.cell 3
    have y4 : w1.cell? ⟨b8, 4, none⟩ = some (strV qt) := h8.cell 4
    clear h7 h8 hb1
    go_wp2_with fail
    go_ret
    exact ⟨by rw [HNE.out]; rfl, s, ns, HG1.out, HI1.out, fun h => by rw [HNE.out] at h; cases h⟩
  · have f1 : (pk != qk) = true := bne_iff_ne.2 hk
    have f11 : (pk == 11) = false := beq_false_of_ne (by rw [ek]; exact hS)
    have HNE := Lib.hid (mat_no wS wT hS hne σ)
    clear ek et en ek' et' en' hk wS wT hS hne
    go_enter Tryd.func30, Tryd.ntmps30
    go_wp2_with fail
    refine reg30 mb i j p.length t.length c c' ⟨pk, pa, pb, pn, pt⟩ ⟨qk, qa, qb, qn, qt⟩ ad ad' W HIJ.out.1 HIJ.out.2 HM.out.blk.lt (HM.out.blk.cell 0) (HM.out.blk.cell 1) HAd.out.1 HAd.out.2 HP.out HQ.out (fun _ _ d _ _ h => by cases d <;> exact h) ?_
    intro b7 b8 w1 v11 v12 v13 v14 v15 v16 v17 v18 v19 v20 v21 v22 v23 v24 h7 h8 hb1
    have HB1 := Lib.hid hb1
    have HM1 := Lib.hid (HM.out.next hb1)
    have HI1 := Lib.hid (HI.out.next hb1)
    have HG1 := Lib.hid (grown_of_below hb1 (some vb))
    have H7 := Lib.hid h7
    have H8 := Lib.hid h8
    have x0 : w1.cell? ⟨b7, 0, none⟩ = some (.int .i64 pk) := h7.cell 0
    have x1 : w1.cell? ⟨b7, 1, none⟩ = some (.int .i64 pa) := h7.cell 1
    have x2 : w1.cell? ⟨b7, 2, none⟩ = some (.int .i64 pb) := h7.cell 2
    have x3 : w1.cell? ⟨b7, 3, none⟩ = some (.int .i64 pn) := h7.cell 3
    have x4 : w1.cell? ⟨b7, 4, none⟩ = some (strV pt) := h7.cell 4
    have y0 : w1.cell? ⟨b8, 0, none⟩ = some (.int .i64 qk) := h8.cell 0
    have y1 : w1.cell? ⟨b8, 1, none⟩ = some (.int .i64 qa) := h8.cell 1
    have y2 : w1.cell? ⟨b8, 2, none⟩ = some (.int .i64 qb) := h8.cell 2
    have y3 : w1.cell? ⟨b8, 3, none⟩ = some (.int .i64 qn) := h8.cell 3
    have y4 : w1.cell? ⟨b8, 4, none⟩ = some (strV qt) := h8.cell 4
    clear h7 h8 hb1
    go_wp2_with fail
    go_ret
    exact ⟨by rw [HNE.out]; rfl, s, ns, HG1.out, HI1.out, fun h => by rw [HNE.out] at h; cases h⟩
set_option maxRecDepth 100000 in
set_option maxHeartbeats 16000000 in
theorem c30leaf {p t : List Part} {mb vb c c' : Nat} {A A' : Option Addr} {i j : Nat} {W : World} {s : Int → Option Nat} {ns : Nat} {σ : Int → Option Ty} {S T : Ty} (hS : S.kind ≠ 11) (hkk : S.kind = T.kind) (htt : S.text = T.text) (h7 : S.kind ≠ 7) (h9 : S.kind ≠ 9) (h6 : S.kind ≠ 6) (h8 : S.kind ≠ 8) (hmt : ∀ σ, mat S T σ = (true, σ)) (hU : At p S i) (hV : At t T j) (hM : MatM W mb vb A A' c c' p t) (hI : IMap W vb (sD s) ns) (hRel : Rel t s σ) :
    Calls Tryd.prog 30 #[ptr mb, .int .i64 (i : Int), .int .i64 (j : Int)] W fun e W' => e = .returned (.bool (mat S T σ).1) ∧ AtPost t vb (mat S T σ) W W' := by
  obtain ⟨px, hpx, ek, et, en⟩ := hU.top
  obtain ⟨qx, hqx, ek', et', en'⟩ := hV.top
  have hi := hU.lt
  have hj := hV.lt
  obtain ⟨ad, rfl, hadb, hcp⟩ := Reads.partAt hM.rp hpx
  obtain ⟨ad', rfl, hadb', hcq⟩ := Reads.partAt hM.rt hqx
  have HM := Lib.hid hM
  have HI := Lib.hid hI
  have HRel := Lib.hid hRel
  have HP := Lib.hid hcp
  have HQ := Lib.hid hcq
  have HAd := Lib.hid (show ad.block < W.heap.size ∧ ad'.block < W.heap.size from ⟨hadb, hadb'⟩)
  have HIJ := Lib.hid (show i < p.length ∧ j < t.length from ⟨hi, hj⟩)
  have HU := Lib.hid hU
  have HV := Lib.hid hV
  have HPX := Lib.hid hpx
  have HQX := Lib.hid hqx
  clear hM hcp hcq hadb hadb' hi hj hU hV hpx hqx hI hRel
  obtain ⟨pk, pa, pb, pn, pt⟩ := px
  obtain ⟨qk, qa, qb, qn, qt⟩ := qx
  simp only at ek et en ek' et' en'
  have hk : pk = qk := by rw [ek, ek', hkk]
  have ht : pt = qt := by rw [et, et', htt]
  have f1 : (pk != qk) = false := bne_eq_false_iff_eq.2 hk
  have f2 : (pt == qt) = true := beq_iff_eq.2 ht
  have f11 : (pk == 11) = false := beq_false_of_ne (by rw [ek]; exact hS)
  have f7 : (pk == 7) = false := beq_false_of_ne (by rw [ek]; exact h7)
  have f9 : (pk == 9) = false := beq_false_of_ne (by rw [ek]; exact h9)
  have f6 : (pk == 6) = false := beq_false_of_ne (by rw [ek]; exact h6)
  have f8 : (pk == 8) = false := beq_false_of_ne (by rw [ek]; exact h8)
  have HNE := Lib.hid (hmt σ)
  clear ek et en ek' et' en' hk ht hS h7 h9 h6 h8 hkk htt hmt
  go_enter Tryd.func30, Tryd.ntmps30
  go_wp2_with fail
  refine reg30 mb i j p.length t.length c c' ⟨pk, pa, pb, pn, pt⟩ ⟨qk, qa, qb, qn, qt⟩ ad ad' W HIJ.out.1 HIJ.out.2 HM.out.blk.lt (HM.out.blk.cell 0) (HM.out.blk.cell 1) HAd.out.1 HAd.out.2 HP.out HQ.out (fun _ _ d _ _ h => by cases d <;> exact h) ?_
  intro b7 b8 w1 v11 v12 v13 v14 v15 v16 v17 v18 v19 v20 v21 v22 v23 v24 h7 h8 hb1
  have HB1 := Lib.hid hb1
  have HM1 := Lib.hid (HM.out.next hb1)
  have HI1 := Lib.hid (HI.out.next hb1)
  have HG1 := Lib.hid (grown_of_below hb1 (some vb))
  have H7 := Lib.hid h7
  have H8 := Lib.hid h8
  have x0 : w1.cell? ⟨b7, 0, none⟩ = some (.int .i64 pk) := h7.cell 0
  have x1 : w1.cell? ⟨b7, 1, none⟩ = some (.int .i64 pa) := h7.cell 1
  have x2 : w1.cell? ⟨b7, 2, none⟩ = some (.int .i64 pb) := h7.cell 2
  have x3 : w1.cell? ⟨b7, 3, none⟩ = some (.int .i64 pn) := h7.cell 3
  have x4 : w1.cell? ⟨b7, 4, none⟩ = some (strV pt) := h7.cell 4
  have y0 : w1.cell? ⟨b8, 0, none⟩ = some (.int .i64 qk) := h8.cell 0
  have y1 : w1.cell? ⟨b8, 1, none⟩ = some (.int .i64 qa) := h8.cell 1
  have y2 : w1.cell? ⟨b8, 2, none⟩ = some (.int .i64 qb) := h8.cell 2
  have y3 : w1.cell? ⟨b8, 3, none⟩ = some (.int .i64 qn) := h8.cell 3
  have y4 : w1.cell? ⟨b8, 4, none⟩ = some (strV qt) := h8.cell 4
  clear h7 h8 hb1
  go_wp2_with fail
  go_ret
  exact ⟨by rw [HNE.out]; rfl, s, ns, HG1.out, HI1.out, fun h => by rw [HNE.out]; exact HRel.out⟩
set_option maxRecDepth 100000 in
set_option maxHeartbeats 16000000 in
theorem c30one {p t : List Part} {mb vb c c' : Nat} {A A' : Option Addr} {i j : Nat} {W : World} {s : Int → Option Nat} {ns : Nat} {σ : Int → Option Ty} {k : Int} {s' t' : Ty} (hks : k = 7 ∨ k = 9) (wS : s'.wf) (wT : t'.wf) (hih : AtOk p t mb vb c c' A A' s'.size) (hU : At p (.one k s') i) (hV : At t (.one k t') j) (hM : MatM W mb vb A A' c c' p t) (hI : IMap W vb (sD s) ns) (hRel : Rel t s σ) :
    Calls Tryd.prog 30 #[ptr mb, .int .i64 (i : Int), .int .i64 (j : Int)] W fun e W' => e = .returned (.bool (mat (.one k s') (.one k t') σ).1) ∧ AtPost t vb (mat (.one k s') (.one k t') σ) W W' := by
  obtain ⟨px, hpx, ek, et, en⟩ := hU.top
  obtain ⟨qx, hqx, ek', et', en'⟩ := hV.top
  have hi := hU.lt
  have hj := hV.lt
  obtain ⟨ad, rfl, hadb, hcp⟩ := Reads.partAt hM.rp hpx
  obtain ⟨ad', rfl, hadb', hcq⟩ := Reads.partAt hM.rt hqx
  have HM := Lib.hid hM
  have HI := Lib.hid hI
  have HRel := Lib.hid hRel
  have HP := Lib.hid hcp
  have HQ := Lib.hid hcq
  have HAd := Lib.hid (show ad.block < W.heap.size ∧ ad'.block < W.heap.size from ⟨hadb, hadb'⟩)
  have HIJ := Lib.hid (show i < p.length ∧ j < t.length from ⟨hi, hj⟩)
  have HU := Lib.hid hU
  have HV := Lib.hid hV
  have HPX := Lib.hid hpx
  have HQX := Lib.hid hqx
  clear hM hcp hcq hadb hadb' hi hj hU hV hpx hqx hI hRel
  obtain ⟨pk, pa, pb, pn, pt⟩ := px
  obtain ⟨qk, qa, qb, qn, qt⟩ := qx
  simp only at ek et en ek' et' en'
  obtain ⟨j1, e1, hl1, hs1⟩ := HU.out
  obtain ⟨j2, e2, hl2, hs2⟩ := HV.out
  have ep := Option.some.inj (HPX.out.symm.trans hl1)
  have eq := Option.some.inj (HQX.out.symm.trans hl2)
  injection ep with p1 p2 p3 p4 p5
  injection eq with q1 q2 q3 q4 q5
  subst p1 p2 p3 p4 p5 q1 q2 q3 q4 q5
  have HS1 := Lib.hid hs1
  have HS2 := Lib.hid hs2
  have HDec := Lib.hid (show ∀ k, mat (.one k s') (.one k t') σ = mat s' t' σ from fun k => by show (if k = k then _ else _) = _; rw [if_pos rfl])
  have HIH := Lib.hid hih
  have WS := Lib.hid wS
  have WT := Lib.hid wT
  clear ek et en ek' et' en' hs1 hs2 hl1 hl2 e1 e2 HU HV hih wS wT
  rcases hks with rfl | rfl
  · go_enter Tryd.func30, Tryd.ntmps30
    go_wp2_with fail
    refine reg30 mb i j p.length t.length c c' ⟨7, (j1 : Int), 0, 0, []⟩ ⟨7, (j2 : Int), 0, 0, []⟩ ad ad' W HIJ.out.1 HIJ.out.2 HM.out.blk.lt (HM.out.blk.cell 0) (HM.out.blk.cell 1) HAd.out.1 HAd.out.2 HP.out HQ.out (fun _ _ d _ _ h => by cases d <;> exact h) ?_
    intro b7 b8 w1 v11 v12 v13 v14 v15 v16 v17 v18 v19 v20 v21 v22 v23 v24 h7 h8 hb1
    have HB1 := Lib.hid hb1
    have HM1 := Lib.hid (HM.out.next hb1)
    have HI1 := Lib.hid (HI.out.next hb1)
    have HG1 := Lib.hid (grown_of_below hb1 (some vb))
    have H7 := Lib.hid h7
    have H8 := Lib.hid h8
    have x0 : w1.cell? ⟨b7, 0, none⟩ = some (.int .i64 7) := h7.cell 0
    have x1 : w1.cell? ⟨b7, 1, none⟩ = some (.int .i64 (j1 : Int)) := h7.cell 1
    have x2 : w1.cell? ⟨b7, 2, none⟩ = some (.int .i64 0) := h7.cell 2
    have x3 : w1.cell? ⟨b7, 3, none⟩ = some (.int .i64 0) := h7.cell 3
    have x4 : w1.cell? ⟨b7, 4, none⟩ = some (strV []) := h7.cell 4
    have y0 : w1.cell? ⟨b8, 0, none⟩ = some (.int .i64 7) := h8.cell 0
    have y1 : w1.cell? ⟨b8, 1, none⟩ = some (.int .i64 (j2 : Int)) := h8.cell 1
    have y2 : w1.cell? ⟨b8, 2, none⟩ = some (.int .i64 0) := h8.cell 2
    have y3 : w1.cell? ⟨b8, 3, none⟩ = some (.int .i64 0) := h8.cell 3
    have y4 : w1.cell? ⟨b8, 4, none⟩ = some (strV []) := h8.cell 4
    clear h7 h8 hb1
    go_wp2_with fail
    refine (HIH.out s' t' j1 j2 w1 s ns σ (Nat.le_refl _) WS.out WT.out HS1.out HS2.out HM1.out HI1.out HRel.out).mono ?_
    rintro e w2 ⟨rfl, s2, n2, hg2, hi2, hr2⟩
    have HG2 := Lib.hid (HG1.out.trans hg2)
    have HI2 := Lib.hid hi2
    have HR2 := Lib.hid hr2
    clear hg2 hi2 hr2
    go_wp2_with fail
    go_ret
    refine ⟨by rw [HDec.out _]; rfl, s2, n2, HG2.out, HI2.out, ?_⟩
    rw [HDec.out _]
    exact HR2.out
  · go_enter Tryd.func30, Tryd.ntmps30
    go_wp2_with fail
    refine reg30 mb i j p.length t.length c c' ⟨9, (j1 : Int), 0, 0, []⟩ ⟨9, (j2 : Int), 0, 0, []⟩ ad ad' W HIJ.out.1 HIJ.out.2 HM.out.blk.lt (HM.out.blk.cell 0) (HM.out.blk.cell 1) HAd.out.1 HAd.out.2 HP.out HQ.out (fun _ _ d _ _ h => by cases d <;> exact h) ?_
    intro b7 b8 w1 v11 v12 v13 v14 v15 v16 v17 v18 v19 v20 v21 v22 v23 v24 h7 h8 hb1
    have HB1 := Lib.hid hb1
    have HM1 := Lib.hid (HM.out.next hb1)
    have HI1 := Lib.hid (HI.out.next hb1)
    have HG1 := Lib.hid (grown_of_below hb1 (some vb))
    have H7 := Lib.hid h7
    have H8 := Lib.hid h8
    have x0 : w1.cell? ⟨b7, 0, none⟩ = some (.int .i64 9) := h7.cell 0
    have x1 : w1.cell? ⟨b7, 1, none⟩ = some (.int .i64 (j1 : Int)) := h7.cell 1
    have x2 : w1.cell? ⟨b7, 2, none⟩ = some (.int .i64 0) := h7.cell 2
    have x3 : w1.cell? ⟨b7, 3, none⟩ = some (.int .i64 0) := h7.cell 3
    have x4 : w1.cell? ⟨b7, 4, none⟩ = some (strV []) := h7.cell 4
    have y0 : w1.cell? ⟨b8, 0, none⟩ = some (.int .i64 9) := h8.cell 0
    have y1 : w1.cell? ⟨b8, 1, none⟩ = some (.int .i64 (j2 : Int)) := h8.cell 1
    have y2 : w1.cell? ⟨b8, 2, none⟩ = some (.int .i64 0) := h8.cell 2
    have y3 : w1.cell? ⟨b8, 3, none⟩ = some (.int .i64 0) := h8.cell 3
    have y4 : w1.cell? ⟨b8, 4, none⟩ = some (strV []) := h8.cell 4
    clear h7 h8 hb1
    go_wp2_with fail
    refine (HIH.out s' t' j1 j2 w1 s ns σ (Nat.le_refl _) WS.out WT.out HS1.out HS2.out HM1.out HI1.out HRel.out).mono ?_
    rintro e w2 ⟨rfl, s2, n2, hg2, hi2, hr2⟩
    have HG2 := Lib.hid (HG1.out.trans hg2)
    have HI2 := Lib.hid hi2
    have HR2 := Lib.hid hr2
    clear hg2 hi2 hr2
    go_wp2_with fail
    go_ret
    refine ⟨by rw [HDec.out _]; rfl, s2, n2, HG2.out, HI2.out, ?_⟩
    rw [HDec.out _]
    exact HR2.out
set_option maxRecDepth 100000 in
set_option maxHeartbeats 16000000 in
theorem c30two {p t : List Part} {mb vb c c' : Nat} {A A' : Option Addr} {i j : Nat} {W : World} {s : Int → Option Nat} {ns : Nat} {σ : Int → Option Ty} {k : Int} {s' u' t' x' : Ty} (hks : k = 6 ∨ k = 8) (wS : s'.wf) (wU : u'.wf) (wT : t'.wf) (wX : x'.wf) (hih : AtOk p t mb vb c c' A A' s'.size) (hih2 : AtOk p t mb vb c c' A A' u'.size) (hU : At p (.two k s' u') i) (hV : At t (.two k t' x') j) (hM : MatM W mb vb A A' c c' p t) (hI : IMap W vb (sD s) ns) (hRel : Rel t s σ) :
    Calls Tryd.prog 30 #[ptr mb, .int .i64 (i : Int), .int .i64 (j : Int)] W fun e W' => e = .returned (.bool (mat (.two k s' u') (.two k t' x') σ).1) ∧ AtPost t vb (mat (.two k s' u') (.two k t' x') σ) W W' := by
  obtain ⟨px, hpx, ek, et, en⟩ := hU.top
  obtain ⟨qx, hqx, ek', et', en'⟩ := hV.top
  have hi := hU.lt
  have hj := hV.lt
  obtain ⟨ad, rfl, hadb, hcp⟩ := Reads.partAt hM.rp hpx
  obtain ⟨ad', rfl, hadb', hcq⟩ := Reads.partAt hM.rt hqx
  have HM := Lib.hid hM
  have HI := Lib.hid hI
  have HRel := Lib.hid hRel
  have HP := Lib.hid hcp
  have HQ := Lib.hid hcq
  have HAd := Lib.hid (show ad.block < W.heap.size ∧ ad'.block < W.heap.size from ⟨hadb, hadb'⟩)
  have HIJ := Lib.hid (show i < p.length ∧ j < t.length from ⟨hi, hj⟩)
  have HU := Lib.hid hU
  have HV := Lib.hid hV
  have HPX := Lib.hid hpx
  have HQX := Lib.hid hqx
  clear hM hcp hcq hadb hadb' hi hj hU hV hpx hqx hI hRel
  obtain ⟨pk, pa, pb, pn, pt⟩ := px
  obtain ⟨qk, qa, qb, qn, qt⟩ := qx
  simp only at ek et en ek' et' en'
  obtain ⟨j1, g1, e1, hl1, hs1, hu1, _⟩ := HU.out
  obtain ⟨j2, g2, e2, hl2, hs2, hu2, _⟩ := HV.out
  have ep := Option.some.inj (HPX.out.symm.trans hl1)
  have eq := Option.some.inj (HQX.out.symm.trans hl2)
  injection ep with p1 p2 p3 p4 p5
  injection eq with q1 q2 q3 q4 q5
  subst p1 p2 p3 p4 p5 q1 q2 q3 q4 q5
  have HS1 := Lib.hid hs1
  have HS2 := Lib.hid hs2
  have HS3 := Lib.hid hu1
  have HS4 := Lib.hid hu2
  have HDec := Lib.hid (show ∀ k, mat (.two k s' u') (.two k t' x') σ = if (mat s' t' σ).1 = true then mat u' x' (mat s' t' σ).2 else (false, (mat s' t' σ).2) from fun k => by show (if k = k then _ else _) = _; rw [if_pos rfl])
  have HIH := Lib.hid hih
  have HIH2 := Lib.hid hih2
  have WS := Lib.hid wS
  have WT := Lib.hid wT
  have WU := Lib.hid wU
  have WX := Lib.hid wX
  clear ek et en ek' et' en' hs1 hs2 hu1 hu2 hl1 hl2 e1 e2 HU HV hih hih2 wS wT wU wX
  rcases hks with rfl | rfl
  · go_enter Tryd.func30, Tryd.ntmps30
    go_wp2_with fail
    refine reg30 mb i j p.length t.length c c' ⟨6, (g1 : Int), (j1 : Int), 0, []⟩ ⟨6, (g2 : Int), (j2 : Int), 0, []⟩ ad ad' W HIJ.out.1 HIJ.out.2 HM.out.blk.lt (HM.out.blk.cell 0) (HM.out.blk.cell 1) HAd.out.1 HAd.out.2 HP.out HQ.out (fun _ _ d _ _ h => by cases d <;> exact h) ?_
    intro b7 b8 w1 v11 v12 v13 v14 v15 v16 v17 v18 v19 v20 v21 v22 v23 v24 h7 h8 hb1
    have HB1 := Lib.hid hb1
    have HM1 := Lib.hid (HM.out.next hb1)
    have HI1 := Lib.hid (HI.out.next hb1)
    have HG1 := Lib.hid (grown_of_below hb1 (some vb))
    have H7 := Lib.hid h7
    have H8 := Lib.hid h8
    have x0 : w1.cell? ⟨b7, 0, none⟩ = some (.int .i64 6) := h7.cell 0
    have x1 : w1.cell? ⟨b7, 1, none⟩ = some (.int .i64 (g1 : Int)) := h7.cell 1
    have x2 : w1.cell? ⟨b7, 2, none⟩ = some (.int .i64 (j1 : Int)) := h7.cell 2
    have x3 : w1.cell? ⟨b7, 3, none⟩ = some (.int .i64 0) := h7.cell 3
    have x4 : w1.cell? ⟨b7, 4, none⟩ = some (strV []) := h7.cell 4
    have y0 : w1.cell? ⟨b8, 0, none⟩ = some (.int .i64 6) := h8.cell 0
    have y1 : w1.cell? ⟨b8, 1, none⟩ = some (.int .i64 (g2 : Int)) := h8.cell 1
    have y2 : w1.cell? ⟨b8, 2, none⟩ = some (.int .i64 (j2 : Int)) := h8.cell 2
    have y3 : w1.cell? ⟨b8, 3, none⟩ = some (.int .i64 0) := h8.cell 3
    have y4 : w1.cell? ⟨b8, 4, none⟩ = some (strV []) := h8.cell 4
    clear h7 h8 hb1
    go_wp2_with fail
    refine (HIH.out s' t' g1 g2 w1 s ns σ (Nat.le_refl _) WS.out WT.out HS1.out HS2.out HM1.out HI1.out HRel.out).mono ?_
    rintro e w2 ⟨rfl, s2, n2, hg2, hi2, hr2⟩
    have HG2 := Lib.hid (HG1.out.trans hg2)
    have HI2 := Lib.hid hi2
    have HR2 := Lib.hid hr2
    have HM2 := Lib.hid (HM1.out.mapped HI1.out hg2)
    have z7 : w2.cell? ⟨b7, 2, none⟩ = some (.int .i64 (j1 : Int)) := (H7.out.grown hg2 (fun e => HI1.out.ne H7.out (by injection e))).cell 2
    have z8 : w2.cell? ⟨b8, 2, none⟩ = some (.int .i64 (j2 : Int)) := (H8.out.grown hg2 (fun e => HI1.out.ne H8.out (by injection e))).cell 2
    clear hg2 hi2 hr2
    cases hmt : (mat s' t' σ).1 with
    | true =>
      have HMT := Lib.hid hmt
      clear hmt
      go_wp2_with fail
      refine (HIH2.out u' x' j1 j2 w2 s2 n2 _ (Nat.le_refl _) WU.out WX.out HS3.out HS4.out HM2.out HI2.out (HR2.out HMT.out)).mono ?_
      rintro e w3 ⟨rfl, s3, n3, hg3, hi3, hr3⟩
      have HG3 := Lib.hid (HG2.out.trans hg3)
      have HI3 := Lib.hid hi3
      have HR3 := Lib.hid hr3
      clear hg3 hi3 hr3
      go_wp2_with fail
      go_ret
      refine ⟨by rw [HDec.out _, if_pos HMT.out]; rfl, s3, n3, HG3.out, HI3.out, ?_⟩
      rw [HDec.out _, if_pos HMT.out]
      exact HR3.out
    | false =>
      have HMT := Lib.hid (show ¬ ((mat s' t' σ).1 = true) by rw [hmt]; decide)
      clear hmt
      go_wp2_with fail
      go_ret
      refine ⟨by rw [HDec.out _, if_neg HMT.out]; rfl, s2, n2, HG2.out, HI2.out, ?_⟩
      rw [HDec.out _, if_neg HMT.out]
      intro h
      cases h
  · go_enter Tryd.func30, Tryd.ntmps30
    go_wp2_with fail
    refine reg30 mb i j p.length t.length c c' ⟨8, (g1 : Int), (j1 : Int), 0, []⟩ ⟨8, (g2 : Int), (j2 : Int), 0, []⟩ ad ad' W HIJ.out.1 HIJ.out.2 HM.out.blk.lt (HM.out.blk.cell 0) (HM.out.blk.cell 1) HAd.out.1 HAd.out.2 HP.out HQ.out (fun _ _ d _ _ h => by cases d <;> exact h) ?_
    intro b7 b8 w1 v11 v12 v13 v14 v15 v16 v17 v18 v19 v20 v21 v22 v23 v24 h7 h8 hb1
    have HB1 := Lib.hid hb1
    have HM1 := Lib.hid (HM.out.next hb1)
    have HI1 := Lib.hid (HI.out.next hb1)
    have HG1 := Lib.hid (grown_of_below hb1 (some vb))
    have H7 := Lib.hid h7
    have H8 := Lib.hid h8
    have x0 : w1.cell? ⟨b7, 0, none⟩ = some (.int .i64 8) := h7.cell 0
    have x1 : w1.cell? ⟨b7, 1, none⟩ = some (.int .i64 (g1 : Int)) := h7.cell 1
    have x2 : w1.cell? ⟨b7, 2, none⟩ = some (.int .i64 (j1 : Int)) := h7.cell 2
    have x3 : w1.cell? ⟨b7, 3, none⟩ = some (.int .i64 0) := h7.cell 3
    have x4 : w1.cell? ⟨b7, 4, none⟩ = some (strV []) := h7.cell 4
    have y0 : w1.cell? ⟨b8, 0, none⟩ = some (.int .i64 8) := h8.cell 0
    have y1 : w1.cell? ⟨b8, 1, none⟩ = some (.int .i64 (g2 : Int)) := h8.cell 1
    have y2 : w1.cell? ⟨b8, 2, none⟩ = some (.int .i64 (j2 : Int)) := h8.cell 2
    have y3 : w1.cell? ⟨b8, 3, none⟩ = some (.int .i64 0) := h8.cell 3
    have y4 : w1.cell? ⟨b8, 4, none⟩ = some (strV []) := h8.cell 4
    clear h7 h8 hb1
    go_wp2_with fail
    refine (HIH.out s' t' g1 g2 w1 s ns σ (Nat.le_refl _) WS.out WT.out HS1.out HS2.out HM1.out HI1.out HRel.out).mono ?_
    rintro e w2 ⟨rfl, s2, n2, hg2, hi2, hr2⟩
    have HG2 := Lib.hid (HG1.out.trans hg2)
    have HI2 := Lib.hid hi2
    have HR2 := Lib.hid hr2
    have HM2 := Lib.hid (HM1.out.mapped HI1.out hg2)
    have z7 : w2.cell? ⟨b7, 2, none⟩ = some (.int .i64 (j1 : Int)) := (H7.out.grown hg2 (fun e => HI1.out.ne H7.out (by injection e))).cell 2
    have z8 : w2.cell? ⟨b8, 2, none⟩ = some (.int .i64 (j2 : Int)) := (H8.out.grown hg2 (fun e => HI1.out.ne H8.out (by injection e))).cell 2
    clear hg2 hi2 hr2
    cases hmt : (mat s' t' σ).1 with
    | true =>
      have HMT := Lib.hid hmt
      clear hmt
      go_wp2_with fail
      refine (HIH2.out u' x' j1 j2 w2 s2 n2 _ (Nat.le_refl _) WU.out WX.out HS3.out HS4.out HM2.out HI2.out (HR2.out HMT.out)).mono ?_
      rintro e w3 ⟨rfl, s3, n3, hg3, hi3, hr3⟩
      have HG3 := Lib.hid (HG2.out.trans hg3)
      have HI3 := Lib.hid hi3
      have HR3 := Lib.hid hr3
      clear hg3 hi3 hr3
      go_wp2_with fail
      go_ret
      refine ⟨by rw [HDec.out _, if_pos HMT.out]; rfl, s3, n3, HG3.out, HI3.out, ?_⟩
      rw [HDec.out _, if_pos HMT.out]
      exact HR3.out
    | false =>
      have HMT := Lib.hid (show ¬ ((mat s' t' σ).1 = true) by rw [hmt]; decide)
      clear hmt
      go_wp2_with fail
      go_ret
      refine ⟨by rw [HDec.out _, if_neg HMT.out]; rfl, s2, n2, HG2.out, HI2.out, ?_⟩
      rw [HDec.out _, if_neg HMT.out]
      intro h
      cases h
set_option maxRecDepth 100000 in
set_option maxHeartbeats 16000000 in
theorem c30var {p t : List Part} {mb vb c c' : Nat} {A A' : Option Addr} {i j : Nat} {W : World} {s : Int → Option Nat} {ns : Nat} {σ : Int → Option Ty} {vn : Int} {T : Ty} (wT : T.wf) (hU : At p (.var vn) i) (hV : At t T j) (hM : MatM W mb vb A A' c c' p t) (hI : IMap W vb (sD s) ns) (hRel : Rel t s σ) :
    Calls Tryd.prog 30 #[ptr mb, .int .i64 (i : Int), .int .i64 (j : Int)] W fun e W' => e = .returned (.bool (mat (.var vn) T σ).1) ∧ AtPost t vb (mat (.var vn) T σ) W W' := by
  obtain ⟨px, hpx, ek, et, en⟩ := hU.top
  obtain ⟨qx, hqx, ek', et', en'⟩ := hV.top
  have hi := hU.lt
  have hj := hV.lt
  obtain ⟨ad, rfl, hadb, hcp⟩ := Reads.partAt hM.rp hpx
  obtain ⟨ad', rfl, hadb', hcq⟩ := Reads.partAt hM.rt hqx
  have HM := Lib.hid hM
  have HI := Lib.hid hI
  have HRel := Lib.hid hRel
  have HP := Lib.hid hcp
  have HQ := Lib.hid hcq
  have HAd := Lib.hid (show ad.block < W.heap.size ∧ ad'.block < W.heap.size from ⟨hadb, hadb'⟩)
  have HIJ := Lib.hid (show i < p.length ∧ j < t.length from ⟨hi, hj⟩)
  have HU := Lib.hid hU
  have HV := Lib.hid hV
  have HPX := Lib.hid hpx
  have HQX := Lib.hid hqx
  clear hM hcp hcq hadb hadb' hi hj hU hV hpx hqx hI hRel
  obtain ⟨pk, pa, pb, pn, pt⟩ := px
  obtain ⟨qk, qa, qb, qn, qt⟩ := qx
  simp only at ek et en ek' et' en'
  have hpk : pk = 11 := ek
  subst hpk
  obtain rfl : pn = vn := en
  have WT := Lib.hid wT
  clear ek et ek' et' en' wT
  have hrel := HRel.out pn
  cases hs : s pn with
  | none =>
    have hσ : σ pn = none := by
      rcases hrel with ⟨_, h⟩ | ⟨k, U, h, _⟩
      · exact h
      · rw [hs] at h; cases h
    have HMat := Lib.hid (show mat (.var pn) T σ = (true, Go.Proofs.YtcilodgpbdafeaaDoor.put σ pn T) by show ((match σ pn with | none => true | some U => decide (U = T)), _) = _; rw [hσ])
    have HSn := Lib.hid hs
    clear hrel hs hσ
    go_enter Tryd.func30, Tryd.ntmps30
    go_wp2_with fail
    refine reg30 mb i j p.length t.length c c' ⟨11, pa, pb, pn, pt⟩ ⟨qk, qa, qb, qn, qt⟩ ad ad' W HIJ.out.1 HIJ.out.2 HM.out.blk.lt (HM.out.blk.cell 0) (HM.out.blk.cell 1) HAd.out.1 HAd.out.2 HP.out HQ.out (fun _ _ d _ _ h => by cases d <;> exact h) ?_
    intro b7 b8 w1 v11 v12 v13 v14 v15 v16 v17 v18 v19 v20 v21 v22 v23 v24 h7 h8 hb1
    have HB1 := Lib.hid hb1
    have HM1 := Lib.hid (HM.out.next hb1)
    have HI1 := Lib.hid (HI.out.next hb1)
    have HG1 := Lib.hid (grown_of_below hb1 (some vb))
    have H7 := Lib.hid h7
    have H8 := Lib.hid h8
    have x0 : w1.cell? ⟨b7, 0, none⟩ = some (.int .i64 11) := h7.cell 0
    have x1 : w1.cell? ⟨b7, 1, none⟩ = some (.int .i64 pa) := h7.cell 1
    have x2 : w1.cell? ⟨b7, 2, none⟩ = some (.int .i64 pb) := h7.cell 2
    have x3 : w1.cell? ⟨b7, 3, none⟩ = some (.int .i64 pn) := h7.cell 3
    have x4 : w1.cell? ⟨b7, 4, none⟩ = some (strV pt) := h7.cell 4
    have y0 : w1.cell? ⟨b8, 0, none⟩ = some (.int .i64 qk) := h8.cell 0
    have y1 : w1.cell? ⟨b8, 1, none⟩ = some (.int .i64 qa) := h8.cell 1
    have y2 : w1.cell? ⟨b8, 2, none⟩ = some (.int .i64 qb) := h8.cell 2
    have y3 : w1.cell? ⟨b8, 3, none⟩ = some (.int .i64 qn) := h8.cell 3
    have y4 : w1.cell? ⟨b8, 4, none⟩ = some (strV qt) := h8.cell 4
    clear h7 h8 hb1
    have m2 := HM1.out.blk.cell 2
    have hlk : ∀ k, (Instr.lookup 47 (.map (some vb)) (iK pn) true).run Tryd.prog (w1.drewN k) = .ok (.tuple #[.int .i64 0, .bool false]) (w1.drewN k) := fun k => by
      have h := look47 (HI1.out.drewN k) pn
      unfold sD at h
      rw [HSn.out] at h
      exact h
    replace m2 : w1.cell? ⟨mb, 2, none⟩ = some (.map (some vb)) := m2
    go_wp2_with fail
    go_quiet (fail)
    go_wp2_with fail
    have m2' : (w1.drewN nq).cell? ⟨mb, 2, none⟩ = some (.map (some vb)) := m2
    have x3' : (w1.drewN nq).cell? ⟨b7, 3, none⟩ = some (.int .i64 pn) := x3
    have HI2 := HI1.out.drewN nq
    have HB2 := Lib.hid (show w1.grownBy (w1.drewN nq) (some vb) from ⟨rfl, rfl, rfl, Nat.le_refl _, fun _ _ _ => rfl⟩)
    clear hlk m2 x0 x1 x2 x3 x4 y0 y1 y2 y3 y4
    generalize w1.drewN nq = w2 at m2' x3' HI2 HB2 ⊢
    obtain ⟨w3, hst, hi3, hg3⟩ := store47 (show IMap w2.drew vb (sD s) ns from HI2) pn (natV j)
    rw [sD_put] at hi3
    replace hst : (Instr.mapUpdate 47 (.map (some vb)) (.int .i64 pn) (.int .i64 (j : Int))).run Tryd.prog w2.drew = .ok () w3 := hst
    have HI3 := Lib.hid hi3
    have HG3 := Lib.hid (HB2.out.trans (show w2.grownBy w3 (some vb) from ⟨hg3.os, hg3.tape, hg3.output, hg3.size, hg3.block⟩))
    clear hi3 hg3 HI2
    go_still_tail 7, (by kernel_rfl)
    change wpList _ _ _ _ _ w2.drew
    go_wp2_with fail
    go_ret
    refine ⟨by rw [HMat.out]; rfl, _, _, HG1.out.trans HG3.out, HI3.out, fun _ => ?_⟩
    rw [HMat.out]
    exact HRel.out.put WT.out HV.out
  | some k =>
    obtain ⟨U, hσ, wU, hU'⟩ : ∃ U, σ pn = some U ∧ U.wf ∧ At t U k := by
      rcases hrel with ⟨h, _⟩ | ⟨k', U, h, h2, h3, h4⟩
      · rw [hs] at h; cases h
      · rw [hs] at h
        obtain rfl := Option.some.inj h
        exact ⟨U, h2, h3, h4⟩
    have HMat := Lib.hid (show mat (.var pn) T σ = (decide (U = T), Go.Proofs.YtcilodgpbdafeaaDoor.put σ pn T) by show ((match σ pn with | none => true | some U => decide (U = T)), _) = _; rw [hσ])
    have HSn := Lib.hid hs
    have WU := Lib.hid wU
    have HUk := Lib.hid hU'
    clear hrel hs hσ wU hU'
    go_enter Tryd.func30, Tryd.ntmps30
    go_wp2_with fail
    refine reg30 mb i j p.length t.length c c' ⟨11, pa, pb, pn, pt⟩ ⟨qk, qa, qb, qn, qt⟩ ad ad' W HIJ.out.1 HIJ.out.2 HM.out.blk.lt (HM.out.blk.cell 0) (HM.out.blk.cell 1) HAd.out.1 HAd.out.2 HP.out HQ.out (fun _ _ d _ _ h => by cases d <;> exact h) ?_
    intro b7 b8 w1 v11 v12 v13 v14 v15 v16 v17 v18 v19 v20 v21 v22 v23 v24 h7 h8 hb1
    have HB1 := Lib.hid hb1
    have HM1 := Lib.hid (HM.out.next hb1)
    have HI1 := Lib.hid (HI.out.next hb1)
    have HG1 := Lib.hid (grown_of_below hb1 (some vb))
    have H7 := Lib.hid h7
    have H8 := Lib.hid h8
    have x0 : w1.cell? ⟨b7, 0, none⟩ = some (.int .i64 11) := h7.cell 0
    have x1 : w1.cell? ⟨b7, 1, none⟩ = some (.int .i64 pa) := h7.cell 1
    have x2 : w1.cell? ⟨b7, 2, none⟩ = some (.int .i64 pb) := h7.cell 2
    have x3 : w1.cell? ⟨b7, 3, none⟩ = some (.int .i64 pn) := h7.cell 3
    have x4 : w1.cell? ⟨b7, 4, none⟩ = some (strV pt) := h7.cell 4
    have y0 : w1.cell? ⟨b8, 0, none⟩ = some (.int .i64 qk) := h8.cell 0
    have y1 : w1.cell? ⟨b8, 1, none⟩ = some (.int .i64 qa) := h8.cell 1
    have y2 : w1.cell? ⟨b8, 2, none⟩ = some (.int .i64 qb) := h8.cell 2
    have y3 : w1.cell? ⟨b8, 3, none⟩ = some (.int .i64 qn) := h8.cell 3
    have y4 : w1.cell? ⟨b8, 4, none⟩ = some (strV qt) := h8.cell 4
    clear h7 h8 hb1
    have m2 := HM1.out.blk.cell 2
    have hlk : ∀ n, (Instr.lookup 47 (.map (some vb)) (iK pn) true).run Tryd.prog (w1.drewN n) = .ok (.tuple #[.int .i64 (k : Int), .bool true]) (w1.drewN n) := fun n => by
      have h := look47 (HI1.out.drewN n) pn
      unfold sD at h
      rw [HSn.out] at h
      exact h
    replace m2 : w1.cell? ⟨mb, 2, none⟩ = some (.map (some vb)) := m2
    go_wp2_with fail
    go_quiet (fail)
    go_wp2_with fail
    have m2' : (w1.drewN nq).cell? ⟨mb, 2, none⟩ = some (.map (some vb)) := m2
    have x3' : (w1.drewN nq).cell? ⟨b7, 3, none⟩ = some (.int .i64 pn) := x3
    have HI2 := HI1.out.drewN nq
    have HB2 := Lib.hid (show w1.grownBy (w1.drewN nq) (some vb) from ⟨rfl, rfl, rfl, Nat.le_refl _, fun _ _ _ => rfl⟩)
    clear hlk m2 x0 x1 x2 x3 x4 y0 y1 y2 y3 y4
    generalize w1.drewN nq = w2 at m2' x3' HI2 HB2 ⊢
    obtain ⟨w3, hst, hi3, hg3⟩ := store47 (show IMap w2.drew vb (sD s) ns from HI2) pn (natV j)
    rw [sD_put] at hi3
    replace hst : (Instr.mapUpdate 47 (.map (some vb)) (.int .i64 pn) (.int .i64 (j : Int))).run Tryd.prog w2.drew = .ok () w3 := hst
    have HI3 := Lib.hid hi3
    have HG3 := Lib.hid (HB2.out.trans (show w2.grownBy w3 (some vb) from ⟨hg3.os, hg3.tape, hg3.output, hg3.size, hg3.block⟩))
    have HM3 := Lib.hid (HM1.out.mapped HI1.out HG3.out)
    clear hi3 hg3 HI2
    go_still_tail 7, (by kernel_rfl)
    change wpList _ _ _ _ _ w2.drew
    go_wp2_with fail
    refine (c40 U.size U T k j w3 (Nat.le_refl _) WU.out WT.out HUk.out HV.out HM3.out).mono ?_
    rintro e w4 ⟨rfl, hb4⟩
    have HG4 := Lib.hid (HG3.out.trans (grown_of_below hb4 (some vb)))
    have HI4 := Lib.hid (HI3.out.next hb4)
    clear hb4
    generalize hdec : decide (U = T) = bd at HMat
    have HDc := Lib.hid hdec
    clear hdec
    go_wp2_with fail
    go_ret
    refine ⟨by rw [HMat.out]; rfl, _, _, HG1.out.trans HG4.out, HI4.out, fun _ => ?_⟩
    rw [HMat.out]
    exact HRel.out.put WT.out HV.out
theorem c30 {p t : List Part} {mb vb c c' : Nat} {A A' : Option Addr} : ∀ m, AtOk p t mb vb c c' A A' m := by
  intro m
  induction m with
  | zero => intro S T i j W s ns σ h; have := S.size_pos; omega
  | succ m ih =>
    intro S T i j W s ns σ hm wS wT hU hV hM hI hRel
    have hsub : ∀ k', k' ≤ m → AtOk p t mb vb c c' A A' k' := fun k' hk S' T' i' j' W' s' n' σ' h => ih S' T' i' j' W' s' n' σ' (Nat.le_trans h hk)
    by_cases hS : S.kind = 11
    · cases S with
      | var vn => exact c30var wT hU hV hM hI hRel
      | leaf k t => exfalso; simp only [Ty.kind, Ty.wf] at hS wS; omega
      | one k s => exfalso; simp only [Ty.kind, Ty.wf] at hS wS; omega
      | two k s u => exfalso; simp only [Ty.kind, Ty.wf] at hS wS; omega
    · by_cases hkt : S.kind = T.kind ∧ S.text = T.text
      · rcases Ty.alike wS wT hS hkt.1 hkt.2 with ⟨h7, h9, h6, h8, hmt⟩ | ⟨k, s', t', hk, rfl, rfl⟩ | ⟨k, s', u', t', x', hk, rfl, rfl⟩
        · exact c30leaf hS hkt.1 hkt.2 h7 h9 h6 h8 hmt hU hV hM hI hRel
        · exact c30one hk wS.2 wT.2 (hsub _ (by simp only [Ty.size] at hm; omega)) hU hV hM hI hRel
        · exact c30two hk wS.2.1 wS.2.2 wT.2.1 wT.2.2 (hsub _ (by simp only [Ty.size] at hm; omega)) (hsub _ (by simp only [Ty.size] at hm; omega)) hU hV hM hI hRel
      · exact c30no wS wT hS hkt hU hV hM hI hRel
end Go.Proofs.YtcilodgpbdafeaaDoor
