/- The document's Unify. -/
import Derived.Test.YtcilodgpbdafeaaDoorZB
import Derived.Test.YtcilodgpbdafeaaDoorZA
namespace Go.Proofs.YtcilodgpbdafeaaDoor
open Go.ChangeShapes Go.WideShapes Go.ChangeAt Go.RowKit
set_option linter.unusedVariables false
set_option linter.unusedSimpArgs false
theorem c48 : ∀ (n m : Nat), UniOk n m := by
  intro n
  induction n using Nat.strongRecOn with
  | ind n ihn =>
    intro m
    induction m with
    | zero => intro base pb db A c L D V a b S T W _ h; have := S.size_pos; omega
    | succ m ihm =>
      intro base pb db A c L D V a b S T W hL hm hN hS hT wS wT vS vT
      obtain ⟨ra, ka, ha, da⟩ := hS.rep
      obtain ⟨rb, kb, hb, db'⟩ := hT.rep
      by_cases hSv : ∃ v, S = .var v
      · obtain ⟨v, rfl⟩ := hSv
        obtain ⟨u, rfl⟩ := da.varNat _ rfl
        have e := ha.isRoot.var da
        subst e
        exact c48v ha hb da db' wT vS vT W hN
      · by_cases hTv : ∃ v, T = .var v
        · obtain ⟨v, rfl⟩ := hTv
          obtain ⟨u, rfl⟩ := db'.varNat _ rfl
          have e := hb.isRoot.var db'
          subst e
          exact c48s ha hb da db' (fun n e => hSv ⟨n, e⟩) wS vT vS W hN
        · exact c48n ha hb da db' (fun n e => hSv ⟨n, e⟩) (fun n e => hTv ⟨n, e⟩) wS wT vS vT hm (UniOk.step hL ihn ihm) W hN
/-- What Unify hands back. -/
def UnifyEnd (base pb : Nat) (A : Option Addr) (c : Nat) (L : List Tm) (S T : Ty) (W : World) (e : Ending) (W' : World) : Prop :=
  ∃ r L', e = .returned (.bool r) ∧ Below base W W' ∧ PoolM W' base pb A c L' ∧ (r = false → ∀ τ, sub τ S ≠ sub τ T) ∧ (r = true → ∃ θ, Mgu θ S T ∧ Carries (nodes L) (nodes L') θ ∧ WfS θ)
set_option maxRecDepth 100000 in
set_option maxHeartbeats 4000000 in
theorem c35 {base pb : Nat} {A : Option Addr} {c : Nat} {L : List Tm} {V : List Int} {a b : Nat} {S T : Ty} (da : Den (nodes L) a S) (db_ : Den (nodes L) b T) (wS : S.wf) (wT : T.wf) (vS : vin V S) (vT : vin V T) (W : World) (hP : PoolM W base pb A c L) :
    Calls Tryd.prog 35 #[ptr pb, .int .i64 (a : Int), .int .i64 (b : Int)] W (UnifyEnd base pb A c L S T W) := by
  have hb : base ≤ W.heap.size := Nat.le_of_lt (Nat.lt_of_le_of_lt hP.pbb hP.lt)
  have HP := Lib.hid hP
  have DA := Lib.hid da
  have DB := Lib.hid db_
  have WS := Lib.hid wS
  have WT := Lib.hid wT
  have VS := Lib.hid vS
  have VT := Lib.hid vT
  clear hP da db_ wS wT vS vT
  obtain ⟨i63, fi63, hz0, hz1, hz2⟩ := info_parts pair_info
  obtain ⟨w3, hmk, ho3, hg3⟩ := run_makeSlice_full (P := Tryd.prog) W base 64 63 i63 _ 2 Tryd.underlying64 fi63 hz0 hz1 .i64 .i64 0 (by omega) (by rw [hz2]; omega) (by unfold maxLen; omega) hb
  replace hmk : (Instr.makeSlice 64 (.int .i64 0) (.int .i64 0)).run Tryd.prog W = .ok (.slice (some ⟨W.heap.size, 0, none⟩) 0 0) w3 := hmk
  rw [List.eq_nil_of_length_eq_zero (ho3.1.trans (Nat.zero_mul 2))] at ho3
  have hP3 : PoolM w3 base pb A c L := HP.out.grown hg3 (by simp) (.inr rfl)
  have hM : UniM (w3.alloc (.cells #[.slice (some ⟨W.heap.size, 0, none⟩) 0 0] 64)) base pb w3.heap.size A c L [] :=
    ⟨hP3.next (below_new _ _), ⟨some ⟨W.heap.size, 0, none⟩, 0, Blk.new w3 64 _, own_next ho3 (below_new _ _)⟩, Nat.le_trans hb hg3.size, List.nodup_nil, fun p hp => by cases hp⟩
  have HB := Lib.hid (show Below base W (w3.alloc (.cells #[.slice (some ⟨W.heap.size, 0, none⟩) 0 0] 64)) from ((Below.refl base W).grown hg3 hb (fun k e => by cases e)).alloc (Nat.le_trans hb hg3.size) _)
  have HC := Lib.hid (c48 V.length S.size base pb w3.heap.size A c L [] V a b S T _ (Nat.le_refl _) (Nat.le_refl _) hM DA.out DB.out WS.out WT.out VS.out VT.out)
  clear ho3 hg3 hz0 hz1 hz2 fi63 hP3 hM
  go_enter Tryd.func35, Tryd.ntmps35
  go_wp2_with fail
  refine HC.out.mono ?_
  rintro e w4 ⟨r, L', rfl, b4, p4, _, hno, hyes⟩
  have B4 := Lib.hid (HB.out.trans b4)
  have P4 := Lib.hid p4
  have HNO := Lib.hid hno
  have HYES := Lib.hid hyes
  clear b4 p4 hno hyes HC
  go_wp2_with fail
  go_ret
  refine ⟨r, L', rfl, B4.out, P4.out, HNO.out, fun hr => ?_⟩
  obtain ⟨θ, D', h1, _, h2, h3, _⟩ := HYES.out hr
  exact ⟨θ, h1, h2, h3⟩
end Go.Proofs.YtcilodgpbdafeaaDoor
namespace Go.Proofs.YtcilodgpbdafeaaDoor
open Go.ChangeShapes Go.WideShapes Go.ChangeAt Go.RowKit
set_option linter.unusedVariables false
set_option linter.unusedSimpArgs false
theorem nodes_push (L : List Tm) (x : Tm) : nodes (L ++ [x]) = putN (nodes L) L.length x.nd := by
  funext i
  unfold nodes putN
  by_cases hi : i = L.length
  · subst hi; simp
  · rw [if_neg hi]
    show _ = (L[i]?).map Tm.nd
    rcases Nat.lt_or_ge i L.length with h | h
    · rw [List.getElem?_append_left h]
    · rw [List.getElem?_eq_none (by simp; omega), List.getElem?_eq_none h]
theorem nodes_end (L : List Tm) : nodes L L.length = none := by unfold nodes; simp
theorem Den.inL {L : List Tm} {g : Nat} {U : Ty} (h : Den (nodes L) g U) : g < L.length := by
  obtain ⟨r, n, hr, _⟩ := h.rep
  cases hr with
  | here e _ => exact nodes_lt e
  | step e _ _ => exact nodes_lt e
/-- A node that is a variable is a number's. -/
theorem OfG.named {l : List Part} {k : Nat} {N : Nat → Option Nd} {s : Int → Option Nat} {LS : List Nat} {V : List Int} (h : OfG l k N s LS V) {x : Nat} (hx : Den N x (.var x)) {n : Int} (hn : s n = none) (hnx : ∀ m, s m ≠ some x) :
    OfG l k N (fun m => if m = n then some x else s m) LS (V ++ [n]) := by
  refine ⟨h.len, fun m => ?_, fun m m' y h2 h3 => ?_, fun m y h2 => ?_, fun i g U hi hw hU => ?_⟩
  · by_cases hm : m = n
    · simp [hm]
    · simp only [if_neg hm]
      rw [h.dom m]
      simp [hm]
  · by_cases hm : m = n
    · by_cases hm' : m' = n
      · rw [hm, hm']
      · simp only [if_pos hm] at h2
        simp only [if_neg hm'] at h3
        injection h2 with h2
        exact absurd (h2 ▸ h3) (hnx m')
    · by_cases hm' : m' = n
      · simp only [if_neg hm] at h2
        simp only [if_pos hm'] at h3
        injection h3 with h3
        exact absurd (h3 ▸ h2) (hnx m)
      · simp only [if_neg hm] at h2
        simp only [if_neg hm'] at h3
        exact h.inj m m' y h2 h3
  · by_cases hm : m = n
    · simp only [if_pos hm] at h2
      injection h2 with h2
      subst h2
      exact hx
    · simp only [if_neg hm] at h2
      exact h.var m y h2
  · obtain ⟨h4, h5⟩ := h.den i g U hi hw hU
    refine ⟨vin_mono (fun x hx => List.mem_append_left _ hx) U h4, ?_⟩
    rw [sub_agree (L := V) (τ' := vs s) (fun m hm => ?_) U h4]
    · exact h5
    · have hmn : m ≠ n := fun e => by
        subst e
        have := (h.dom m).2 hm
        rw [hn] at this
        cases this
      simp only [vs, if_neg hmn]
theorem OfG.start' {l : List Part} {N : Nat → Option Nd} : OfG l 0 N (fun _ => none) [] [] := ⟨rfl, fun n => by simp, fun n m x h => by (cases h), fun n x h => by (cases h), fun i g U h => by simp at h⟩
theorem dis_grow {v v1 u : Value} {sz : Nat} (hd : v.ownBlock = none ∨ v.ownBlock ≠ u.ownBlock) (hu : ∀ k, u.ownBlock = some k → k < sz) (hn : v1.ownBlock = v.ownBlock ∨ v1.ownBlock = some sz) : v1.ownBlock = none ∨ v1.ownBlock ≠ u.ownBlock := by
  rcases hn with hn | hn
  · rw [hn]; exact hd
  · refine .inr fun e => ?_
    have := hu sz (e.symm.trans hn)
    omega
theorem dis_symm {v u : Value} (hd : v.ownBlock = none ∨ v.ownBlock ≠ u.ownBlock) : u.ownBlock = none ∨ u.ownBlock ≠ v.ownBlock := by
  rcases hd with hd | hd
  · cases hu : u.ownBlock with
    | none => exact .inl rfl
    | some k => exact .inr (by rw [hd]; simp)
  · exact .inr fun e => hd e.symm
/-- What Copy has laid by now. -/
structure CopyW (W w : World) (base pb : Nat) (A0 : Option Addr) (L0 : List Tm) (l : List Part) (k : Nat) (A : Option Addr) (c : Nat) (L : List Tm) (va vn vv : Value) (s : Int → Option Nat) (LS : List Nat) (V : List Int) (VS : List Nat) : Prop where
  pool : PoolM w base pb A c L
  stay : Stays (PK pb A0) W w
  anew : ∀ b, A.map (·.block) = some b → A0.map (·.block) = some b ∨ W.heap.size ≤ b
  row : w.ownsRow W.heap.size 3 1 va k (LS.map natV)
  nums : w.ownsRow W.heap.size 3 1 vn V.length (V.map fun n => .int .i64 n)
  vars : w.ownsRow W.heap.size 3 1 vv V.length (VS.map natV)
  d1 : va.ownBlock = none ∨ va.ownBlock ≠ vn.ownBlock
  d2 : va.ownBlock = none ∨ va.ownBlock ≠ vv.ownBlock
  d3 : vn.ownBlock = none ∨ vn.ownBlock ≠ vv.ownBlock
  g : OfG l k (nodes L) s LS V
  vl : VS.length = V.length
  sv : ∀ (i : Nat) (n : Int) (x : Nat), V[i]? = some n → VS[i]? = some x → s n = some x
  nd : V.Nodup
  lo : ∀ n x, s n = some x → L0.length ≤ x
  ext : ∀ i d, nodes L0 i = some d → nodes L i = some d
section
variable {W w w' w7 : World} {base pb : Nat} {A0 : Option Addr} {L0 : List Tm} {l : List Part} {k : Nat} {A A' : Option Addr} {c c' : Nat} {L : List Tm} {va vn vv v1 : Value} {s : Int → Option Nat} {LS : List Nat} {V : List Int} {VS : List Nat}
theorem CopyW.next (h : CopyW W w base pb A0 L0 l k A c L va vn vv s LS V VS) (hb : Below w.heap.size w w') : CopyW W w' base pb A0 L0 l k A c L va vn vv s LS V VS :=
  ⟨h.pool.next hb, h.stay.trans (K' := fun _ => False) (Stays.of_below hb) (fun _ _ h => h.elim), h.anew, own_next h.row hb, own_next h.nums hb, own_next h.vars hb, h.d1, h.d2, h.d3, h.g, h.vl, h.sv, h.nd, h.lo, h.ext⟩
theorem CopyW.bel (h : CopyW W w base pb A0 L0 l k A c L va vn vv s LS V VS) (h0 : ∀ b, A0.map (·.block) = some b → base ≤ b) (hb : base ≤ W.heap.size) : Below base W w :=
  ⟨h.stay.os, h.stay.tape, h.stay.output, h.stay.size, fun j hj => h.stay.block j (by omega) (by
    rintro (e | e)
    · have := h.pool.pbb; omega
    · have := h0 j e; omega)⟩
theorem CopyW.not (h : CopyW W w base pb A0 L0 l k A c L va vn vv s LS V VS) {v : Value} {n : Nat} {xs : List Value} (o : w.ownsRow W.heap.size 3 1 v n xs) : ∀ j, v.ownBlock = some j → ¬ PK pb A j := by
  rintro j hj (e | e)
  · exact own_blk_ne o h.pool.blk (by decide) (by rw [hj, e])
  · rcases own_own_ne o h.pool.own (by decide) with h1 | h1
    · rw [hj] at h1; cases h1
    · rw [ownBlock_eq] at h1; exact h1 (by rw [hj, e])
/-- A node more. -/
theorem CopyW.node (h : CopyW W w base pb A0 L0 l k A c L va vn vv s LS V VS) {x : Tm} (hp : PoolM w' base pb A' c' (L ++ [x])) (hs : Stays (PK pb A) w w') (ha : ∀ b, A'.map (·.block) = some b → A.map (·.block) = some b ∨ w.heap.size ≤ b) :
    CopyW W w' base pb A0 L0 l k A' c' (L ++ [x]) va vn vv s LS V VS := by
  refine ⟨hp, h.stay.trans hs ?_, fun b hb => ?_, own_stays h.row hs (h.not h.row), own_stays h.nums hs (h.not h.nums), own_stays h.vars hs (h.not h.vars), h.d1, h.d2, h.d3, by rw [nodes_push]; exact h.g.put (nodes_end L), h.vl, h.sv, h.nd, h.lo, fun i d hi => ?_⟩
  · rintro j hj (e | e)
    · exact .inl e
    · rcases h.anew j e with e' | e'
      · exact .inr e'
      · omega
  · rcases ha b hb with e | e
    · exact h.anew b e
    · exact .inr (Nat.le_trans h.stay.size e)
  · have h1 := h.ext i d hi
    rw [nodes_push]
    unfold putN
    rw [if_neg (by have := nodes_lt h1; omega)]
    exact h1
theorem CopyW.row_lt {v : Value} {n : Nat} {xs : List Value} (o : w.ownsRow W.heap.size 3 1 v n xs) : ∀ j, v.ownBlock = some j → j < w.heap.size := own_lt o
/-- What grows in an int row of the call's own. -/
theorem CopyW.grow (h : CopyW W w base pb A0 L0 l k A c L va vn vv s LS V VS) {o : Obj} {v : Value} {n : Nat} {xs : List Value} (ov : w.ownsRow W.heap.size 3 1 v n xs) (gA : (w.alloc o).grownBy w7 v.ownBlock) : PoolM w7 base pb A c L ∧ Stays (PK pb A0) W w7 := by
  have h1 := h.next (below_new w o)
  have o1 := own_next ov (below_new w o)
  refine ⟨h1.pool.grown gA (fun e => own_blk_ne o1 h1.pool.blk (by decide) e) ?_, ⟨gA.os.trans h1.stay.os, gA.tape.trans h1.stay.tape, gA.output.trans h1.stay.output, Nat.le_trans h1.stay.size gA.size, fun j hj hn => (gA.block j (Nat.lt_of_lt_of_le hj h1.stay.size) (fun e => by have := own_base ov j e.symm; omega)).trans (h1.stay.block j hj hn)⟩⟩
  rcases own_own_ne o1 h1.pool.own (by decide) with e | e
  · exact .inr e
  · exact .inl e
theorem CopyW.vars7 (h : CopyW W w base pb A0 L0 l k A c L va vn vv s LS V VS) {o : Obj} (gA : (w.alloc o).grownBy w7 vn.ownBlock) : w7.ownsRow W.heap.size 3 1 vv V.length (VS.map natV) := (h.next (below_new w o)).vars.kept gA (dis_symm h.d3)
/-- The node of the next part. -/
theorem CopyW.push (h : CopyW W w base pb A0 L0 l k A c L va vn vv s LS V VS) {o : Obj} {x : Nat} (hx : ∀ U, U.wf → At l U k → vin V U ∧ Den (nodes L) x (sub (vs s) U)) (oA : w7.ownsRow W.heap.size 3 1 v1 (k + 1) (LS.map natV ++ [natV x])) (gA : (w.alloc o).grownBy w7 va.ownBlock) (nA : v1.ownBlock = va.ownBlock ∨ v1.ownBlock = some (w.alloc o).heap.size) :
    CopyW W w7 base pb A0 L0 l (k + 1) A c L v1 vn vv s (LS ++ [x]) V VS := by
  have h1 := h.next (below_new w o)
  obtain ⟨p7, s7⟩ := h.grow h.row gA
  exact ⟨p7, s7, h.anew, by rw [List.map_append]; exact oA, h1.nums.kept gA (dis_symm h.d1), h1.vars.kept gA (dis_symm h.d2), dis_grow h.d1 (own_lt h1.nums) nA, dis_grow h.d2 (own_lt h1.vars) nA, h.d3, h.g.snoc hx, h.vl, h.sv, h.nd, h.lo, h.ext⟩
/-- A variable's number, and its node, are written down. -/
theorem CopyW.named (h : CopyW W w base pb A0 L0 l k A c L va vn vv s LS V VS) {o o' : Obj} {n : Int} {x : Nat} {vn1 vv1 : Value} {w8 : World} (hx : Den (nodes L) x (.var x)) (hn : s n = none) (hnx : ∀ m, s m ≠ some x) (hlo : L0.length ≤ x)
    (oA : w7.ownsRow W.heap.size 3 1 vn1 (V.length + 1) ((V.map fun n => .int .i64 n) ++ [.int .i64 n])) (gA : (w.alloc o).grownBy w7 vn.ownBlock) (nA : vn1.ownBlock = vn.ownBlock ∨ vn1.ownBlock = some (w.alloc o).heap.size)
    (oB : w8.ownsRow W.heap.size 3 1 vv1 (V.length + 1) (VS.map natV ++ [natV x])) (gB : (w7.alloc o').grownBy w8 vv.ownBlock) (nB : vv1.ownBlock = vv.ownBlock ∨ vv1.ownBlock = some (w7.alloc o').heap.size) :
    PoolM w8 base pb A c L ∧ Stays (PK pb A0) W w8 ∧ w8.ownsRow W.heap.size 3 1 va k (LS.map natV) ∧ w8.ownsRow W.heap.size 3 1 vn1 (V ++ [n]).length ((V ++ [n]).map fun n => .int .i64 n) ∧ w8.ownsRow W.heap.size 3 1 vv1 (V ++ [n]).length ((VS ++ [x]).map natV) ∧
    (va.ownBlock = none ∨ va.ownBlock ≠ vn1.ownBlock) ∧ (va.ownBlock = none ∨ va.ownBlock ≠ vv1.ownBlock) ∧ (vn1.ownBlock = none ∨ vn1.ownBlock ≠ vv1.ownBlock) ∧ OfG l k (nodes L) (fun m => if m = n then some x else s m) LS (V ++ [n]) ∧ (VS ++ [x]).length = (V ++ [n]).length ∧
    (∀ (i : Nat) (m : Int) (y : Nat), (V ++ [n])[i]? = some m → (VS ++ [x])[i]? = some y → (if m = n then some x else s m) = some y) ∧ (V ++ [n]).Nodup ∧ ∀ m y, (if m = n then some x else s m) = some y → L0.length ≤ y := by
  have h1 := h.next (below_new w o)
  have a7 := h1.row.kept gA h.d1
  have b7 := h1.vars.kept gA (dis_symm h.d3)
  obtain ⟨p7, s7⟩ := h.grow h.nums gA
  have a8' := own_next a7 (below_new w7 o')
  have n8' := own_next oA (below_new w7 o')
  have b8' := own_next b7 (below_new w7 o')
  have d1' := dis_symm (dis_grow (dis_symm h.d1) (own_lt h1.row) nA)
  have d3' := dis_grow h.d3 (own_lt h1.vars) nA
  have d2'' := dis_symm (dis_grow (dis_symm h.d2) (own_lt a8') nB)
  have d3'' := dis_symm (dis_grow (dis_symm d3') (own_lt n8') nB)
  have hnV : n ∉ V := fun hm => by have := (h.g.dom n).2 hm; rw [hn] at this; cases this
  refine ⟨?_, ?_, a8'.kept gB h.d2, by rw [List.map_append, List.length_append]; exact n8'.kept gB d3', by rw [List.map_append, List.length_append]; exact oB, d1', d2'', d3'', h.g.named hx hn hnx, by simp [h.vl], fun i m y hi hy => ?_, ?_, fun m y hm => ?_⟩
  · have p8 := p7.next (below_new w7 o')
    refine p8.grown gB (fun e => own_blk_ne b8' p8.blk (by decide) e) ?_
    rcases own_own_ne b8' p8.own (by decide) with e | e
    · exact .inr e
    · exact .inl e
  · have s8 : Stays (PK pb A0) W (w7.alloc o') := s7.trans (K' := fun _ => False) (Stays.of_below (below_new w7 o')) (fun _ _ h => h.elim)
    exact ⟨gB.os.trans s8.os, gB.tape.trans s8.tape, gB.output.trans s8.output, Nat.le_trans s8.size gB.size, fun j hj hn => (gB.block j (Nat.lt_of_lt_of_le hj s8.size) (fun e => by have := own_base b7 j e.symm; omega)).trans (s8.block j hj hn)⟩
  · rcases Nat.lt_or_ge i V.length with hlt | hge
    · rw [List.getElem?_append_left hlt] at hi
      rw [List.getElem?_append_left (by rw [h.vl]; exact hlt)] at hy
      rw [if_neg (fun e => hnV (by rw [← e]; exact List.mem_of_getElem? hi))]
      exact h.sv i m y hi hy
    · have hl := (List.getElem?_eq_some_iff.1 hi).1
      rw [List.length_append, List.length_singleton] at hl
      obtain rfl : i = V.length := by omega
      rw [List.getElem?_append_right (Nat.le_refl _), Nat.sub_self] at hi
      rw [List.getElem?_append_right (by rw [h.vl]; exact Nat.le_refl _), h.vl, Nat.sub_self] at hy
      obtain rfl : n = m := by simpa using hi
      obtain rfl : x = y := by simpa using hy
      rw [if_pos rfl]
  · rw [List.nodup_append]
    refine ⟨h.nd, by simp, fun a ha b hb e => ?_⟩
    rw [List.mem_singleton] at hb
    subst hb e
    exact hnV ha
  · by_cases e : m = n
    · rw [if_pos e] at hm
      injection hm with hm
      omega
    · rw [if_neg e] at hm
      exact h.lo m y hm
end
end Go.Proofs.YtcilodgpbdafeaaDoor
namespace Go.Proofs.YtcilodgpbdafeaaDoor
open Go.ChangeShapes Go.WideShapes Go.ChangeAt Go.RowKit
set_option linter.unusedVariables false
set_option linter.unusedSimpArgs false
/-- What Copy hands back. -/
def CopyEnd (base pb : Nat) (A0 : Option Addr) (L0 : List Tm) (l : List Part) (W : World) (e : Ending) (W' : World) : Prop :=
  ∃ (g : Nat) (A : Option Addr) (c : Nat) (L : List Tm) (s : Int → Option Nat) (V : List Int), e = .returned (.int .i64 (g : Int)) ∧ PoolM W' base pb A c L ∧ Below base W W' ∧ (∀ i d, nodes L0 i = some d → nodes L i = some d) ∧ L.length ≤ L0.length + l.length ∧ (∀ n, (s n).isSome = true ↔ n ∈ V) ∧ (∀ n m x, s n = some x → s m = some x → n = m) ∧ (∀ n x, s n = some x → L0.length ≤ x ∧ x < L.length) ∧ ∀ U : Ty, U.wf → At l U (l.length - 1) → vin V U ∧ Den (nodes L) g (sub (vs s) U)
theorem reads_newI2 (w : World) (u : Value) (b : Nat) (hb : w.heap.size = b) : Reads (w.alloc (.cells #[u] 3)) (b + 1) 1 (some ⟨b, 0, none⟩) 1 [u] := reads_newI w u 3 b hb
/-- What the search has found among the first numbers. -/
def found (s : Int → Option Nat) (V : List Int) (n : Int) (j : Nat) : Value := if n ∈ V.take j then .int .i64 (((s n).getD 0 : Nat) : Int) else .int .i64 (-1)
theorem intAt {w : World} {b n c : Nat} {A : Option Addr} {xs : List Value} (o : w.ownsRow b 3 1 (.slice A n c) n xs) {j : Nat} {u : Value} (hj : xs[j]? = some u) : ∃ ad, A = some ad ∧ w.cell? (ad.add j) = some u ∧ j < n := by
  have hlt := (List.getElem?_eq_some_iff.1 hj).1
  have hn := o.1
  rw [Nat.mul_one] at hn
  obtain ⟨ad, u', e, _, hu, hc⟩ := (Reads.of_own o).at_ (k := j) (by omega)
  rw [hj] at hu
  obtain rfl := Option.some.inj hu
  exact ⟨ad, e, hc, by omega⟩
theorem blk9 {w w7 : World} {b n pq : Nat} {v : Value} {xs : List Value} {cs : Array Value} (o1 : w.ownsRow b 3 1 v n xs) (q : Blk w pq 29 cs) {o : Obj} (gA : (w.alloc o).grownBy w7 v.ownBlock) : Blk w7 pq 29 cs :=
  (q.next (below_new w o)).grown gA (fun e => own_blk_ne (own_next o1 (below_new w o)) (q.next (below_new w o)) (by decide) e.symm)
theorem nd_leaf {k : Int} {t : List UInt8} (hk : kids k = 0) : Tm.nd ⟨k, 0, 0, t, -1⟩ = ⟨k, t, none, none, none⟩ := by simp [Tm.nd, hk]
theorem nd_one {k : Int} {h : Nat} (hk : kids k = 1) : Tm.nd ⟨k, (h : Int), 0, [], -1⟩ = ⟨k, [], some h, none, none⟩ := by simp [Tm.nd, hk]
theorem nd_two {k : Int} {h i : Nat} (hk : kids k = 2) : Tm.nd ⟨k, (h : Int), (i : Int), [], -1⟩ = ⟨k, [], some h, some i, none⟩ := by simp [Tm.nd, hk]
theorem node_here (N : Nat → Option Nd) (x : Nat) (d : Nd) : putN N x d x = some d := by unfold putN; rw [if_pos rfl]
set_option maxRecDepth 100000 in
set_option maxHeartbeats 32000000 in
theorem c34 {base pb : Nat} {A0 : Option Addr} {c0 : Nat} {L0 : List Tm} (l : List Part) (hgood : ∀ i, i < l.length → ∃ U : Ty, U.wf ∧ At l U i) (h0 : 0 < l.length) (hl : l.length ≤ 200) (hL0 : L0.length ≤ 200) (Al : Option Addr) (cl : Nat) (W : World) (hr : Reads W base 5 Al l.length (l.flatMap partC)) (hP : PoolM W base pb A0 c0 L0) :
    Calls Tryd.prog 34 #[ptr pb, .slice Al l.length cl] W (CopyEnd base pb A0 L0 l W) := by
  have hbase : base ≤ W.heap.size := Nat.le_of_lt (Nat.lt_of_le_of_lt hP.pbb hP.lt)
  have hA0 : ∀ b, A0.map (·.block) = some b → base ≤ b := fun b hb => own_base hP.own b (by rw [ownBlock_eq]; exact hb)
  have HR := Lib.hid hr
  have HP := Lib.hid hP
  have HG := Lib.hid hgood
  have HA0 := Lib.hid hA0
  have HBase := Lib.hid hbase
  have HST := Lib.hid (show CopyW W W base pb A0 L0 l 0 A0 c0 L0 (.slice none 0 0) (.slice none 0 0) (.slice none 0 0) (fun _ => none) [] [] [] from
    ⟨hP, Stays.refl W, fun b hb => .inl hb, ⟨rfl, .inl ⟨rfl, rfl⟩⟩, ⟨rfl, .inl ⟨rfl, rfl⟩⟩, ⟨rfl, .inl ⟨rfl, rfl⟩⟩, .inl rfl, .inl rfl, .inl rfl, OfG.start', rfl, fun i n x h => by simp at h, List.nodup_nil, fun n x h => (by cases h), fun i d h => h⟩)
  obtain ⟨i3, fi3, hz0, hz1, hz2⟩ := info_parts int_info
  have H3 := Lib.hid (show i3.zero = some (.int .i64 0) ∧ i3.size = 1 ∧ i3.bytes = 8 from ⟨hz0, hz1, hz2⟩)
  clear hr hP hgood hA0 hbase hz0 hz1 hz2
  go_enter Tryd.func34, Tryd.ntmps34
  go_wp2_with fail
  go_loopw [5, 6, 7, 8] (fun va vn vv i wr => ∃ (k : Nat) (A : Option Addr) (c : Nat) (L : List Tm) (s : Int → Option Nat) (LS : List Nat) (V : List Int) (VS : List Nat), k ≤ l.length ∧ i = .int .i64 k ∧ L.length ≤ L0.length + k ∧ V.length ≤ k ∧ CopyW W wr base pb A0 L0 l k A c L va vn vv s LS V VS) (fun _ _ _ i _ => l.length - (intOf i).toNat)
  case atStart => exact ⟨0, A0, c0, L0, fun _ => none, [], [], [], by omega, rfl, by omega, by simp, HST.out⟩
  case round =>
    obtain ⟨k, A, c, L, s, LS, V, VS, hk, rfl, hLk, hVk, hC⟩ := hrel
    obtain ⟨Ata, cta, rfl⟩ := own_form hC.row
    obtain ⟨Anu, cnu, rfl⟩ := own_form hC.nums
    obtain ⟨Ava, cva, rfl⟩ := own_form hC.vars
    have HC := Lib.hid hC
    have hsz := hC.stay.size
    have HB := Lib.hid (hC.bel HA0.out HBase.out)
    have HLe := Lib.hid (show L0.length ≤ L.length by
      cases hL : L0.length with
      | zero => omega
      | succ n =>
        have h1 : nodes L0 n = some (L0[n]'(by omega)).nd := by unfold nodes; rw [List.getElem?_eq_getElem (by omega)]; rfl
        have := nodes_lt (hC.ext n _ h1)
        omega)
    clear hC
    by_cases hlt : k < l.length
    · have hlk : (k : Int) < (l.length : Int) := by omega
      have hk0 : (0 : Int) ≤ (k : Int) := by omega
      have hpk : l[k]? = some l[k] := List.getElem?_eq_getElem hlt
      obtain ⟨ad, hAl, _, hcs⟩ := (HR.out.below HB.out).partAt hpk
      subst hAl
      obtain ⟨U, hU, hAt⟩ := HG.out k hlt
      generalize l[k] = p at hcs hpk
      have HCS := Lib.hid hcs
      have HPK := Lib.hid hpk
      have HU := Lib.hid hU
      have HAt := Lib.hid hAt
      clear hcs hpk hU hAt
      obtain ⟨pk, pa, pb', pn, pt⟩ := p
      have HC1 := Lib.hid (HC.out.next (below_new wr (.cells #[.int .i64 pk, .int .i64 pa, .int .i64 pb', .int .i64 pn, strV pt] 29)))
      have Q1 := Lib.hid (Blk.new wr 29 #[.int .i64 pk, .int .i64 pa, .int .i64 pb', .int .i64 pn, strV pt])
      go_upto_region 8 with (first | (refine wpList_load_at rfl 29 (.tmp 20) rfl (ad.add (k * 5)) rfl [.int .i64 pk, .int .i64 pa, .int .i64 pb', .int .i64 pn, strV pt] _ HCS.out Tryd.underlying29 rfl (by kernel_rfl) ?_))
      generalize hw1 : wr.alloc (.cells #[.int .i64 pk, .int .i64 pa, .int .i64 pb', .int .i64 pn, strV pt] 29) = w1 at HC1 Q1 ⊢
      clear hw1
      generalize wr.heap.size = pq at Q1 ⊢
      have q0 := Q1.out.cell 0
      have q1 := Q1.out.cell 1
      have q2 := Q1.out.cell 2
      have q3 := Q1.out.cell 3
      have q4 := Q1.out.cell 4
      have hsz1 := HC1.out.stay.size
      have hleaf := At.leaf_ HU.out HAt.out HPK.out
      simp only at hleaf
      cases U with
      | var n =>
        obtain ⟨rfl, rfl, rfl, rfl, rfl⟩ : pk = 11 ∧ pa = 0 ∧ pb' = 0 ∧ pn = n ∧ pt = [] := by
          have h : l[k]? = some ⟨11, 0, 0, n, []⟩ := HAt.out
          have h2 := Option.some.inj (HPK.out.symm.trans h)
          simpa using h2
        clear hleaf
        go_wp2_with fail
        go_loopw [10, 11] (fun v kk wi => ∃ j m : Nat, j ≤ V.length ∧ kk = .int .i64 j ∧ v = found s V pn j ∧ wi = w1.drewN m) (fun _ kk _ => V.length - (intOf kk).toNat)
        case atStart => exact ⟨0, 0, by omega, rfl, by simp [found], rfl⟩
        case round =>
          obtain ⟨j, m, hj, rfl, rfl, rfl⟩ := hrel
          by_cases hjl : j < V.length
          · have hji : (j : Int) < (V.length : Int) := by omega
            have hj0 : (0 : Int) ≤ (j : Int) := by omega
            have hvj : V[j]? = some V[j] := List.getElem?_eq_getElem hjl
            have hjs : j < VS.length := by rw [HC1.out.vl]; exact hjl
            have hsj : VS[j]? = some VS[j] := List.getElem?_eq_getElem hjs
            have HTK := Lib.hid (show V.take (j + 1) = V.take j ++ [V[j]] by rw [List.take_add_one, hvj]; rfl)
            have HSV := Lib.hid (HC1.out.sv j _ _ hvj hsj)
            obtain ⟨adn, hAn, n0, _⟩ := intAt HC1.out.nums (j := j) (u := .int .i64 V[j]) (by rw [List.getElem?_map, hvj]; rfl)
            subst hAn
            obtain ⟨adv, hAv, v0, _⟩ := intAt HC1.out.vars (j := j) (u := natV VS[j]) (by rw [List.getElem?_map, hsj]; rfl)
            subst hAv
            generalize V[j] = nj at n0 HTK HSV
            generalize VS[j] = sj at v0 HSV
            replace v0 : w1.cell? (adv.add j) = some (.int .i64 (sj : Int)) := v0
            clear hvj hsj hjs
            by_cases hnj : nj = pn
            · subst hnj
              go_wp2_with fail
              go_quiet (fail)
              go_wp2_with fail
              go_roundw
              case rel =>
                refine ⟨j + 1, m + nq, by omega, by go_num, ?_, by rw [← World.drewN_drewN]⟩
                unfold found
                rw [HTK.out, if_pos (by simp), HSV.out]
                rfl
              case measure => simp [intOf]; omega
            · have fn : (nj == pn) = false := beq_false_of_ne hnj
              have HNJ := Lib.hid hnj
              clear hnj
              generalize hfd : found s V pn j = fd
              have HFD := Lib.hid hfd
              clear hfd
              go_wp2_with fail
              go_quiet (fail)
              go_wp2_with fail
              go_roundw
              case rel =>
                refine ⟨j + 1, m + nq, by omega, by go_num, ?_, by rw [← World.drewN_drewN]⟩
                rw [← HFD.out]
                unfold found
                rw [HTK.out]
                simp [Ne.symm HNJ.out]
              case measure => simp [intOf]; omega
          · obtain rfl : j = V.length := by omega
            have hji : ¬ ((V.length : Int) < (V.length : Int)) := by omega
            clear hj hjl
            have hfd : found s V pn V.length = if pn ∈ V then .int .i64 (((s pn).getD 0 : Nat) : Int) else .int .i64 (-1) := by unfold found; rw [List.take_length]
            rw [hfd]
            clear hfd
            have HC2 := Lib.hid (HC1.out.next (below_drewN (Below.refl _ _) m))
            have Q2 := Lib.hid (Q1.out.drewN m)
            generalize w1.drewN m = w2 at HC2 Q2 ⊢
            have q3 := Q2.out.cell 3
            have hsz2 := HC2.out.stay.size
            by_cases hnV : pn ∈ V
            · rw [if_pos hnV]
              obtain ⟨x, hx⟩ := Option.isSome_iff_exists.1 ((HC2.out.g.dom pn).2 hnV)
              rw [hx]
              simp only [Option.getD_some]
              have hx0 : ¬ ((x : Int) < 0) := by omega
              have HX := Lib.hid hx
              have HNV := Lib.hid hnV
              clear hx hnV q0 q1 q2 q4
              go_upto_region 18 with fail
              go_wp2_with (at_builtin; refine wpList_append_any _ rfl (.tmp 73) (.tmp 75) 39 rfl W.heap.size 3 i3 _ 1 8 Tryd.underlying39 fi3 H3.out.1 H3.out.2.1 H3.out.2.2 rfl (by omega) (.slice Ata k cta) k (LS.map natV) rfl (own_next HC2.out.row (below_new _ _)) (w2.heap.size + 1) (some ⟨w2.heap.size, 0, none⟩) 1 1 [natV x] rfl (reads_newI2 w2 (natV x) w2.heap.size rfl) (by simp [Value.oneCell', natV]) (by unfold maxLen; omega) (by omega) (by rw [World.size_alloc]; omega) ?_; intro v1 w7 oA gA nA)
              have HOA := Lib.hid oA
              have HGA := Lib.hid gA
              have HNA := Lib.hid nA
              clear oA gA nA
              go_roundw
              case rel =>
                refine ⟨k + 1, A, c, L, s, LS ++ [x], V, VS, by omega, by go_num, by first | omega | (simp; omega), by first | omega | (simp; omega), ?_⟩
                refine HC2.out.push (fun U wU hU => ?_) HOA.out HGA.out HNA.out
                obtain rfl := at_fun l U (.var pn) k wU HU.out hU HAt.out
                refine ⟨HNV.out, ?_⟩
                show Den _ x (vs s pn)
                unfold vs
                rw [HX.out]
                exact HC2.out.g.var pn x HX.out
              case measure => simp [intOf]; omega
            · rw [if_neg hnV]
              have HNV := Lib.hid (show s pn = none by
                cases hs : s pn with
                | none => rfl
                | some x => exact absurd ((HC2.out.g.dom pn).1 (by rw [hs]; rfl)) hnV)
              clear hnV q0 q1 q2 q4
              go_wp2_with fail
              refine (c46 (by omega) HC2.out.pool).mono ?_
              rintro e w3 ⟨A3, c3, rfl, p3, s3, a3⟩
              have HC3 := Lib.hid (HC2.out.node p3 s3 a3)
              have Q3 := Lib.hid (Q2.out.stays s3 (by
                rintro (e | e)
                · exact Blk.ne_ Q2.out HC2.out.pool.blk (by decide) e
                · exact own_blk_ne HC2.out.pool.own Q2.out (by decide) (by rw [ownBlock_eq]; exact e)))
              have hsz3 := HC3.out.stay.size
              have HLL := Lib.hid (show L0.length ≤ L.length from HLe.out)
              have q3' := Q3.out.cell 3
              have HVN := Lib.hid (show Den (nodes (L ++ [⟨11, 0, 0, [], -1⟩])) L.length (.var L.length) from by
                rw [nodes_push]
                exact .var (nd := Tm.nd ⟨11, 0, 0, [], -1⟩) (by unfold putN; rw [if_pos rfl]) rfl rfl rfl rfl rfl)
              clear p3 s3 a3 q3
              go_upto_region 17 with fail
              go_upto_region 18 with (first | (at_builtin; refine wpList_append_any _ rfl (.tmp 69) (.tmp 71) 39 rfl W.heap.size 3 i3 _ 1 8 Tryd.underlying39 fi3 H3.out.1 H3.out.2.1 H3.out.2.2 rfl (by omega) (.slice Ava V.length cva) V.length (VS.map natV) rfl (own_next (HC3.out.vars7 gA) (below_new _ _)) (w7.heap.size + 1) (some ⟨w7.heap.size, 0, none⟩) 1 1 [natV L.length] rfl (reads_newI2 w7 (natV L.length) w7.heap.size rfl) (by simp [Value.oneCell', natV]) (by unfold maxLen; omega) (by omega) (by rw [World.size_alloc]; have := gA.size; rw [World.size_alloc] at this; omega) ?_; intro v2 w8 oB gB nB) | (at_builtin; refine wpList_append_any _ rfl (.tmp 64) (.tmp 67) 39 rfl W.heap.size 3 i3 _ 1 8 Tryd.underlying39 fi3 H3.out.1 H3.out.2.1 H3.out.2.2 rfl (by omega) (.slice Anu V.length cnu) V.length (V.map fun y => .int .i64 y) rfl (own_next HC3.out.nums (below_new _ _)) (w3.heap.size + 1) (some ⟨w3.heap.size, 0, none⟩) 1 1 [.int .i64 pn] rfl (reads_newI2 w3 (.int .i64 pn) w3.heap.size rfl) (by simp [Value.oneCell', natV]) (by unfold maxLen; omega) (by omega) (by rw [World.size_alloc]; omega) ?_; intro v1 w7 oA gA nA))
              have HOA := Lib.hid oA
              have HGA := Lib.hid gA
              have HNA := Lib.hid nA
              have HOB := Lib.hid oB
              have HGB := Lib.hid gB
              have HNB := Lib.hid nB
              clear oA gA nA oB gB nB
              have hC8 : CopyW W w8 base pb A0 L0 l k A3 c3 (L ++ [⟨11, 0, 0, [], -1⟩]) (.slice Ata k cta) v1 v2 (fun m => if m = pn then some L.length else s m) LS (V ++ [pn]) (VS ++ [L.length]) := by
                obtain ⟨x1, x2, x3, x4, x5, x6, x7, x8, x9, x10, x11, x12, x13⟩ := HC3.out.named HVN.out HNV.out (fun m hm => by
                  have := (HC2.out.g.var m _ hm).inL
                  omega) HLL.out HOA.out HGA.out HNA.out HOB.out HGB.out HNB.out
                exact ⟨x1, x2, HC3.out.anew, x3, x4, x5, x6, x7, x8, x9, x10, x11, x12, x13, HC3.out.ext⟩
              have HC8 := Lib.hid hC8
              have hsz8 := hC8.stay.size
              clear hC8
              go_wp2_with (at_builtin; refine wpList_append_any _ rfl (.tmp 73) (.tmp 75) 39 rfl W.heap.size 3 i3 _ 1 8 Tryd.underlying39 fi3 H3.out.1 H3.out.2.1 H3.out.2.2 rfl (by omega) (.slice Ata k cta) k (LS.map natV) rfl (own_next HC8.out.row (below_new _ _)) (w8.heap.size + 1) (some ⟨w8.heap.size, 0, none⟩) 1 1 [natV L.length] rfl (reads_newI2 w8 (natV L.length) w8.heap.size rfl) (by simp [Value.oneCell', natV]) (by unfold maxLen; omega) (by omega) (by rw [World.size_alloc]; omega) ?_; intro v9 w9 oC gC nC)
              have HOC := Lib.hid oC
              have HGC := Lib.hid gC
              have HNC := Lib.hid nC
              clear oC gC nC
              go_roundw
              case rel =>
                refine ⟨k + 1, A3, c3, L ++ [⟨11, 0, 0, [], -1⟩], fun m => if m = pn then some L.length else s m, LS ++ [L.length], V ++ [pn], VS ++ [L.length], by omega, by go_num, by first | omega | (simp; omega), by first | omega | (simp; omega), ?_⟩
                refine HC8.out.push (fun U wU hU => ?_) HOC.out HGC.out HNC.out
                obtain rfl := at_fun l U (.var pn) k wU HU.out hU HAt.out
                refine ⟨List.mem_append_right _ (List.mem_singleton.2 rfl), ?_⟩
                show Den _ L.length (.var (((if pn = pn then some L.length else s pn).getD 0 : Nat) : Int))
                rw [if_pos rfl]
                exact HVN.out
              case measure => simp [intOf]; omega
      | leaf k' t' =>
        have hkk := kids_kind HU.out
        obtain ⟨rfl, rfl, rfl, rfl, rfl⟩ : pk = k' ∧ pa = 0 ∧ pb' = 0 ∧ pn = 0 ∧ pt = t' := by
          have h : l[k]? = some ⟨k', 0, 0, 0, t'⟩ := HAt.out
          have h2 := Option.some.inj (HPK.out.symm.trans h)
          simpa using h2
        have h11 : (pk == 11) = false := beq_false_of_ne (by have := HU.out; simp only [Ty.wf] at this; omega)
        have HKK := Lib.hid (show kids pk = 0 from hkk)
        clear hleaf hkk
        clear q1 q2
        go_wp2_with fail
        refine (c27 pk _).mono ?_
        rintro e w1' ⟨rfl, rfl⟩
        rw [HKK.out]
        go_wp2_with fail
        refine (c47 pk 0 0 pt (by omega) (by omega) (by omega) HC1.out.pool).mono ?_
        rintro e w3 ⟨A3, c3, rfl, p3, s3, a3⟩
        have HC3 := Lib.hid (HC1.out.node p3 s3 a3)
        have hsz3 := HC3.out.stay.size
        clear p3 s3 a3 q0 q3 q4
        go_wp2_with (at_builtin; refine wpList_append_any _ rfl (.tmp 82) (.tmp 89) 39 rfl W.heap.size 3 i3 _ 1 8 Tryd.underlying39 fi3 H3.out.1 H3.out.2.1 H3.out.2.2 rfl (by omega) (.slice Ata k cta) k (LS.map natV) rfl (own_next HC3.out.row (below_new _ _)) (w3.heap.size + 1) (some ⟨w3.heap.size, 0, none⟩) 1 1 [natV L.length] rfl (reads_newI2 w3 (natV L.length) w3.heap.size rfl) (by simp [Value.oneCell', natV]) (by unfold maxLen; omega) (by omega) (by rw [World.size_alloc]; omega) ?_; intro v9 w9 oC gC nC)
        have HOC := Lib.hid oC
        have HGC := Lib.hid gC
        have HNC := Lib.hid nC
        clear oC gC nC
        go_roundw
        case rel =>
          refine ⟨k + 1, A3, c3, L ++ [⟨pk, 0, 0, pt, -1⟩], s, LS ++ [L.length], V, VS, by omega, by go_num, by first | omega | (simp; omega), by first | omega | (simp; omega), ?_⟩
          refine HC3.out.push (fun U wU hU => ?_) HOC.out HGC.out HNC.out
          obtain rfl := at_fun l U (.leaf pk pt) k wU HU.out hU HAt.out
          refine ⟨trivial, ?_⟩
          rw [nodes_push, nd_leaf HKK.out]
          exact .leaf (nd := ⟨pk, pt, none, none, none⟩) (node_here _ _ _) rfl rfl rfl (by simpa using h11)
        case measure => simp [intOf]; omega
      | one k' s' =>
        have hkk := kids_kind HU.out
        obtain ⟨j, ej, hj, hAs⟩ := HAt.out
        obtain ⟨rfl, rfl, rfl, rfl, rfl⟩ : pk = k' ∧ pa = (j : Int) ∧ pb' = 0 ∧ pn = 0 ∧ pt = [] := by
          have h2 := Option.some.inj (HPK.out.symm.trans hj)
          simpa using h2
        have h11 : (pk == 11) = false := beq_false_of_ne (by have := HU.out.1; omega)
        have HKK := Lib.hid (show kids pk = 1 from hkk)
        have HAs := Lib.hid hAs
        clear hleaf hkk hj hAs
        have hjk : j < k := by omega
        obtain ⟨h, hh⟩ : ∃ h, LS[j]? = some h := ⟨_, List.getElem?_eq_getElem (by rw [HC1.out.g.len]; exact hjk)⟩
        have HD := Lib.hid (HC1.out.g.den j h s' hh HU.out.2 HAs.out)
        obtain ⟨ada, hAt2, a0, _⟩ := intAt HC1.out.row (j := j) (u := natV h) (by rw [List.getElem?_map, hh]; rfl)
        subst hAt2
        replace a0 : w1.cell? (ada.add j) = some (.int .i64 (h : Int)) := a0
        have hj1 : (j : Int) < (k : Int) := by omega
        have hj0 : (0 : Int) ≤ (j : Int) := by omega
        have HEJ := Lib.hid ej
        clear hh ej q2 q3 q4
        go_wp2_with fail
        refine (c27 pk _).mono ?_
        rintro e w1' ⟨rfl, rfl⟩
        rw [HKK.out]
        go_wp2_with fail
        refine (c27 pk _).mono ?_
        rintro e w1' ⟨rfl, rfl⟩
        rw [HKK.out]
        go_wp2_with fail
        refine wp_region_held_drew (S := (fun X : World => X.cell? ⟨pq, 0, none⟩ = some (.int .i64 pk) ∧ X.cell? ⟨pq, 1, none⟩ = some (.int .i64 (j : Int)))) (by kernel_rfl) ⟨q0, q1⟩ (fun hHeld => ?_)
        refine wpAnyH_take (i := 0) (oi := ⟨some 96, _, _, _, _, _⟩) (v := ?_) rfl (by kernel_rfl) (by kernel_rfl) (by kernel_rfl) (fun _ _ _ h => h) (Or.inl ⟨by kernel_rfl, ?_⟩) (by assumption) ?_
        rotate_left
        · intro w hSw
          go_simp
          try with_reducible rfl
        try simp only [Act.put, List.setIfInBounds_toArray, List.set_cons_zero, List.set_cons_succ]
        refine wpAnyH_take (i := 1) (oi := ⟨some 97, _, _, _, _, _⟩) (v := ?_) rfl (by kernel_rfl) (by kernel_rfl) (by kernel_rfl) (fun _ _ _ h => h) (Or.inl ⟨by kernel_rfl, ?_⟩) (by assumption) ?_
        rotate_left
        · intro w hSw
          go_simp
          try with_reducible rfl
        try simp only [Act.put, List.setIfInBounds_toArray, List.set_cons_zero, List.set_cons_succ]
        refine wpAnyH_take (i := 2) (oi := ⟨some 98, _, _, _, _, _⟩) (v := ?_) rfl (by kernel_rfl) (by kernel_rfl) (by kernel_rfl) (fun _ _ _ h => h) (Or.inl ⟨by kernel_rfl, ?_⟩) (by assumption) ?_
        rotate_left
        · intro w hSw
          go_simp
          try with_reducible rfl
        try simp only [Act.put, List.setIfInBounds_toArray, List.set_cons_zero, List.set_cons_succ]
        refine wpAnyH_take (i := 3) (oi := ⟨some 99, _, _, _, _, _⟩) (v := ?_) rfl (by kernel_rfl) (by kernel_rfl) (by kernel_rfl) (fun _ _ _ h => h) (Or.inl ⟨by kernel_rfl, ?_⟩) (by assumption) ?_
        rotate_left
        · intro w hSw
          go_simp
          try with_reducible rfl
        try simp only [Act.put, List.setIfInBounds_toArray, List.set_cons_zero, List.set_cons_succ]
        refine wpAnyH_take (i := 4) (oi := ⟨some 100, _, _, _, _, _⟩) (v := ?_) rfl (by kernel_rfl) (by kernel_rfl) (by kernel_rfl) (fun _ _ _ h => h) (Or.inl ⟨by kernel_rfl, ?_⟩) (by assumption) ?_
        rotate_left
        · intro w hSw
          go_simp
          try with_reducible rfl
        try simp only [Act.put, List.setIfInBounds_toArray, List.set_cons_zero, List.set_cons_succ]
        refine wpAnyH_take (i := 5) (oi := ⟨some 101, _, _, _, _, _⟩) (v := ?_) rfl (by kernel_rfl) (by kernel_rfl) (by kernel_rfl) (fun _ _ _ h => h) (Or.inl ⟨by kernel_rfl, ?_⟩) (by assumption) ?_
        rotate_left
        · intro w hSw
          go_simp
          try with_reducible rfl
        try simp only [Act.put, List.setIfInBounds_toArray, List.set_cons_zero, List.set_cons_succ]
        refine wpAnyH_take (i := 6) (oi := ⟨some 102, _, _, _, _, _⟩) (v := ?_) rfl (by kernel_rfl) (by kernel_rfl) (by kernel_rfl) (fun _ _ _ h => h) (Or.inl ⟨by kernel_rfl, ?_⟩) (by assumption) ?_
        rotate_left
        · intro w hSw
          go_simp
          try with_reducible rfl
        try simp only [Act.put, List.setIfInBounds_toArray, List.set_cons_zero, List.set_cons_succ]
        refine wpAnyH_take (i := 7) (oi := ⟨some 103, _, _, _, _, _⟩) (v := ?_) rfl (by kernel_rfl) (by kernel_rfl) (by kernel_rfl) (fun _ _ _ h => h) (Or.inl ⟨by kernel_rfl, ?_⟩) (by assumption) ?_
        rotate_left
        · intro w hSw
          go_simp
          try with_reducible rfl
        try simp only [Act.put, List.setIfInBounds_toArray, List.set_cons_zero, List.set_cons_succ]
        refine wpAnyH_ready (rs := [8]) (by kernel_rfl) (by simp) ?_
        refine AllReadyH.cons (o := ⟨some 104, _, _, _, _, _⟩) rfl (fun K hK => ?_) AllReadyH.nil
        go_simp
        refine hK.out _ _ ?_ (fun hHeld => ?_)
        · exact hHeld
        clear hK K
        try simp only [Act.put, List.setIfInBounds_toArray, List.set_cons_zero, List.set_cons_succ]
        refine wpAnyH_ready (rs := [9]) (by kernel_rfl) (by simp) ?_
        refine AllReadyH.cons (o := ⟨some 105, _, _, _, _, _⟩) rfl (fun K hK => ?_) AllReadyH.nil
        go_simp
        refine (c47 pk (h : Int) 0 [] (by omega) (by omega) (by omega) (HC1.out.pool.drewN 1)).mono ?_
        rintro e w3 ⟨A3, c3, rfl, p3, s3, a3⟩
        have HC3 := Lib.hid ((HC1.out.next (below_drewN (Below.refl _ _) 1)).node p3 s3 a3)
        have Q3 := Lib.hid ((Q1.out.drewN 1).stays s3 (by
          rintro (e | e)
          · exact Blk.ne_ Q1.out HC1.out.pool.blk (by decide) e
          · exact own_blk_ne HC1.out.pool.own Q1.out (by decide) (by rw [ownBlock_eq]; exact e)))
        have hsz3 := HC3.out.stay.size
        clear p3 s3 a3
        go_wp2_with fail
        refine hK.out _ _ ?_ (fun hHeld => ?_)
        · exact ⟨Q3.out.cell 0, Q3.out.cell 1⟩
        clear hK K
        try simp only [Act.put, List.setIfInBounds_toArray, List.set_cons_zero, List.set_cons_succ]
        refine wpAnyH_ready (rs := [10]) (by kernel_rfl) (by simp) ?_
        refine AllReadyH.cons (o := ⟨some 106, _, _, _, _, _⟩) rfl (fun K hK => ?_) AllReadyH.nil
        go_simp
        refine hK.out _ _ ?_ (fun hHeld => ?_)
        · exact ⟨(Q3.out.next (below_new _ _)).cell 0, (Q3.out.next (below_new _ _)).cell 1⟩
        clear hK K
        try simp only [Act.put, List.setIfInBounds_toArray, List.set_cons_zero, List.set_cons_succ]
        refine wpAnyH_ready (rs := [11]) (by kernel_rfl) (by simp) ?_
        refine AllReadyH.cons (o := ⟨some 107, _, _, _, _, _⟩) rfl (fun K hK => ?_) AllReadyH.nil
        refine step_append_any _ (by rfl) (.tmp 96) (.tmp 106) 39 (by rfl) W.heap.size 3 i3 _ 1 8 Tryd.underlying39 fi3 H3.out.1 H3.out.2.1 H3.out.2.2 rfl (by omega) (.slice (some ada) k cta) k (LS.map natV) (by rfl) (own_next HC3.out.row (below_new _ _)) (w3.heap.size + 1) (some ⟨w3.heap.size, 0, none⟩) 1 1 [natV L.length] (by rfl) (reads_newI2 w3 (natV L.length) w3.heap.size rfl) (by simp [Value.oneCell', natV]) (by unfold maxLen; omega) (by omega) (by rw [World.size_alloc]; omega) ?_
        intro v9 w9 oC gC nC
        have Q9 := blk9 HC3.out.row Q3.out gC
        refine hK.out _ _ ?_ (fun hHeld => ?_)
        · exact ⟨Q9.cell 0, Q9.cell 1⟩
        clear hK K
        try simp only [Act.put, List.setIfInBounds_toArray, List.set_cons_zero, List.set_cons_succ]
        refine wpAnyH_take (i := 12) (oi := ⟨some 5, _, _, _, _, _⟩) (v := ?_) rfl (by kernel_rfl) (by kernel_rfl) (by kernel_rfl) (fun _ _ _ h => h) (Or.inl ⟨by kernel_rfl, ?_⟩) (by assumption) ?_
        rotate_left
        · intro w hSw
          go_simp
          try with_reducible rfl
        try simp only [Act.put, List.setIfInBounds_toArray, List.set_cons_zero, List.set_cons_succ]
        refine wpAnyH_done (by kernel_rfl) ?_ _
        clear hHeld
        have HOC := Lib.hid oC
        have HGC := Lib.hid gC
        have HNC := Lib.hid nC
        clear oC gC nC Q9
        go_wp2_with fail
        go_roundw
        case rel =>
          refine ⟨k + 1, A3, c3, L ++ [⟨pk, (h : Int), 0, [], -1⟩], s, LS ++ [L.length], V, VS, by omega, by go_num, by first | omega | (simp; omega), by first | omega | (simp; omega), ?_⟩
          refine HC3.out.push (fun U wU hU => ?_) HOC.out HGC.out HNC.out
          obtain rfl := at_fun l U (.one pk s') k wU HU.out hU HAt.out
          refine ⟨HD.out.1, ?_⟩
          rw [nodes_push, nd_one HKK.out]
          exact .one (nd := ⟨pk, [], some h, none, none⟩) (node_here _ _ _) rfl rfl rfl rfl (by simpa using h11) (HD.out.2.put (nodes_end L))
        case measure => simp [intOf]; omega
      | two k' s' u' =>
        have hkk := kids_kind HU.out
        obtain ⟨j, j2, ej, hj, hAs, hAu, hj2⟩ := HAt.out
        obtain ⟨rfl, rfl, rfl, rfl, rfl⟩ : pk = k' ∧ pa = (j2 : Int) ∧ pb' = (j : Int) ∧ pn = 0 ∧ pt = [] := by
          have h2 := Option.some.inj (HPK.out.symm.trans hj)
          simpa using h2
        have h11 : (pk == 11) = false := beq_false_of_ne (by have := HU.out.1; omega)
        have HKK := Lib.hid (show kids pk = 2 from hkk)
        have HAs := Lib.hid hAs
        have HAu := Lib.hid hAu
        have hu0 := u'.size_pos
        clear hleaf hkk hj hAs hAu
        have hjk : j < k := by omega
        have hjk2 : j2 < k := by omega
        obtain ⟨h, hh⟩ : ∃ h, LS[j2]? = some h := ⟨_, List.getElem?_eq_getElem (by rw [HC1.out.g.len]; exact hjk2)⟩
        obtain ⟨g2, hg⟩ : ∃ g2, LS[j]? = some g2 := ⟨_, List.getElem?_eq_getElem (by rw [HC1.out.g.len]; exact hjk)⟩
        have HD := Lib.hid (HC1.out.g.den j2 h s' hh HU.out.2.1 HAs.out)
        have HE := Lib.hid (HC1.out.g.den j g2 u' hg HU.out.2.2 HAu.out)
        obtain ⟨ada, hAt2, a0, _⟩ := intAt HC1.out.row (j := j2) (u := natV h) (by rw [List.getElem?_map, hh]; rfl)
        subst hAt2
        obtain ⟨adb, hAt3, b0, _⟩ := intAt HC1.out.row (j := j) (u := natV g2) (by rw [List.getElem?_map, hg]; rfl)
        obtain rfl := Option.some.inj hAt3
        replace a0 : w1.cell? (ada.add j2) = some (.int .i64 (h : Int)) := a0
        replace b0 : w1.cell? (ada.add j) = some (.int .i64 (g2 : Int)) := b0
        have hj1 : (j : Int) < (k : Int) := by omega
        have hj0 : (0 : Int) ≤ (j : Int) := by omega
        have hj21 : (j2 : Int) < (k : Int) := by omega
        have hj20 : (0 : Int) ≤ (j2 : Int) := by omega
        have HEJ := Lib.hid (And.intro ej hj2)
        clear hh hg ej hj2 hAt3 q3 q4
        go_wp2_with fail
        refine (c27 pk _).mono ?_
        rintro e w1' ⟨rfl, rfl⟩
        rw [HKK.out]
        go_wp2_with fail
        refine (c27 pk _).mono ?_
        rintro e w1' ⟨rfl, rfl⟩
        rw [HKK.out]
        go_wp2_with fail
        refine wp_region_held_drew (S := (fun X : World => X.cell? ⟨pq, 0, none⟩ = some (.int .i64 pk) ∧ X.cell? ⟨pq, 1, none⟩ = some (.int .i64 (j2 : Int)) ∧ X.cell? ⟨pq, 2, none⟩ = some (.int .i64 (j : Int)))) (by kernel_rfl) ⟨q0, q1, q2⟩ (fun hHeld => ?_)
        refine wpAnyH_take (i := 0) (oi := ⟨some 22, _, _, _, _, _⟩) (v := ?_) rfl (by kernel_rfl) (by kernel_rfl) (by kernel_rfl) (fun _ _ _ h => h) (Or.inl ⟨by kernel_rfl, ?_⟩) (by assumption) ?_
        rotate_left
        · intro w hSw
          go_simp
          try with_reducible rfl
        try simp only [Act.put, List.setIfInBounds_toArray, List.set_cons_zero, List.set_cons_succ]
        refine wpAnyH_take (i := 1) (oi := ⟨some 23, _, _, _, _, _⟩) (v := ?_) rfl (by kernel_rfl) (by kernel_rfl) (by kernel_rfl) (fun _ _ _ h => h) (Or.inl ⟨by kernel_rfl, ?_⟩) (by assumption) ?_
        rotate_left
        · intro w hSw
          go_simp
          try with_reducible rfl
        try simp only [Act.put, List.setIfInBounds_toArray, List.set_cons_zero, List.set_cons_succ]
        refine wpAnyH_take (i := 2) (oi := ⟨some 24, _, _, _, _, _⟩) (v := ?_) rfl (by kernel_rfl) (by kernel_rfl) (by kernel_rfl) (fun _ _ _ h => h) (Or.inl ⟨by kernel_rfl, ?_⟩) (by assumption) ?_
        rotate_left
        · intro w hSw
          go_simp
          try with_reducible rfl
        try simp only [Act.put, List.setIfInBounds_toArray, List.set_cons_zero, List.set_cons_succ]
        refine wpAnyH_take (i := 3) (oi := ⟨some 25, _, _, _, _, _⟩) (v := ?_) rfl (by kernel_rfl) (by kernel_rfl) (by kernel_rfl) (fun _ _ _ h => h) (Or.inl ⟨by kernel_rfl, ?_⟩) (by assumption) ?_
        rotate_left
        · intro w hSw
          go_simp
          try with_reducible rfl
        try simp only [Act.put, List.setIfInBounds_toArray, List.set_cons_zero, List.set_cons_succ]
        refine wpAnyH_take (i := 4) (oi := ⟨some 26, _, _, _, _, _⟩) (v := ?_) rfl (by kernel_rfl) (by kernel_rfl) (by kernel_rfl) (fun _ _ _ h => h) (Or.inl ⟨by kernel_rfl, ?_⟩) (by assumption) ?_
        rotate_left
        · intro w hSw
          go_simp
          try with_reducible rfl
        try simp only [Act.put, List.setIfInBounds_toArray, List.set_cons_zero, List.set_cons_succ]
        refine wpAnyH_take (i := 5) (oi := ⟨some 27, _, _, _, _, _⟩) (v := ?_) rfl (by kernel_rfl) (by kernel_rfl) (by kernel_rfl) (fun _ _ _ h => h) (Or.inl ⟨by kernel_rfl, ?_⟩) (by assumption) ?_
        rotate_left
        · intro w hSw
          go_simp
          try with_reducible rfl
        try simp only [Act.put, List.setIfInBounds_toArray, List.set_cons_zero, List.set_cons_succ]
        refine wpAnyH_take (i := 6) (oi := ⟨some 28, _, _, _, _, _⟩) (v := ?_) rfl (by kernel_rfl) (by kernel_rfl) (by kernel_rfl) (fun _ _ _ h => h) (Or.inl ⟨by kernel_rfl, ?_⟩) (by assumption) ?_
        rotate_left
        · intro w hSw
          go_simp
          try with_reducible rfl
        try simp only [Act.put, List.setIfInBounds_toArray, List.set_cons_zero, List.set_cons_succ]
        refine wpAnyH_take (i := 7) (oi := ⟨some 29, _, _, _, _, _⟩) (v := ?_) rfl (by kernel_rfl) (by kernel_rfl) (by kernel_rfl) (fun _ _ _ h => h) (Or.inl ⟨by kernel_rfl, ?_⟩) (by assumption) ?_
        rotate_left
        · intro w hSw
          go_simp
          try with_reducible rfl
        try simp only [Act.put, List.setIfInBounds_toArray, List.set_cons_zero, List.set_cons_succ]
        refine wpAnyH_take (i := 9) (oi := ⟨some 31, _, _, _, _, _⟩) (v := ?_) rfl (by kernel_rfl) (by kernel_rfl) (by kernel_rfl) (fun _ _ _ h => h) (Or.inl ⟨by kernel_rfl, ?_⟩) (by assumption) ?_
        rotate_left
        · intro w hSw
          go_simp
          try with_reducible rfl
        try simp only [Act.put, List.setIfInBounds_toArray, List.set_cons_zero, List.set_cons_succ]
        refine wpAnyH_take (i := 10) (oi := ⟨some 32, _, _, _, _, _⟩) (v := ?_) rfl (by kernel_rfl) (by kernel_rfl) (by kernel_rfl) (fun _ _ _ h => h) (Or.inl ⟨by kernel_rfl, ?_⟩) (by assumption) ?_
        rotate_left
        · intro w hSw
          go_simp
          try with_reducible rfl
        try simp only [Act.put, List.setIfInBounds_toArray, List.set_cons_zero, List.set_cons_succ]
        refine wpAnyH_take (i := 11) (oi := ⟨some 33, _, _, _, _, _⟩) (v := ?_) rfl (by kernel_rfl) (by kernel_rfl) (by kernel_rfl) (fun _ _ _ h => h) (Or.inl ⟨by kernel_rfl, ?_⟩) (by assumption) ?_
        rotate_left
        · intro w hSw
          go_simp
          try with_reducible rfl
        try simp only [Act.put, List.setIfInBounds_toArray, List.set_cons_zero, List.set_cons_succ]
        refine wpAnyH_take (i := 12) (oi := ⟨some 34, _, _, _, _, _⟩) (v := ?_) rfl (by kernel_rfl) (by kernel_rfl) (by kernel_rfl) (fun _ _ _ h => h) (Or.inl ⟨by kernel_rfl, ?_⟩) (by assumption) ?_
        rotate_left
        · intro w hSw
          go_simp
          try with_reducible rfl
        try simp only [Act.put, List.setIfInBounds_toArray, List.set_cons_zero, List.set_cons_succ]
        refine wpAnyH_ready (rs := [8, 13]) (by kernel_rfl) (by simp) ?_
        refine AllReadyH.cons (o := ⟨some 30, _, _, _, _, _⟩) rfl (fun K hK => ?_) (AllReadyH.cons (o := ⟨some 35, _, _, _, _, _⟩) rfl (fun K hK => ?_) AllReadyH.nil)
        · go_simp
          refine hK.out _ _ ?_ (fun hHeld => ?_)
          · exact hHeld
          clear hK K
          try simp only [Act.put, List.setIfInBounds_toArray, List.set_cons_zero, List.set_cons_succ]
          refine wpAnyH_ready (rs := [13]) (by kernel_rfl) (by simp) ?_
          refine AllReadyH.cons (o := ⟨some 35, _, _, _, _, _⟩) rfl (fun K hK => ?_) AllReadyH.nil
          go_simp
          refine hK.out _ _ ?_ (fun hHeld => ?_)
          · exact hHeld
          clear hK K
          try simp only [Act.put, List.setIfInBounds_toArray, List.set_cons_zero, List.set_cons_succ]
          refine wpAnyH_ready (rs := [14]) (by kernel_rfl) (by simp) ?_
          refine AllReadyH.cons (o := ⟨some 36, _, _, _, _, _⟩) rfl (fun K hK => ?_) AllReadyH.nil
          go_simp
          refine (c47 pk (h : Int) (g2 : Int) [] (by omega) (by omega) (by omega) (HC1.out.pool.drewN 1)).mono ?_
          rintro e w3 ⟨A3, c3, rfl, p3, s3, a3⟩
          have HC3 := Lib.hid ((HC1.out.next (below_drewN (Below.refl _ _) 1)).node p3 s3 a3)
          have Q3 := Lib.hid ((Q1.out.drewN 1).stays s3 (by
            rintro (e | e)
            · exact Blk.ne_ Q1.out HC1.out.pool.blk (by decide) e
            · exact own_blk_ne HC1.out.pool.own Q1.out (by decide) (by rw [ownBlock_eq]; exact e)))
          have hsz3 := HC3.out.stay.size
          clear p3 s3 a3
          go_wp2_with fail
          refine hK.out _ _ ?_ (fun hHeld => ?_)
          · exact ⟨Q3.out.cell 0, Q3.out.cell 1, Q3.out.cell 2⟩
          clear hK K
          try simp only [Act.put, List.setIfInBounds_toArray, List.set_cons_zero, List.set_cons_succ]
          refine wpAnyH_ready (rs := [15]) (by kernel_rfl) (by simp) ?_
          refine AllReadyH.cons (o := ⟨some 37, _, _, _, _, _⟩) rfl (fun K hK => ?_) AllReadyH.nil
          go_simp
          refine hK.out _ _ ?_ (fun hHeld => ?_)
          · exact ⟨(Q3.out.next (below_new _ _)).cell 0, (Q3.out.next (below_new _ _)).cell 1, (Q3.out.next (below_new _ _)).cell 2⟩
          clear hK K
          try simp only [Act.put, List.setIfInBounds_toArray, List.set_cons_zero, List.set_cons_succ]
          refine wpAnyH_ready (rs := [16]) (by kernel_rfl) (by simp) ?_
          refine AllReadyH.cons (o := ⟨some 38, _, _, _, _, _⟩) rfl (fun K hK => ?_) AllReadyH.nil
          refine step_append_any _ (by rfl) (.tmp 22) (.tmp 37) 39 (by rfl) W.heap.size 3 i3 _ 1 8 Tryd.underlying39 fi3 H3.out.1 H3.out.2.1 H3.out.2.2 rfl (by omega) (.slice (some ada) k cta) k (LS.map natV) (by rfl) (own_next HC3.out.row (below_new _ _)) (w3.heap.size + 1) (some ⟨w3.heap.size, 0, none⟩) 1 1 [natV L.length] (by rfl) (reads_newI2 w3 (natV L.length) w3.heap.size rfl) (by simp [Value.oneCell', natV]) (by unfold maxLen; omega) (by omega) (by rw [World.size_alloc]; omega) ?_
          intro v9 w9 oC gC nC
          have Q9 := blk9 HC3.out.row Q3.out gC
          refine hK.out _ _ ?_ (fun hHeld => ?_)
          · exact ⟨Q9.cell 0, Q9.cell 1, Q9.cell 2⟩
          clear hK K
          try simp only [Act.put, List.setIfInBounds_toArray, List.set_cons_zero, List.set_cons_succ]
          refine wpAnyH_take (i := 17) (oi := ⟨some 5, _, _, _, _, _⟩) (v := ?_) rfl (by kernel_rfl) (by kernel_rfl) (by kernel_rfl) (fun _ _ _ h => h) (Or.inl ⟨by kernel_rfl, ?_⟩) (by assumption) ?_
          rotate_left
          · intro w hSw
            go_simp
            try with_reducible rfl
          try simp only [Act.put, List.setIfInBounds_toArray, List.set_cons_zero, List.set_cons_succ]
          refine wpAnyH_done (by kernel_rfl) ?_ _
          clear hHeld
          have HOC := Lib.hid oC
          have HGC := Lib.hid gC
          have HNC := Lib.hid nC
          clear oC gC nC Q9
          go_wp2_with fail
          go_roundw
          case rel =>
            refine ⟨k + 1, A3, c3, L ++ [⟨pk, (h : Int), (g2 : Int), [], -1⟩], s, LS ++ [L.length], V, VS, by omega, by go_num, by first | omega | (simp; omega), by first | omega | (simp; omega), ?_⟩
            refine HC3.out.push (fun U wU hU => ?_) HOC.out HGC.out HNC.out
            obtain rfl := at_fun l U (.two pk s' u') k wU HU.out hU HAt.out
            refine ⟨⟨HD.out.1, HE.out.1⟩, ?_⟩
            rw [nodes_push, nd_two HKK.out]
            exact .two (nd := ⟨pk, [], some h, some g2, none⟩) (node_here _ _ _) rfl rfl rfl rfl (by simpa using h11) (HD.out.2.put (nodes_end L)) (HE.out.2.put (nodes_end L))
          case measure => simp [intOf]; omega
        · go_simp
          refine hK.out _ _ ?_ (fun hHeld => ?_)
          · exact hHeld
          clear hK K
          try simp only [Act.put, List.setIfInBounds_toArray, List.set_cons_zero, List.set_cons_succ]
          refine wpAnyH_ready (rs := [8]) (by kernel_rfl) (by simp) ?_
          refine AllReadyH.cons (o := ⟨some 30, _, _, _, _, _⟩) rfl (fun K hK => ?_) AllReadyH.nil
          go_simp
          refine hK.out _ _ ?_ (fun hHeld => ?_)
          · exact hHeld
          clear hK K
          try simp only [Act.put, List.setIfInBounds_toArray, List.set_cons_zero, List.set_cons_succ]
          refine wpAnyH_ready (rs := [14]) (by kernel_rfl) (by simp) ?_
          refine AllReadyH.cons (o := ⟨some 36, _, _, _, _, _⟩) rfl (fun K hK => ?_) AllReadyH.nil
          go_simp
          refine (c47 pk (h : Int) (g2 : Int) [] (by omega) (by omega) (by omega) (HC1.out.pool.drewN 1)).mono ?_
          rintro e w3 ⟨A3, c3, rfl, p3, s3, a3⟩
          have HC3 := Lib.hid ((HC1.out.next (below_drewN (Below.refl _ _) 1)).node p3 s3 a3)
          have Q3 := Lib.hid ((Q1.out.drewN 1).stays s3 (by
            rintro (e | e)
            · exact Blk.ne_ Q1.out HC1.out.pool.blk (by decide) e
            · exact own_blk_ne HC1.out.pool.own Q1.out (by decide) (by rw [ownBlock_eq]; exact e)))
          have hsz3 := HC3.out.stay.size
          clear p3 s3 a3
          go_wp2_with fail
          refine hK.out _ _ ?_ (fun hHeld => ?_)
          · exact ⟨Q3.out.cell 0, Q3.out.cell 1, Q3.out.cell 2⟩
          clear hK K
          try simp only [Act.put, List.setIfInBounds_toArray, List.set_cons_zero, List.set_cons_succ]
          refine wpAnyH_ready (rs := [15]) (by kernel_rfl) (by simp) ?_
          refine AllReadyH.cons (o := ⟨some 37, _, _, _, _, _⟩) rfl (fun K hK => ?_) AllReadyH.nil
          go_simp
          refine hK.out _ _ ?_ (fun hHeld => ?_)
          · exact ⟨(Q3.out.next (below_new _ _)).cell 0, (Q3.out.next (below_new _ _)).cell 1, (Q3.out.next (below_new _ _)).cell 2⟩
          clear hK K
          try simp only [Act.put, List.setIfInBounds_toArray, List.set_cons_zero, List.set_cons_succ]
          refine wpAnyH_ready (rs := [16]) (by kernel_rfl) (by simp) ?_
          refine AllReadyH.cons (o := ⟨some 38, _, _, _, _, _⟩) rfl (fun K hK => ?_) AllReadyH.nil
          refine step_append_any _ (by rfl) (.tmp 22) (.tmp 37) 39 (by rfl) W.heap.size 3 i3 _ 1 8 Tryd.underlying39 fi3 H3.out.1 H3.out.2.1 H3.out.2.2 rfl (by omega) (.slice (some ada) k cta) k (LS.map natV) (by rfl) (own_next HC3.out.row (below_new _ _)) (w3.heap.size + 1) (some ⟨w3.heap.size, 0, none⟩) 1 1 [natV L.length] (by rfl) (reads_newI2 w3 (natV L.length) w3.heap.size rfl) (by simp [Value.oneCell', natV]) (by unfold maxLen; omega) (by omega) (by rw [World.size_alloc]; omega) ?_
          intro v9 w9 oC gC nC
          have Q9 := blk9 HC3.out.row Q3.out gC
          refine hK.out _ _ ?_ (fun hHeld => ?_)
          · exact ⟨Q9.cell 0, Q9.cell 1, Q9.cell 2⟩
          clear hK K
          try simp only [Act.put, List.setIfInBounds_toArray, List.set_cons_zero, List.set_cons_succ]
          refine wpAnyH_take (i := 17) (oi := ⟨some 5, _, _, _, _, _⟩) (v := ?_) rfl (by kernel_rfl) (by kernel_rfl) (by kernel_rfl) (fun _ _ _ h => h) (Or.inl ⟨by kernel_rfl, ?_⟩) (by assumption) ?_
          rotate_left
          · intro w hSw
            go_simp
            try with_reducible rfl
          try simp only [Act.put, List.setIfInBounds_toArray, List.set_cons_zero, List.set_cons_succ]
          refine wpAnyH_done (by kernel_rfl) ?_ _
          clear hHeld
          have HOC := Lib.hid oC
          have HGC := Lib.hid gC
          have HNC := Lib.hid nC
          clear oC gC nC Q9
          go_wp2_with fail
          go_roundw
          case rel =>
            refine ⟨k + 1, A3, c3, L ++ [⟨pk, (h : Int), (g2 : Int), [], -1⟩], s, LS ++ [L.length], V, VS, by omega, by go_num, by first | omega | (simp; omega), by first | omega | (simp; omega), ?_⟩
            refine HC3.out.push (fun U wU hU => ?_) HOC.out HGC.out HNC.out
            obtain rfl := at_fun l U (.two pk s' u') k wU HU.out hU HAt.out
            refine ⟨⟨HD.out.1, HE.out.1⟩, ?_⟩
            rw [nodes_push, nd_two HKK.out]
            exact .two (nd := ⟨pk, [], some h, some g2, none⟩) (node_here _ _ _) rfl rfl rfl rfl (by simpa using h11) (HD.out.2.put (nodes_end L)) (HE.out.2.put (nodes_end L))
          case measure => simp [intOf]; omega
    · have hkl : k = l.length := by omega
      subst hkl
      have hlk : ¬ ((l.length : Int) < (l.length : Int)) := by omega
      obtain ⟨j, hj⟩ : ∃ j, l.length = j + 1 := ⟨l.length - 1, by omega⟩
      obtain ⟨x, hx⟩ : ∃ x, LS[j]? = some x := ⟨_, List.getElem?_eq_getElem (by rw [HC.out.g.len]; omega)⟩
      obtain ⟨ad, hA, a0, _⟩ := intAt HC.out.row (j := j) (u := natV x) (by rw [List.getElem?_map, hx]; rfl)
      subst hA
      replace a0 : wr.cell? (ad.add j) = some (.int .i64 (x : Int)) := a0
      have HX := Lib.hid hx
      have hj1 : (j : Int) < (l.length : Int) := by omega
      have hj0 : (0 : Int) ≤ (j : Int) := by omega
      have hlj : (l.length : Int) - 1 = (j : Int) := by omega
      have HJ := Lib.hid hj
      clear hlt hk hj hx
      go_wp2_with fail
      go_ret
      refine ⟨x, A, c, L, s, V, rfl, HC.out.pool, HB.out, HC.out.ext, hLk, HC.out.g.dom, HC.out.g.inj, fun n y hn => ⟨HC.out.lo n y hn, (HC.out.g.var n y hn).inL⟩, fun U wU hU => HC.out.g.den j x U HX.out wU ?_⟩
      rw [HJ.out] at hU
      exact hU
end Go.Proofs.YtcilodgpbdafeaaDoor
