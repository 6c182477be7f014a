/- The document's flat: parts that were laid, variables that were numbered; how high a tree is. -/
import Derived.Test.YtcilodgpbdafeaaDoorZC
namespace Go.Proofs.YtcilodgpbdafeaaDoor
open Go.ChangeShapes Go.WideShapes Go.ChangeAt Go.RowKit
set_option linter.unusedVariables false
set_option linter.unusedSimpArgs false
def Ty.ht : Ty → Nat
  | .leaf _ _ => 0
  | .var _ => 0
  | .one _ s => s.ht + 1
  | .two _ s u => max s.ht u.ht + 1
/-- From a node down to a leaf: as many nodes, each another one. -/
theorem Den.path {L : List Tm} (T : Ty) : ∀ {g : Nat}, Den (nodes L) g T → ∃ P : List Nat, P.length = T.ht + 1 ∧ P.Nodup ∧ ∀ x ∈ P, ∃ U, Den (nodes L) x U ∧ U.size ≤ T.size := by
  induction T with
  | leaf k t => intro g h; exact ⟨[g], rfl, by simp, fun x hx => by rw [List.mem_singleton.1 hx]; exact ⟨_, h, Nat.le_refl _⟩⟩
  | var n => intro g h; exact ⟨[g], rfl, by simp, fun x hx => by rw [List.mem_singleton.1 hx]; exact ⟨_, h, Nat.le_refl _⟩⟩
  | one k s ih =>
    intro g h
    have hk : ∃ y, Den (nodes L) y s := by
      obtain ⟨r, n, hr, hd⟩ := h.rep
      obtain ⟨_, l, _, hlen, hkid⟩ := hd.parts hr.isRoot
      have hl : l.length = 1 := hlen
      exact ⟨_, (hkid 0 _ s (List.getElem?_eq_getElem (by omega)) rfl).1⟩
    obtain ⟨y, hy⟩ := hk
    obtain ⟨P, h1, h2, h3⟩ := ih hy
    refine ⟨g :: P, by simp [h1, Ty.ht], List.nodup_cons.2 ⟨fun hm => ?_, h2⟩, fun x hx => ?_⟩
    · obtain ⟨U, u1, u2⟩ := h3 g hm
      have e := u1.fn h
      rw [e] at u2
      simp only [Ty.size] at u2
      omega
    · rcases List.mem_cons.1 hx with rfl | hx
      · exact ⟨_, h, Nat.le_refl _⟩
      · obtain ⟨U, u1, u2⟩ := h3 x hx
        exact ⟨U, u1, by simp only [Ty.size]; omega⟩
  | two k s u ih1 ih2 =>
    intro g h
    have hk : (∃ y, Den (nodes L) y s) ∧ ∃ y, Den (nodes L) y u := by
      obtain ⟨r, n, hr, hd⟩ := h.rep
      obtain ⟨_, l, _, hlen, hkid⟩ := hd.parts hr.isRoot
      have hl : l.length = 2 := hlen
      exact ⟨⟨_, (hkid 0 _ s (List.getElem?_eq_getElem (by omega)) rfl).1⟩, ⟨_, (hkid 1 _ u (List.getElem?_eq_getElem (by omega)) rfl).1⟩⟩
    obtain ⟨⟨y, hy⟩, ⟨z, hz⟩⟩ := hk
    have hP : ∃ P : List Nat, P.length = max s.ht u.ht + 1 ∧ P.Nodup ∧ ∀ x ∈ P, ∃ U, Den (nodes L) x U ∧ U.size ≤ s.size + u.size := by
      by_cases hm : s.ht ≤ u.ht
      · obtain ⟨P, h1, h2, h3⟩ := ih2 hz
        refine ⟨P, by rw [h1, Nat.max_eq_right hm], h2, fun x hx => ?_⟩
        obtain ⟨U, u1, u2⟩ := h3 x hx
        exact ⟨U, u1, by omega⟩
      · obtain ⟨P, h1, h2, h3⟩ := ih1 hy
        refine ⟨P, by rw [h1, Nat.max_eq_left (by omega)], h2, fun x hx => ?_⟩
        obtain ⟨U, u1, u2⟩ := h3 x hx
        exact ⟨U, u1, by omega⟩
    obtain ⟨P, h1, h2, h3⟩ := hP
    refine ⟨g :: P, by simp [h1, Ty.ht], List.nodup_cons.2 ⟨fun hm => ?_, h2⟩, fun x hx => ?_⟩
    · obtain ⟨U, u1, u2⟩ := h3 g hm
      have e := u1.fn h
      rw [e] at u2
      simp only [Ty.size] at u2
      omega
    · rcases List.mem_cons.1 hx with rfl | hx
      · exact ⟨_, h, Nat.le_refl _⟩
      · obtain ⟨U, u1, u2⟩ := h3 x hx
        exact ⟨U, u1, by simp only [Ty.size]; omega⟩
theorem Den.ht_le {L : List Tm} {g : Nat} {T : Ty} (h : Den (nodes L) g T) : T.ht < L.length := by
  obtain ⟨P, h1, h2, h3⟩ := h.path
  have := pigeon L.length P h2 fun x hx => by obtain ⟨U, u1, _⟩ := h3 x hx; exact u1.inL
  omega
def VI (VR : List Nat) : List Int := VR.map fun x : Nat => (x : Int)
theorem VI_mem {VR : List Nat} {r : Nat} : (r : Int) ∈ VI VR ↔ r ∈ VR := by
  unfold VI
  rw [List.mem_map]
  constructor
  · rintro ⟨x, hx, e⟩
    rw [show r = x by omega]; exact hx
  · exact fun h => ⟨r, h, rfl⟩
/-- A flat in memory. -/
structure LayQ (W : World) (base pb fb : Nat) (A : Option Addr) (c : Nat) (L : List Tm) (vo vv : Value) (O : List Part) (VR : List Nat) : Prop where
  pool : PoolM W base pb A c L
  blk : Blk W fb 84 #[ptr pb, vo, vv]
  out : W.ownsRow base 29 5 vo O.length (O.flatMap partC)
  vars : W.ownsRow base 3 1 vv VR.length (VR.map natV)
  fbb : base ≤ fb
  nd : VR.Nodup
  lt : ∀ x ∈ VR, x < L.length
def LK (fb : Nat) (vo vv : Value) : Nat → Prop := fun k => k = fb ∨ vo.ownBlock = some k ∨ vv.ownBlock = some k
/-- What laying a tree gives: all of it, as long as there is room. -/
def LayRes (O : List Part) (VR : List Nat) (T : Ty) (O' : List Part) (VR' : List Nat) : Prop :=
  (O.length + T.size ≤ 201 → O' = O ++ (enc O.length T).map (ren (nums (enc O.length T) (VI VR))) ∧ VI VR' = nums (enc O.length T) (VI VR)) ∧ (201 < O.length + T.size → 200 < O'.length) ∧ O'.length ≤ max O.length (201 + T.ht)
def LayQPost (base pb fb : Nat) (A : Option Addr) (c : Nat) (L : List Tm) (vo vv : Value) (O : List Part) (VR : List Nat) (T : Ty) (W W' : World) : Prop :=
  ∃ vo' vv' O' VR', LayQ W' base pb fb A c L vo' vv' O' VR' ∧ Stays (LK fb vo vv) W W' ∧ (∀ k, vo'.ownBlock = some k → vo.ownBlock = some k ∨ W.heap.size ≤ k) ∧ (∀ k, vv'.ownBlock = some k → vv.ownBlock = some k ∨ W.heap.size ≤ k) ∧ LayRes O VR T O' VR'
section
variable {W w w' : World} {base pb fb : Nat} {A : Option Addr} {c : Nat} {L : List Tm} {vo vv : Value} {O : List Part} {VR : List Nat}
theorem LayQ.next (h : LayQ W base pb fb A c L vo vv O VR) (hb : Below W.heap.size W w') : LayQ w' base pb fb A c L vo vv O VR :=
  ⟨h.pool.next hb, h.blk.next hb, own_next h.out hb, own_next h.vars hb, h.fbb, h.nd, h.lt⟩
theorem LayQ.few (h : LayQ W base pb fb A c L vo vv O VR) : VR.length ≤ 1000 := Nat.le_trans (pigeon L.length VR h.nd h.lt) h.pool.few
theorem LayQ.lts (h : LayQ W base pb fb A c L vo vv O VR) : ∀ k, LK fb vo vv k → k < W.heap.size := by
  rintro k (e | e | e)
  · rw [e]; exact h.blk.lt
  · exact own_lt h.out k e
  · exact own_lt h.vars k e
theorem LayQ.bases (h : LayQ W base pb fb A c L vo vv O VR) : ∀ k, LK fb vo vv k → base ≤ k := by
  rintro k (e | e | e)
  · rw [e]; exact h.fbb
  · exact own_base h.out k e
  · exact own_base h.vars k e
theorem LayQ.disj (h : LayQ W base pb fb A c L vo vv O VR) : (vo.ownBlock = none ∨ vo.ownBlock ≠ vv.ownBlock) ∧ vo.ownBlock ≠ some fb ∧ vv.ownBlock ≠ some fb :=
  ⟨own_own_ne h.out h.vars (by decide), own_blk_ne h.out h.blk (by decide), own_blk_ne h.vars h.blk (by decide)⟩
/-- Below the flat's and the Pool's own nothing turns. -/
theorem Stays.belowL {W W' : World} (h : Stays (LK fb vo vv) W W') (hq : LayQ W base pb fb A c L vo vv O VR) (hb : base ≤ W.heap.size) : Below base W W' :=
  ⟨h.os, h.tape, h.output, h.size, fun j hj => h.block j (by omega) fun e => by have := hq.bases j e; omega⟩
end
/-- A call's own part, in block pq, and node, in block tq. -/
structure LayR (W w : World) (base pb fb : Nat) (A : Option Addr) (c : Nat) (L : List Tm) (vo0 vv0 vo vv : Value) (O : List Part) (VR : List Nat) (pq : Nat) (p : Part) (tq : Nat) (y : Tm) : Prop where
  lay : LayQ w base pb fb A c L vo vv O VR
  blk : Blk w pq 29 (partC p).toArray
  tm : Blk w tq 90 (tmC y).toArray
  new : W.heap.size ≤ pq
  stay : Stays (LK fb vo0 vv0) W w
  own1 : ∀ k, vo.ownBlock = some k → vo0.ownBlock = some k ∨ W.heap.size ≤ k
  own2 : ∀ k, vv.ownBlock = some k → vv0.ownBlock = some k ∨ W.heap.size ≤ k
  ne : ∀ k, vo.ownBlock = some k → k ≠ pq
  tne : A.map (·.block) ≠ some tq
section
variable {W w w' w7 : World} {base pb fb : Nat} {A : Option Addr} {c : Nat} {L : List Tm} {vo0 vv0 vo vv v1 : Value} {O : List Part} {VR : List Nat} {pq tq : Nat} {p : Part} {y : Tm}
theorem LayR.next (h : LayR W w base pb fb A c L vo0 vv0 vo vv O VR pq p tq y) (hb : Below w.heap.size w w') : LayR W w' base pb fb A c L vo0 vv0 vo vv O VR pq p tq y :=
  ⟨h.lay.next hb, h.blk.next hb, h.tm.next hb, h.new, h.stay.trans (K' := fun _ => False) (Stays.of_below hb) (fun _ _ h => h.elim), h.own1, h.own2, h.ne, h.tne⟩
theorem LayR.drewN (h : LayR W w base pb fb A c L vo0 vv0 vo vv O VR pq p tq y) (n : Nat) : LayR W (w.drewN n) base pb fb A c L vo0 vv0 vo vv O VR pq p tq y := h.next (below_drewN (Below.refl _ _) n)
theorem LayR.setp (h : LayR W w base pb fb A c L vo0 vv0 vo vv O VR pq p tq y) {i : Nat} {u : Value} {q : Part} (hq : (partC p).toArray.setIfInBounds i u = (partC q).toArray) : LayR W (w.setCell ⟨pq, i, none⟩ u) base pb fb A c L vo0 vv0 vo vv O VR pq q tq y := by
  have hp := h.blk
  have hpool : PoolM (w.setCell ⟨pq, i, none⟩ u) base pb A c L :=
    ⟨h.lay.pool.blk.far (Blk.ne_ h.lay.pool.blk hp (by decide)) u, own_set h.lay.pool.own hp (by decide), h.lay.pool.pbb, h.lay.pool.ok, h.lay.pool.few⟩
  have hout : (w.setCell ⟨pq, i, none⟩ u).ownsRow base 29 5 vo O.length (O.flatMap partC) := by
    refine h.lay.out.kept (grown_set w pq i u) ?_
    cases hv : vo.ownBlock with
    | none => exact .inl rfl
    | some k => exact .inr fun e => h.ne k hv (by injection e)
  refine ⟨⟨hpool, h.lay.blk.far (Blk.ne_ h.lay.blk hp (by decide)) u, hout, own_set h.lay.vars hp (by decide), h.lay.fbb, h.lay.nd, h.lay.lt⟩, hq ▸ hp.set_ i u, h.tm.far (Blk.ne_ h.tm hp (by decide)) u, h.new, h.stay.set (.inl h.new) u, h.own1, h.own2, h.ne, h.tne⟩
/-- A part of the tree was laid. -/
theorem LayR.laid (h : LayR W w base pb fb A c L vo0 vv0 vo vv O VR pq p tq y) {T : Ty} (hp : LayQPost base pb fb A c L vo vv O VR T w w') :
    ∃ vo' vv' O' VR', LayR W w' base pb fb A c L vo0 vv0 vo' vv' O' VR' pq p tq y ∧ LayRes O VR T O' VR' := by
  obtain ⟨vo', vv', O', VR', h1, h2, h3, h4, h5⟩ := hp
  have hpb := h.blk.lt
  have hn : ∀ {b : Nat} {t : TypeId} {cs : Array Value}, Blk w b t cs → t ≠ 84 → t ≠ 3 → (∀ k, vo.ownBlock = some k → k ≠ b) → ¬ LK fb vo vv b := by
    rintro b t cs hb h84 h3' hne (e | e | e)
    · exact Blk.ne_ hb h.lay.blk h84 e
    · exact hne _ e rfl
    · exact own_blk_ne h.lay.vars hb (fun e => h3' e.symm) e
  refine ⟨vo', vv', O', VR', ⟨h1, h.blk.stays h2 (hn h.blk (by decide) (by decide) h.ne), h.tm.stays h2 (hn h.tm (by decide) (by decide) fun k hk e => own_blk_ne h.lay.out h.tm (by decide) (by rw [hk, e])), h.new, h.stay.trans h2 ?_, fun k hk => ?_, fun k hk => ?_, fun k hk => ?_, h.tne⟩, h5⟩
  · rintro k hk (e | e | e)
    · exact .inl e
    · rcases h.own1 k e with e | e
      · exact .inr (.inl e)
      · omega
    · rcases h.own2 k e with e | e
      · exact .inr (.inr e)
      · omega
  · rcases h3 k hk with e | e
    · exact h.own1 k e
    · exact .inr (Nat.le_trans h.stay.size e)
  · rcases h4 k hk with e | e
    · exact h.own2 k e
    · exact .inr (Nat.le_trans h.stay.size e)
  · rcases h3 k hk with e | e
    · exact h.ne k e
    · omega
/-- A variable more is numbered. -/
theorem LayR.named (h : LayR W w base pb fb A c L vo0 vv0 vo vv O VR pq p tq y) {o : Obj} {r : Nat} (hr : r ∉ VR) (hl : r < L.length) (oA : w7.ownsRow base 3 1 v1 (VR.length + 1) (VR.map natV ++ [natV r])) (gA : (w.alloc o).grownBy w7 vv.ownBlock) (hn : v1.ownBlock = vv.ownBlock ∨ v1.ownBlock = some (w.alloc o).heap.size) :
    LayR W (w7.setCell ⟨fb, 2, none⟩ v1) base pb fb A c L vo0 vv0 vo v1 O (VR ++ [r]) pq p tq y := by
  have h6 := h.next (below_new w o)
  have q7 : Blk w7 fb 84 #[ptr pb, vo, vv] := h6.lay.blk.grown gA (fun e => own_blk_ne h6.lay.vars h6.lay.blk (by decide) e.symm)
  have p7 : Blk w7 pq 29 (partC p).toArray := h6.blk.grown gA (fun e => own_blk_ne h6.lay.vars h6.blk (by decide) e.symm)
  have t7 : Blk w7 tq 90 (tmC y).toArray := h6.tm.grown gA (fun e => own_blk_ne h6.lay.vars h6.tm (by decide) e.symm)
  have l7 : PoolM w7 base pb A c L := by
    refine h6.lay.pool.grown gA (fun e => own_blk_ne h6.lay.vars h6.lay.pool.blk (by decide) e) ?_
    rcases own_own_ne h6.lay.vars h6.lay.pool.own (by decide) with e | e
    · exact .inr e
    · exact .inl e
  have o7 : w7.ownsRow base 29 5 vo O.length (O.flatMap partC) := h6.lay.out.kept gA (own_own_ne h6.lay.out h6.lay.vars (by decide))
  have hv1 : ∀ k, v1.ownBlock = some k → vv0.ownBlock = some k ∨ W.heap.size ≤ k := fun k hk => by
    rcases hn with e | e
    · exact h.own2 k (e ▸ hk)
    · rw [e] at hk
      injection hk with hk
      right
      have := h6.stay.size
      omega
  refine ⟨⟨⟨l7.blk.far (Blk.ne_ l7.blk q7 (by decide)) _, own_set l7.own q7 (by decide), l7.pbb, l7.ok, l7.few⟩, q7.set_ 2 v1, own_set o7 q7 (by decide), ?_, h.lay.fbb, ?_, fun x hx => ?_⟩, p7.far (Blk.ne_ p7 q7 (by decide)) _, t7.far (Blk.ne_ t7 q7 (by decide)) _, h.new, ?_, h.own1, hv1, h.ne, h.tne⟩
  · rw [List.length_append, List.map_append]
    exact own_set oA q7 (by decide)
  · rw [List.nodup_append]
    refine ⟨h.lay.nd, by simp, fun a ha b hb e => ?_⟩
    rw [List.mem_singleton] at hb
    subst hb e
    exact hr ha
  · rcases List.mem_append.1 hx with hx | hx
    · exact h.lay.lt x hx
    · rw [List.mem_singleton.1 hx]; exact hl
  · have s7 : Stays (LK fb vo0 vv0) W w7 := h6.stay.trans (K' := fun k => vv.ownBlock = some k) (Stays.of_grown gA (fun k e => e)) fun k hk e => by
      rcases h.own2 k e with e | e
      · exact .inr (.inr e)
      · omega
    exact s7.set (.inr (.inl rfl)) v1
/-- All is laid. -/
theorem LayR.done (h : LayR W w base pb fb A c L vo0 vv0 vo vv O VR pq p tq y) {o : Obj} {n : Nat} (hnl : O.length = n) (oA : w7.ownsRow base 29 5 v1 (n + 1) (O.flatMap partC ++ partC p)) (gA : (w.alloc o).grownBy w7 vo.ownBlock) (hn : v1.ownBlock = vo.ownBlock ∨ v1.ownBlock = some (w.alloc o).heap.size) {O0 : List Part} {VR0 : List Nat} {T : Ty}
    (hres : LayRes O0 VR0 T (O ++ [p]) VR) : LayQPost base pb fb A c L vo0 vv0 O0 VR0 T W (w7.setCell ⟨fb, 1, none⟩ v1) := by
  subst hnl
  have h6 := h.next (below_new w o)
  have q7 : Blk w7 fb 84 #[ptr pb, vo, vv] := h6.lay.blk.grown gA (fun e => own_blk_ne h6.lay.out h6.lay.blk (by decide) e.symm)
  have l7 : PoolM w7 base pb A c L := by
    refine h6.lay.pool.grown gA (fun e => own_blk_ne h6.lay.out h6.lay.pool.blk (by decide) e) ?_
    rcases own_own_ne h6.lay.out h6.lay.pool.own (by decide) with e | e
    · exact .inr e
    · exact .inl e
  have o7 : w7.ownsRow base 3 1 vv VR.length (VR.map natV) := h6.lay.vars.kept gA (own_own_ne h6.lay.vars h6.lay.out (by decide))
  refine ⟨v1, vv, O ++ [p], VR, ⟨⟨l7.blk.far (Blk.ne_ l7.blk q7 (by decide)) _, own_set l7.own q7 (by decide), l7.pbb, l7.ok, l7.few⟩, q7.set_ 1 v1, ?_, own_set o7 q7 (by decide), h.lay.fbb, h.lay.nd, h.lay.lt⟩, ?_, fun k hk => ?_, h.own2, hres⟩
  · rw [List.length_append, List.flatMap_append, show [p].flatMap partC = partC p by simp]
    exact own_set oA q7 (by decide)
  · have s7 : Stays (LK fb vo0 vv0) W w7 := h6.stay.trans (K' := fun k => vo.ownBlock = some k) (Stays.of_grown gA (fun k e => e)) fun k hk e => by
      rcases h.own1 k e with e | e
      · exact .inr (.inl e)
      · omega
    exact s7.set (.inr (.inl rfl)) v1
  · rcases hn with e | e
    · exact h.own1 k (e ▸ hk)
    · rw [e] at hk
      injection hk with hk
      right
      have := h6.stay.size
      omega
end
/-- What laying gives, put together. -/
theorem LayRes.leaf {k : Int} {t : List UInt8} (hk : k ≠ 11) {O : List Part} {VR : List Nat} (hO : O.length ≤ 200) : LayRes O VR (.leaf k t) (O ++ [⟨k, 0, 0, 0, t⟩]) VR := by
  refine ⟨fun _ => lay_leaf hk O (VI VR), fun h => ?_, ?_⟩
  · simp only [Ty.size] at h; omega
  · simp only [List.length_append, List.length_singleton, Ty.ht]; omega
theorem LayRes.full {O : List Part} {VR : List Nat} {T : Ty} (hO : 200 < O.length) : LayRes O VR T O VR := by
  refine ⟨fun h => ?_, fun _ => hO, Nat.le_max_left _ _⟩
  have := T.size_pos
  omega
theorem LayRes.len {O : List Part} {VR : List Nat} {T : Ty} {O' : List Part} {VR' : List Nat} (h : LayRes O VR T O' VR') (hz : O.length + T.size ≤ 201) : O'.length = O.length + T.size := by
  rw [(h.1 hz).1, List.length_append, List.length_map, enc_len]
theorem LayRes.one {k : Int} {s : Ty} (hk : k ≠ 11) {O : List Part} {VR : List Nat} (hO : O.length ≤ 200) {O' : List Part} {VR' : List Nat} {r : Int} (h : LayRes O VR s O' VR') (hr : O.length + s.size ≤ 201 → r = ((O.length + s.size - 1 : Nat) : Int)) : LayRes O VR (.one k s) (O' ++ [⟨k, r, 0, 0, []⟩]) VR' := by
  refine ⟨fun hz => ?_, fun hz => ?_, ?_⟩
  · simp only [Ty.size] at hz
    obtain ⟨e1, e2⟩ := h.1 (by omega)
    rw [e1, e2, hr (by omega)]
    exact lay_one hk O (VI VR)
  · simp only [Ty.size] at hz
    rw [List.length_append, List.length_singleton]
    by_cases h2 : O.length + s.size ≤ 201
    · have := h.len h2; omega
    · have := h.2.1 (by omega); omega
  · have := h.2.2
    rw [List.length_append, List.length_singleton]
    simp only [Ty.ht]
    omega
theorem LayRes.two {k : Int} {s u : Ty} (hk : k ≠ 11) {O : List Part} {VR : List Nat} (hO : O.length ≤ 200) {O1 O2 : List Part} {VR1 VR2 : List Nat} {r r2 : Int} (h : LayRes O VR s O1 VR1) (hr : O.length + s.size ≤ 201 → r = ((O.length + s.size - 1 : Nat) : Int)) (h2 : LayRes O1 VR1 u O2 VR2) (hr2 : O1.length + u.size ≤ 201 → r2 = ((O1.length + u.size - 1 : Nat) : Int)) :
    LayRes O VR (.two k s u) (O2 ++ [⟨k, r, r2, 0, []⟩]) VR2 := by
  refine ⟨fun hz => ?_, fun hz => ?_, ?_⟩
  · simp only [Ty.size] at hz
    have hl := h.len (by omega)
    obtain ⟨e1, e2⟩ := h.1 (by omega)
    obtain ⟨e3, e4⟩ := h2.1 (by omega)
    have h3 := lay_two (u := u) hk O (VI VR) (l1 := O1) (V1 := VI VR1) (by rw [e2]; exact e1) e2
    rw [e3, e4, hr (by omega), hr2 (by omega)]
    exact h3
  · simp only [Ty.size] at hz
    rw [List.length_append, List.length_singleton]
    by_cases h3 : O1.length + u.size ≤ 201
    · by_cases h4 : O.length + s.size ≤ 201
      · have := h.len h4; have := h2.len h3; omega
      · have := h.2.1 (by omega); have := u.size_pos; have := h2.len h3; omega
    · have := h2.2.1 (by omega); omega
  · have := h.2.2
    have := h2.2.2
    rw [List.length_append, List.length_singleton]
    simp only [Ty.ht]
    omega
theorem VI_snoc (VR : List Nat) (r : Nat) : VI (VR ++ [r]) = VI VR ++ [(r : Int)] := by unfold VI; rw [List.map_append]; rfl
theorem VI_idx {VR : List Nat} {r j : Nat} (hn : VR.Nodup) (h : VR[j]? = some r) : (VI VR).idxOf (r : Int) = j := by
  have hlt := (List.getElem?_eq_some_iff.1 h).1
  have hnV : (VI VR).Nodup := by
    unfold VI
    rw [List.Nodup, List.pairwise_map]
    exact List.Pairwise.imp (fun {a b} (h : a ≠ b) e => h (Int.ofNat_inj.1 e)) (show VR.Pairwise (· ≠ ·) from hn)
  have hj : (VI VR)[j]? = some (r : Int) := by unfold VI; rw [List.getElem?_map, h]; rfl
  have hl2 := (List.getElem?_eq_some_iff.1 hj).1
  have e : (VI VR)[j] = (r : Int) := (List.getElem?_eq_some_iff.1 hj).2
  have hm : (r : Int) ∈ VI VR := List.mem_of_getElem? hj
  have h2 := List.idxOf_lt_length_of_mem hm
  have h3 := List.getElem_idxOf h2
  have hp := List.pairwise_iff_getElem.1 (show (VI VR).Pairwise (· ≠ ·) from hnV)
  rcases Nat.lt_trichotomy ((VI VR).idxOf (r : Int)) j with h4 | h4 | h4
  · exact absurd (h3.trans e.symm) (hp _ _ h2 hl2 h4)
  · exact h4
  · exact absurd (e.trans h3.symm) (hp _ _ hl2 h2 h4)
theorem LayRes.var {r j : Nat} {O : List Part} {VR : List Nat} (hO : O.length ≤ 200) (hn : VR.Nodup) (h : VR[j]? = some r) : LayRes O VR (.var r) (O ++ [⟨11, 0, 0, (j : Int), []⟩]) VR := by
  have hm : (r : Int) ∈ VI VR := VI_mem.2 (List.mem_of_getElem? h)
  have hl := lay_var (r : Int) O (VI VR)
  rw [if_pos hm, VI_idx hn h] at hl
  refine ⟨fun _ => hl, fun h => ?_, ?_⟩
  · simp only [Ty.size] at h; omega
  · simp only [List.length_append, List.length_singleton, Ty.ht]; omega
theorem LayRes.varNew {r : Nat} {O : List Part} {VR : List Nat} (hO : O.length ≤ 200) (h : r ∉ VR) : LayRes O VR (.var r) (O ++ [⟨11, 0, 0, (VR.length : Int), []⟩]) (VR ++ [r]) := by
  have hm : (r : Int) ∉ VI VR := fun hm => h (VI_mem.1 hm)
  have hl := lay_var (r : Int) O (VI VR)
  have hi : (VI VR ++ [(r : Int)]).idxOf (r : Int) = VR.length := by
    rw [List.idxOf_append, if_neg hm]
    unfold VI
    simp
  rw [if_neg hm, hi] at hl
  refine ⟨fun _ => by rw [VI_snoc]; exact hl, fun h => ?_, ?_⟩
  · simp only [Ty.size] at h; omega
  · simp only [List.length_append, List.length_singleton, Ty.ht]; omega
end Go.Proofs.YtcilodgpbdafeaaDoor
namespace Go.Proofs.YtcilodgpbdafeaaDoor
open Go.ChangeShapes Go.WideShapes Go.ChangeAt Go.RowKit
set_option linter.unusedVariables false
set_option linter.unusedSimpArgs false
theorem PoolM.rowAt {W : World} {base pb : Nat} {A : Option Addr} {c : Nat} {L : List Tm} (h : PoolM W base pb A c L) {k : Nat} {x : Tm} (hk : L[k]? = some x) : ∃ ad, A = some ad ∧ ∀ j v, (tmC x)[j]? = some v → W.cell? ((ad.add (k * 5)).add j) = some v := by
  obtain ⟨ad, e, _, hc⟩ := Reads.rowAt (f := tmC) (m := 5) (fun _ => rfl) (Reads.of_own h.own) (by decide) hk
  exact ⟨ad, e, hc⟩
theorem LayR.start {W : World} {base pb fb : Nat} {A : Option Addr} {c : Nat} {L : List Tm} {vo vv : Value} {O : List Part} {VR : List Nat} (h : LayQ W base pb fb A c L vo vv O VR) (y : Tm) (p : Part) :
    LayR W ((W.alloc (.cells (tmC y).toArray 90)).alloc (.cells (partC p).toArray 29)) base pb fb A c L vo vv vo vv O VR (W.heap.size + 1) p W.heap.size y := by
  have h1 := h.next (below_new W (.cells (tmC y).toArray 90))
  have hb : Below W.heap.size W ((W.alloc (.cells (tmC y).toArray 90)).alloc (.cells (partC p).toArray 29)) := (below_new W _).alloc (by rw [World.size_alloc]; omega) _
  refine ⟨h1.next (below_new _ _), ?_, (Blk.new W 90 (tmC y).toArray).alloc _, by omega, Stays.of_below hb, fun k hk => .inl hk, fun k hk => .inl hk, fun k hk => ?_, fun e => ?_⟩
  · have := Blk.new (W.alloc (.cells (tmC y).toArray 90)) 29 (partC p).toArray
    rwa [World.size_alloc] at this
  · have := own_lt h.out k hk; omega
  · have := own_lt h.pool.own W.heap.size (by rw [ownBlock_eq]; exact e); omega
theorem intAtQ {w : World} {b n c : Nat} {A : Option Addr} {xs : List Value} (o : w.ownsRow b 3 1 (.slice A n c) n xs) {j : Nat} {u : Value} (hj : xs[j]? = some u) : ∃ ad, A = some ad ∧ w.cell? (ad.add j) = some u ∧ j < n := by
  have hlt := (List.getElem?_eq_some_iff.1 hj).1
  have hn := o.1
  rw [Nat.mul_one] at hn
  obtain ⟨ad, u', e, _, hu, hc⟩ := (Reads.of_own o).at_ (k := j) (by omega)
  rw [hj] at hu
  obtain rfl := Option.some.inj hu
  exact ⟨ad, e, hc, by omega⟩
theorem LayR.fbs {W w w7 : World} {base pb fb : Nat} {A : Option Addr} {c : Nat} {L : List Tm} {vo0 vv0 vo vv : Value} {O : List Part} {VR : List Nat} {pq tq : Nat} {p : Part} {y : Tm} (h : LayR W w base pb fb A c L vo0 vv0 vo vv O VR pq p tq y) {o : Obj} (gA : (w.alloc o).grownBy w7 vv.ownBlock) : w7.cell? ⟨fb, 2, none⟩ = some vv ∧ w7.frozen? ⟨fb, 2, none⟩ = false ∧ fb < w7.heap.size := by
  have h6 := h.next (below_new w o)
  have q7 : Blk w7 fb 84 #[ptr pb, vo, vv] := h6.lay.blk.grown gA (fun e => own_blk_ne h6.lay.vars h6.lay.blk (by decide) e.symm)
  exact ⟨q7.cell 2, q7.frozen 2, q7.lt⟩
/-- What lay hands back. -/
def LayQEnd (base pb fb : Nat) (A : Option Addr) (c : Nat) (L : List Tm) (vo vv : Value) (O : List Part) (VR : List Nat) (T : Ty) (W : World) (e : Ending) (W' : World) : Prop :=
  ∃ r, e = .returned (.int .i64 r) ∧ LayQPost base pb fb A c L vo vv O VR T W W' ∧ (O.length + T.size ≤ 201 → r = ((O.length + T.size - 1 : Nat) : Int))
theorem LayQEnd.last {base pb fb : Nat} {A : Option Addr} {c : Nat} {L : List Tm} {vo vv : Value} {O : List Part} {VR : List Nat} {T : Ty} {W W' : World} {O1 : List Part} {VR1 : List Nat} {p : Part} {n : Nat} (hn : O1.length = n) (h : LayQPost base pb fb A c L vo vv O VR T W W') (hres : LayRes O VR T (O1 ++ [p]) VR1) : LayQEnd base pb fb A c L vo vv O VR T W (.returned (.int .i64 (n : Int))) W' := by
  refine ⟨_, rfl, h, fun hz => ?_⟩
  have := hres.len hz
  rw [List.length_append, List.length_singleton] at this
  rw [← hn, show O1.length = O.length + T.size - 1 by omega]
def LayQIH (base pb fb : Nat) (A : Option Addr) (c : Nat) (L : List Tm) (m : Nat) : Prop := ∀ (T : Ty) (g : Nat) (W : World) (vo vv : Value) (O : List Part) (VR : List Nat), T.size ≤ m → T.wf → Den (nodes L) g T → LayQ W base pb fb A c L vo vv O VR → O.length ≤ 1300 → Calls Tryd.prog 49 #[ptr fb, .int .i64 (g : Int)] W (LayQEnd base pb fb A c L vo vv O VR T W)
set_option maxRecDepth 100000 in
set_option maxHeartbeats 4000000 in
theorem c49full {base pb fb : Nat} {A : Option Addr} {c : Nat} {L : List Tm} {vo vv : Value} {O : List Part} {VR : List Nat} {g : Nat} {T : Ty} (W : World) (hL : LayQ W base pb fb A c L vo vv O VR) (hO : 200 < O.length) (hO2 : O.length ≤ 1300) : Calls Tryd.prog 49 #[ptr fb, .int .i64 (g : Int)] W (LayQEnd base pb fb A c L vo vv O VR T W) := by
  obtain ⟨Ao, co, rfl⟩ := own_form hL.out
  have f1 := hL.blk.cell 1
  replace f1 : W.cell? ⟨fb, 1, none⟩ = some (.slice Ao O.length co) := f1
  have hO3 : (200 : Int) < (O.length : Int) := by omega
  have HL := Lib.hid hL
  have HO := Lib.hid hO
  clear hL hO
  go_enter Tryd.func49, Tryd.ntmps49
  go_wp2_with fail
  go_ret
  exact ⟨0, rfl, ⟨_, vv, O, VR, HL.out, Stays.refl W, fun k hk => .inl hk, fun k hk => .inl hk, LayRes.full HO.out⟩, fun hz => by have := T.size_pos; have := HO.out; omega⟩
set_option maxRecDepth 100000 in
set_option maxHeartbeats 16000000 in
theorem c49leaf {base pb fb : Nat} {A : Option Addr} {c : Nat} {L : List Tm} {vo vv : Value} {O : List Part} {VR : List Nat} {g r n : Nat} {k : Int} {t : List UInt8} (hr : Rep (nodes L) g r n) (hd : Den (nodes L) r (Ty.leaf k t)) (hw : (Ty.leaf k t).wf) {W : World} (hL : LayQ W base pb fb A c L vo vv O VR) (hO : O.length ≤ 200) :
    Calls Tryd.prog 49 #[ptr fb, .int .i64 (g : Int)] W (LayQEnd base pb fb A c L vo vv O VR (Ty.leaf k t) W) := by
  have hkk := kids_kind hw
  obtain ⟨y, hy, hyk, hyt, _, hyc⟩ := hd.tm hr.isRoot hL.pool.ok
  have hr1 := hd.inL
  have hfew := hL.pool.few
  have hht := hd.ht_le
  have hvf := hL.few
  obtain ⟨ad, hA, hcs⟩ := hL.pool.rowAt hy
  subst hA
  have p0 := hL.pool.cell
  obtain ⟨Ao, co, rfl⟩ := own_form hL.out
  obtain ⟨Av, cv, rfl⟩ := own_form hL.vars
  have f0 := hL.blk.cell 0
  have f1 := hL.blk.cell 1
  have f2 := hL.blk.cell 2
  replace f0 : W.cell? ⟨fb, 0, none⟩ = some (ptr pb) := f0
  replace f1 : W.cell? ⟨fb, 1, none⟩ = some (.slice Ao O.length co) := f1
  replace f2 : W.cell? ⟨fb, 2, none⟩ = some (.slice Av VR.length cv) := f2
  have hlF := hL.blk.lt
  have HR := Lib.hid hr
  have HD := Lib.hid hd
  have HW := Lib.hid hw
  have HL := Lib.hid hL
  have HY := Lib.hid hy
  obtain ⟨yk, ya, yb, yt, ys⟩ := y
  have HCS := Lib.hid hcs
  clear hr hd hw hL hy hcs
  replace hyk : yk = k := hyk
  replace hyt : yt = t := hyt
  subst hyk hyt
  replace hkk : kids yk = 0 := hkk
  have hk11 : yk ≠ 11 := by
    have := HW.out
    simp only [Ty.wf] at this
    omega
  have f11 : (yk == 11) = false := beq_false_of_ne hk11
  have HK11 := Lib.hid hk11
  have HKK := Lib.hid hkk
  have HO := Lib.hid hO
  clear hkk hk11 hyc
  have hr0 : (0 : Int) ≤ (r : Int) := by omega
  have hrI : (r : Int) < (L.length : Int) := by omega
  have hOI : ¬ (200 : Int) < (O.length : Int) := by omega
  go_enter Tryd.func49, Tryd.ntmps49
  go_wp2_with fail
  refine (c54 HR.out HL.out.pool).mono ?_
  rintro e _ ⟨rfl, rfl⟩
  go_wp2_with (first | (refine wpList_load_at rfl 90 (.tmp 28) rfl (ad.add (r * 5)) rfl [.int .i64 yk, .int .i64 ya, .int .i64 yb, strV yt, .int .i64 ys] _ HCS.out Tryd.underlying90 rfl (by kernel_rfl) ?_))
  refine (c27 yk _).mono ?_
  rintro e w1 ⟨rfl, rfl⟩
  rw [HKK.out]
  go_upto_region 7 with fail
  have DP := Lib.hid (LayR.start HL.out ⟨yk, ya, yb, yt, ys⟩ ⟨yk, 0, 0, 0, yt⟩)
  change Code.wp _ _ _ _ ((W.alloc (.cells (tmC ⟨yk, ya, yb, yt, ys⟩).toArray 90)).alloc (.cells (partC ⟨yk, 0, 0, 0, yt⟩).toArray 29))
  generalize (W.alloc (.cells (tmC ⟨yk, ya, yb, yt, ys⟩).toArray 90)).alloc (.cells (partC ⟨yk, 0, 0, 0, yt⟩).toArray 29) = w2 at DP ⊢
  generalize hpq : W.heap.size + 1 = pq at DP ⊢
  generalize W.heap.size = tq at DP ⊢
  clear hpq f0 f1 f2 p0 hlF
  have t0 := DP.out.tm.cell 0
  replace t0 : w2.cell? ⟨tq, 0, none⟩ = some (.int .i64 yk) := t0
  have EP := Lib.hid (DP.out.next (Below.drew (Below.refl _ _)))
  have e0 := EP.out.lay.blk.cell 1
  have p0 := EP.out.blk.cell 0
  have p1 := EP.out.blk.cell 1
  have p2 := EP.out.blk.cell 2
  have p3 := EP.out.blk.cell 3
  have p4 := EP.out.blk.cell 4
  replace p0 : w2.drew.cell? ⟨pq, 0, none⟩ = some (.int .i64 yk) := p0
  replace p1 : w2.drew.cell? ⟨pq, 1, none⟩ = some (.int .i64 0) := p1
  replace p2 : w2.drew.cell? ⟨pq, 2, none⟩ = some (.int .i64 0) := p2
  replace p3 : w2.drew.cell? ⟨pq, 3, none⟩ = some (.int .i64 0) := p3
  replace p4 : w2.drew.cell? ⟨pq, 4, none⟩ = some (strV yt) := p4
  obtain ⟨i29, fi29, hz0, hz1, hz2⟩ := info_parts part_info
  have HLN := Lib.hid (show O.length ≤ 1300 from by have := HO.out; omega)
  have HRES := Lib.hid (LayRes.leaf (VR := VR) (t := yt) HK11.out HO.out)
  generalize hnc : O.length = nc at EP HLN e0 ⊢
  replace e0 : w2.drew.cell? ⟨fb, 1, none⟩ = some (.slice Ao nc co) := e0
  have HNC := Lib.hid hnc
  clear hnc
  go_upto_region 16 with fail
  refine wp_region_last (S := fun V => V.cell? ⟨fb, 1, none⟩ = some (.slice Ao nc co) ∧ V.cell? ⟨pq, 0, none⟩ = some (.int .i64 yk) ∧ V.cell? ⟨pq, 1, none⟩ = some (.int .i64 0) ∧ V.cell? ⟨pq, 2, none⟩ = some (.int .i64 0) ∧ V.cell? ⟨pq, 3, none⟩ = some (.int .i64 0) ∧ V.cell? ⟨pq, 4, none⟩ = some (strV yt)) 10 (by kernel_rfl) (by kernel_rfl) (by kernel_rfl) (by kernel_rfl) ⟨e0, p0, p1, p2, p3, p4⟩ (fun hHeld => ?_)
  generalize w2.drew = d at EP hHeld ⊢
  refine wpAnyH_take (i := 0) (oi := ⟨some 97, _, _, _, _, _⟩) (v := ?_) rfl (by kernel_rfl) (by kernel_rfl) (by kernel_rfl) (fun _ _ _ h => h) (Or.inl ⟨by kernel_rfl, ?_⟩) (by assumption) ?_
  rotate_left
  · intro w hSw
    go_simp
    try with_reducible rfl
  try simp only [Act.put, List.setIfInBounds_toArray, List.set_cons_zero, List.set_cons_succ]
  refine wpAnyH_take (i := 1) (oi := ⟨some 98, _, _, _, _, _⟩) (v := ?_) rfl (by kernel_rfl) (by kernel_rfl) (by kernel_rfl) (fun _ _ _ h => h) (Or.inl ⟨by kernel_rfl, ?_⟩) (by assumption) ?_
  rotate_left
  · intro w hSw
    go_simp
    try with_reducible rfl
  try simp only [Act.put, List.setIfInBounds_toArray, List.set_cons_zero, List.set_cons_succ]
  refine wpAnyH_take (i := 2) (oi := ⟨some 99, _, _, _, _, _⟩) (v := ?_) rfl (by kernel_rfl) (by kernel_rfl) (by kernel_rfl) (fun _ _ _ h => h) (Or.inl ⟨by kernel_rfl, ?_⟩) (by assumption) ?_
  rotate_left
  · intro w hSw
    go_simp
    try with_reducible rfl
  try simp only [Act.put, List.setIfInBounds_toArray, List.set_cons_zero, List.set_cons_succ]
  refine wpAnyH_take (i := 3) (oi := ⟨some 100, _, _, _, _, _⟩) (v := ?_) rfl (by kernel_rfl) (by kernel_rfl) (by kernel_rfl) (fun _ _ _ h => h) (Or.inl ⟨by kernel_rfl, ?_⟩) (by assumption) ?_
  rotate_left
  · intro w hSw
    go_simp
    try with_reducible rfl
  try simp only [Act.put, List.setIfInBounds_toArray, List.set_cons_zero, List.set_cons_succ]
  refine wpAnyH_take (i := 4) (oi := ⟨some 101, _, _, _, _, _⟩) (v := ?_) rfl (by kernel_rfl) (by kernel_rfl) (by kernel_rfl) (fun _ _ _ h => h) (Or.inl ⟨by kernel_rfl, ?_⟩) (by assumption) ?_
  rotate_left
  · intro w hSw
    go_simp
    try with_reducible rfl
  try simp only [Act.put, List.setIfInBounds_toArray, List.set_cons_zero, List.set_cons_succ]
  refine wpAnyH_take (i := 5) (oi := ⟨some 102, _, _, _, _, _⟩) (v := ?_) rfl (by kernel_rfl) (by kernel_rfl) (by kernel_rfl) (fun _ _ _ h => h) (Or.inl ⟨by kernel_rfl, ?_⟩) (by assumption) ?_
  rotate_left
  · intro w hSw
    go_simp
    try with_reducible rfl
  try simp only [Act.put, List.setIfInBounds_toArray, List.set_cons_zero, List.set_cons_succ]
  refine wpAnyH_ready (rs := [6]) (by kernel_rfl) (by simp) ?_
  refine AllReadyH.cons (o := ⟨some 103, _, _, _, _, _⟩) rfl (fun K hK => ?_) AllReadyH.nil
  go_simp
  refine hK.out _ _ ?_ (fun hHeld => ?_)
  · exact (have E6 := EP.out.next (below_new _ _); ⟨E6.lay.blk.cell 1, E6.blk.cell 0, E6.blk.cell 1, E6.blk.cell 2, E6.blk.cell 3, E6.blk.cell 4⟩)
  clear hK K
  try simp only [Act.put, List.setIfInBounds_toArray, List.set_cons_zero, List.set_cons_succ]
  have E6 := EP.out.next (below_new _ (.cells (partC ⟨yk, 0, 0, 0, yt⟩).toArray 29))
  have E6o := Lib.hid (HNC.out ▸ E6.lay.out : (d.alloc (.cells (partC ⟨yk, 0, 0, 0, yt⟩).toArray 29)).ownsRow base 29 5 (.slice Ao nc co) nc (O.flatMap partC))
  have E6b := Lib.hid E6.blk
  have E6q := Lib.hid E6.lay.blk
  have E6s := Lib.hid (show base ≤ (d.alloc (.cells (partC ⟨yk, 0, 0, 0, yt⟩).toArray 29)).heap.size from Nat.le_of_lt (Nat.lt_of_le_of_lt E6.lay.fbb E6.lay.blk.lt))
  have E6n := Lib.hid E6.ne
  clear E6
  refine wpAnyH_ready (rs := [7]) (by kernel_rfl) (by simp) ?_
  refine AllReadyH.cons (o := ⟨some 104, _, _, _, _, _⟩) rfl (fun K hK => ?_) AllReadyH.nil
  refine step_append_any _ (by rfl) (.tmp 101) (.tmp 103) 23 (by rfl) base 29 i29 _ 5 48 Tryd.underlying23 fi29 hz0 hz1 hz2 rfl (by omega) (.slice Ao nc co) nc (O.flatMap partC) (by rfl) E6o.out (d.heap.size + 1) (some ⟨d.heap.size, 0, none⟩) 1 1 (partC ⟨yk, 0, 0, 0, yt⟩) (by rfl) (reads_blkN (Blk.new d 29 (partC ⟨yk, 0, 0, 0, yt⟩).toArray) rfl) (by simp [partC, Value.oneCell']) (by unfold maxLen; have := HLN.out; omega) (by have := HLN.out; omega) E6s.out ?_
  intro v1 w7 oA gA hnA
  obtain ⟨a1, c1, rfl⟩ := own_form oA
  have Q7 := E6q.out.grown gA (fun e => own_blk_ne E6o.out E6q.out (by decide) e.symm)
  have P7 : Blk w7 pq 29 (partC ⟨yk, 0, 0, 0, yt⟩).toArray := E6b.out.grown gA (fun e => E6n.out pq e.symm rfl)
  have z1 := Q7.cell 1
  have z1f := Q7.frozen 1
  have HO := Lib.hid oA
  have HG := Lib.hid gA
  have HNA := Lib.hid hnA
  clear oA gA hnA
  refine hK.out _ _ ?_ (fun hHeld => ?_)
  · exact ⟨Q7.cell 1, P7.cell 0, P7.cell 1, P7.cell 2, P7.cell 3, P7.cell 4⟩
  clear hK K
  try simp only [Act.put, List.setIfInBounds_toArray, List.set_cons_zero, List.set_cons_succ]
  refine wpAnyH_take (i := 8) (oi := ⟨some 105, _, _, _, _, _⟩) (v := ?_) rfl (by kernel_rfl) (by kernel_rfl) (by kernel_rfl) (fun _ _ _ h => h) (Or.inl ⟨by kernel_rfl, ?_⟩) (by assumption) ?_
  rotate_left
  · intro w hSw
    go_simp
    try with_reducible rfl
  try simp only [Act.put, List.setIfInBounds_toArray, List.set_cons_zero, List.set_cons_succ]
  refine wpAnyH_take (i := 9) (oi := ⟨some 106, _, _, _, _, _⟩) (v := ?_) rfl (by kernel_rfl) (by kernel_rfl) (by kernel_rfl) (fun _ _ _ h => h) (Or.inl ⟨by kernel_rfl, ?_⟩) (by assumption) ?_
  rotate_left
  · intro w hSw
    go_simp
    try with_reducible rfl
  try simp only [Act.put, List.setIfInBounds_toArray, List.set_cons_zero, List.set_cons_succ]
  refine wpAnyH_done (by kernel_rfl) ?_ _
  refine lastPost_run (o := ⟨none, _, _, _, _, _⟩) rfl (fun K hK => ?_)
  go_simp
  refine hK.out _ _ ?_
  clear hK K
  have z2 := (Q7.set_ 1 (.slice a1 (nc + 1) c1)).cell 1
  have hn1 : nc ≤ 1300 := HLN.out
  clear z1 z1f Q7 P7 e0 p0 p1 p2 p3 p4 hHeld
  go_wp2_with fail
  go_ret
  have hnc := HNC.out
  subst hnc
  exact LayQEnd.last rfl (EP.out.done rfl HO.out HG.out HNA.out HRES.out) HRES.out
set_option maxRecDepth 100000 in
set_option maxHeartbeats 16000000 in
theorem c49one {base pb fb : Nat} {A : Option Addr} {c : Nat} {L : List Tm} {vo vv : Value} {O : List Part} {VR : List Nat} {g r n : Nat} {k : Int} {s : Ty} (hr : Rep (nodes L) g r n) (hd : Den (nodes L) r (Ty.one k s)) (hw : (Ty.one k s).wf) {W : World} (hL : LayQ W base pb fb A c L vo vv O VR) (hO : O.length ≤ 200) (hih : LayQIH base pb fb A c L s.size):
    Calls Tryd.prog 49 #[ptr fb, .int .i64 (g : Int)] W (LayQEnd base pb fb A c L vo vv O VR (Ty.one k s) W) := by
  have hkk := kids_kind hw
  obtain ⟨y, hy, hyk, hyt, _, hyc⟩ := hd.tm hr.isRoot hL.pool.ok
  have hr1 := hd.inL
  have hfew := hL.pool.few
  have hht := hd.ht_le
  have hvf := hL.few
  obtain ⟨ad, hA, hcs⟩ := hL.pool.rowAt hy
  subst hA
  have p0 := hL.pool.cell
  obtain ⟨Ao, co, rfl⟩ := own_form hL.out
  obtain ⟨Av, cv, rfl⟩ := own_form hL.vars
  have f0 := hL.blk.cell 0
  have f1 := hL.blk.cell 1
  have f2 := hL.blk.cell 2
  replace f0 : W.cell? ⟨fb, 0, none⟩ = some (ptr pb) := f0
  replace f1 : W.cell? ⟨fb, 1, none⟩ = some (.slice Ao O.length co) := f1
  replace f2 : W.cell? ⟨fb, 2, none⟩ = some (.slice Av VR.length cv) := f2
  have hlF := hL.blk.lt
  have HR := Lib.hid hr
  have HD := Lib.hid hd
  have HW := Lib.hid hw
  have HL := Lib.hid hL
  have HY := Lib.hid hy
  obtain ⟨yk, ya, yb, yt, ys⟩ := y
  have HCS := Lib.hid hcs
  clear hr hd hw hL hy hcs
  replace hyk : yk = k := hyk
  replace hyt : yt = [] := hyt
  subst hyk hyt
  replace hkk : kids yk = 1 := hkk
  have hk11 : yk ≠ 11 := by
    have := HW.out
    simp only [Ty.wf] at this
    omega
  have f11 : (yk == 11) = false := beq_false_of_ne hk11
  have HK11 := Lib.hid hk11
  have HKK := Lib.hid hkk
  have HO := Lib.hid hO
  have HI := Lib.hid hih
  obtain ⟨x, hya, hdx⟩ := hyc
  replace hya : ya = (x : Int) := hya
  subst hya
  have HX := Lib.hid hdx
  have hhs : s.ht + 1 < L.length := hht
  clear hkk hk11 hih hdx hht
  have hr0 : (0 : Int) ≤ (r : Int) := by omega
  have hrI : (r : Int) < (L.length : Int) := by omega
  have hOI : ¬ (200 : Int) < (O.length : Int) := by omega
  go_enter Tryd.func49, Tryd.ntmps49
  go_wp2_with fail
  refine (c54 HR.out HL.out.pool).mono ?_
  rintro e _ ⟨rfl, rfl⟩
  go_wp2_with (first | (refine wpList_load_at rfl 90 (.tmp 28) rfl (ad.add (r * 5)) rfl [.int .i64 yk, .int .i64 (x : Int), .int .i64 yb, strV [], .int .i64 ys] _ HCS.out Tryd.underlying90 rfl (by kernel_rfl) ?_))
  refine (c27 yk _).mono ?_
  rintro e w1 ⟨rfl, rfl⟩
  rw [HKK.out]
  go_upto_region 7 with fail
  have DP := Lib.hid (LayR.start HL.out ⟨yk, (x : Int), yb, [], ys⟩ ⟨yk, 0, 0, 0, []⟩)
  change Code.wp _ _ _ _ ((W.alloc (.cells (tmC ⟨yk, (x : Int), yb, [], ys⟩).toArray 90)).alloc (.cells (partC ⟨yk, 0, 0, 0, []⟩).toArray 29))
  generalize (W.alloc (.cells (tmC ⟨yk, (x : Int), yb, [], ys⟩).toArray 90)).alloc (.cells (partC ⟨yk, 0, 0, 0, []⟩).toArray 29) = w2 at DP ⊢
  generalize hpq : W.heap.size + 1 = pq at DP ⊢
  generalize W.heap.size = tq at DP ⊢
  clear hpq f0 f1 f2 p0 hlF
  have t0 := DP.out.tm.cell 0
  replace t0 : w2.cell? ⟨tq, 0, none⟩ = some (.int .i64 yk) := t0
  have t1 := DP.out.tm.cell 1
  replace t1 : w2.cell? ⟨tq, 1, none⟩ = some (.int .i64 (x : Int)) := t1
  have hc := HI.out s x _ _ _ O VR (Nat.le_refl _) HW.out.2 HX.out DP.out.lay (by have := HO.out; omega)
  have HC := Lib.hid hc
  clear hc
  go_wp2_with fail
  refine HC.out.mono ?_
  rintro e w3 ⟨r1, rfl, hpost, hr1'⟩
  obtain ⟨vo1, vv1, O1, VR1, hl1, hres1⟩ := DP.out.laid hpost
  have hb1 := hl1.blk.frozen 1
  have hc1 := hl1.blk.cell 1
  replace hc1 : w3.cell? ⟨pq, 1, none⟩ = some (.int .i64 0) := hc1
  have DP1 := Lib.hid (hl1.setp (i := 1) (u := .int .i64 r1) (q := ⟨yk, r1, 0, 0, []⟩) rfl)
  have HRES1 := Lib.hid hres1
  have HRR1 := Lib.hid hr1'
  clear hpost hl1 hres1 hr1' HC t0 t1 DP
  go_upto_region 16 with fail
  generalize w3.setCell ⟨pq, 1, none⟩ (.int .i64 r1) = w4 at DP1 ⊢
  have DP := DP1
  clear DP1 hb1 hc1
  have EP := Lib.hid (DP.out.next (Below.drew (Below.refl _ _)))
  have e0 := EP.out.lay.blk.cell 1
  have p0 := EP.out.blk.cell 0
  have p1 := EP.out.blk.cell 1
  have p2 := EP.out.blk.cell 2
  have p3 := EP.out.blk.cell 3
  have p4 := EP.out.blk.cell 4
  obtain ⟨Ac, cc, rfl⟩ := own_form EP.out.lay.out
  replace p0 : w4.drew.cell? ⟨pq, 0, none⟩ = some (.int .i64 yk) := p0
  replace p1 : w4.drew.cell? ⟨pq, 1, none⟩ = some (.int .i64 r1) := p1
  replace p2 : w4.drew.cell? ⟨pq, 2, none⟩ = some (.int .i64 0) := p2
  replace p3 : w4.drew.cell? ⟨pq, 3, none⟩ = some (.int .i64 0) := p3
  replace p4 : w4.drew.cell? ⟨pq, 4, none⟩ = some (strV []) := p4
  obtain ⟨i29, fi29, hz0, hz1, hz2⟩ := info_parts part_info
  have HLN := Lib.hid (show O1.length ≤ 1300 from by have := HRES1.out.2.2; have := HO.out; omega)
  have HRES := Lib.hid (LayRes.one HK11.out HO.out HRES1.out HRR1.out)
  generalize hnc : O1.length = nc at EP HLN e0 ⊢
  replace e0 : w4.drew.cell? ⟨fb, 1, none⟩ = some (.slice Ac nc cc) := e0
  have HNC := Lib.hid hnc
  clear hnc
  go_upto_region 16 with fail
  refine wp_region_last (S := fun V => V.cell? ⟨fb, 1, none⟩ = some (.slice Ac nc cc) ∧ V.cell? ⟨pq, 0, none⟩ = some (.int .i64 yk) ∧ V.cell? ⟨pq, 1, none⟩ = some (.int .i64 r1) ∧ V.cell? ⟨pq, 2, none⟩ = some (.int .i64 0) ∧ V.cell? ⟨pq, 3, none⟩ = some (.int .i64 0) ∧ V.cell? ⟨pq, 4, none⟩ = some (strV [])) 10 (by kernel_rfl) (by kernel_rfl) (by kernel_rfl) (by kernel_rfl) ⟨e0, p0, p1, p2, p3, p4⟩ (fun hHeld => ?_)
  generalize w4.drew = d at EP hHeld ⊢
  refine wpAnyH_take (i := 0) (oi := ⟨some 97, _, _, _, _, _⟩) (v := ?_) rfl (by kernel_rfl) (by kernel_rfl) (by kernel_rfl) (fun _ _ _ h => h) (Or.inl ⟨by kernel_rfl, ?_⟩) (by assumption) ?_
  rotate_left
  · intro w hSw
    go_simp
    try with_reducible rfl
  try simp only [Act.put, List.setIfInBounds_toArray, List.set_cons_zero, List.set_cons_succ]
  refine wpAnyH_take (i := 1) (oi := ⟨some 98, _, _, _, _, _⟩) (v := ?_) rfl (by kernel_rfl) (by kernel_rfl) (by kernel_rfl) (fun _ _ _ h => h) (Or.inl ⟨by kernel_rfl, ?_⟩) (by assumption) ?_
  rotate_left
  · intro w hSw
    go_simp
    try with_reducible rfl
  try simp only [Act.put, List.setIfInBounds_toArray, List.set_cons_zero, List.set_cons_succ]
  refine wpAnyH_take (i := 2) (oi := ⟨some 99, _, _, _, _, _⟩) (v := ?_) rfl (by kernel_rfl) (by kernel_rfl) (by kernel_rfl) (fun _ _ _ h => h) (Or.inl ⟨by kernel_rfl, ?_⟩) (by assumption) ?_
  rotate_left
  · intro w hSw
    go_simp
    try with_reducible rfl
  try simp only [Act.put, List.setIfInBounds_toArray, List.set_cons_zero, List.set_cons_succ]
  refine wpAnyH_take (i := 3) (oi := ⟨some 100, _, _, _, _, _⟩) (v := ?_) rfl (by kernel_rfl) (by kernel_rfl) (by kernel_rfl) (fun _ _ _ h => h) (Or.inl ⟨by kernel_rfl, ?_⟩) (by assumption) ?_
  rotate_left
  · intro w hSw
    go_simp
    try with_reducible rfl
  try simp only [Act.put, List.setIfInBounds_toArray, List.set_cons_zero, List.set_cons_succ]
  refine wpAnyH_take (i := 4) (oi := ⟨some 101, _, _, _, _, _⟩) (v := ?_) rfl (by kernel_rfl) (by kernel_rfl) (by kernel_rfl) (fun _ _ _ h => h) (Or.inl ⟨by kernel_rfl, ?_⟩) (by assumption) ?_
  rotate_left
  · intro w hSw
    go_simp
    try with_reducible rfl
  try simp only [Act.put, List.setIfInBounds_toArray, List.set_cons_zero, List.set_cons_succ]
  refine wpAnyH_take (i := 5) (oi := ⟨some 102, _, _, _, _, _⟩) (v := ?_) rfl (by kernel_rfl) (by kernel_rfl) (by kernel_rfl) (fun _ _ _ h => h) (Or.inl ⟨by kernel_rfl, ?_⟩) (by assumption) ?_
  rotate_left
  · intro w hSw
    go_simp
    try with_reducible rfl
  try simp only [Act.put, List.setIfInBounds_toArray, List.set_cons_zero, List.set_cons_succ]
  refine wpAnyH_ready (rs := [6]) (by kernel_rfl) (by simp) ?_
  refine AllReadyH.cons (o := ⟨some 103, _, _, _, _, _⟩) rfl (fun K hK => ?_) AllReadyH.nil
  go_simp
  refine hK.out _ _ ?_ (fun hHeld => ?_)
  · exact (have E6 := EP.out.next (below_new _ _); ⟨E6.lay.blk.cell 1, E6.blk.cell 0, E6.blk.cell 1, E6.blk.cell 2, E6.blk.cell 3, E6.blk.cell 4⟩)
  clear hK K
  try simp only [Act.put, List.setIfInBounds_toArray, List.set_cons_zero, List.set_cons_succ]
  have E6 := EP.out.next (below_new _ (.cells (partC ⟨yk, r1, 0, 0, []⟩).toArray 29))
  have E6o := Lib.hid (HNC.out ▸ E6.lay.out : (d.alloc (.cells (partC ⟨yk, r1, 0, 0, []⟩).toArray 29)).ownsRow base 29 5 (.slice Ac nc cc) nc (O1.flatMap partC))
  have E6b := Lib.hid E6.blk
  have E6q := Lib.hid E6.lay.blk
  have E6s := Lib.hid (show base ≤ (d.alloc (.cells (partC ⟨yk, r1, 0, 0, []⟩).toArray 29)).heap.size from Nat.le_of_lt (Nat.lt_of_le_of_lt E6.lay.fbb E6.lay.blk.lt))
  have E6n := Lib.hid E6.ne
  clear E6
  refine wpAnyH_ready (rs := [7]) (by kernel_rfl) (by simp) ?_
  refine AllReadyH.cons (o := ⟨some 104, _, _, _, _, _⟩) rfl (fun K hK => ?_) AllReadyH.nil
  refine step_append_any _ (by rfl) (.tmp 101) (.tmp 103) 23 (by rfl) base 29 i29 _ 5 48 Tryd.underlying23 fi29 hz0 hz1 hz2 rfl (by omega) (.slice Ac nc cc) nc (O1.flatMap partC) (by rfl) E6o.out (d.heap.size + 1) (some ⟨d.heap.size, 0, none⟩) 1 1 (partC ⟨yk, r1, 0, 0, []⟩) (by rfl) (reads_blkN (Blk.new d 29 (partC ⟨yk, r1, 0, 0, []⟩).toArray) rfl) (by simp [partC, Value.oneCell']) (by unfold maxLen; have := HLN.out; omega) (by have := HLN.out; omega) E6s.out ?_
  intro v1 w7 oA gA hnA
  obtain ⟨a1, c1, rfl⟩ := own_form oA
  have Q7 := E6q.out.grown gA (fun e => own_blk_ne E6o.out E6q.out (by decide) e.symm)
  have P7 : Blk w7 pq 29 (partC ⟨yk, r1, 0, 0, []⟩).toArray := E6b.out.grown gA (fun e => E6n.out pq e.symm rfl)
  have z1 := Q7.cell 1
  have z1f := Q7.frozen 1
  have HO := Lib.hid oA
  have HG := Lib.hid gA
  have HNA := Lib.hid hnA
  clear oA gA hnA
  refine hK.out _ _ ?_ (fun hHeld => ?_)
  · exact ⟨Q7.cell 1, P7.cell 0, P7.cell 1, P7.cell 2, P7.cell 3, P7.cell 4⟩
  clear hK K
  try simp only [Act.put, List.setIfInBounds_toArray, List.set_cons_zero, List.set_cons_succ]
  refine wpAnyH_take (i := 8) (oi := ⟨some 105, _, _, _, _, _⟩) (v := ?_) rfl (by kernel_rfl) (by kernel_rfl) (by kernel_rfl) (fun _ _ _ h => h) (Or.inl ⟨by kernel_rfl, ?_⟩) (by assumption) ?_
  rotate_left
  · intro w hSw
    go_simp
    try with_reducible rfl
  try simp only [Act.put, List.setIfInBounds_toArray, List.set_cons_zero, List.set_cons_succ]
  refine wpAnyH_take (i := 9) (oi := ⟨some 106, _, _, _, _, _⟩) (v := ?_) rfl (by kernel_rfl) (by kernel_rfl) (by kernel_rfl) (fun _ _ _ h => h) (Or.inl ⟨by kernel_rfl, ?_⟩) (by assumption) ?_
  rotate_left
  · intro w hSw
    go_simp
    try with_reducible rfl
  try simp only [Act.put, List.setIfInBounds_toArray, List.set_cons_zero, List.set_cons_succ]
  refine wpAnyH_done (by kernel_rfl) ?_ _
  refine lastPost_run (o := ⟨none, _, _, _, _, _⟩) rfl (fun K hK => ?_)
  go_simp
  refine hK.out _ _ ?_
  clear hK K
  have z2 := (Q7.set_ 1 (.slice a1 (nc + 1) c1)).cell 1
  have hn1 : nc ≤ 1300 := HLN.out
  clear z1 z1f Q7 P7 e0 p0 p1 p2 p3 p4 hHeld
  go_wp2_with fail
  go_ret
  have hnc := HNC.out
  subst hnc
  exact LayQEnd.last rfl (EP.out.done rfl HO.out HG.out HNA.out HRES.out) HRES.out
set_option maxRecDepth 100000 in
set_option maxHeartbeats 16000000 in
theorem c49two {base pb fb : Nat} {A : Option Addr} {c : Nat} {L : List Tm} {vo vv : Value} {O : List Part} {VR : List Nat} {g r n : Nat} {k : Int} {s u : Ty} (hr : Rep (nodes L) g r n) (hd : Den (nodes L) r (Ty.two k s u)) (hw : (Ty.two k s u).wf) {W : World} (hL : LayQ W base pb fb A c L vo vv O VR) (hO : O.length ≤ 200) (hih : LayQIH base pb fb A c L (max s.size u.size)):
    Calls Tryd.prog 49 #[ptr fb, .int .i64 (g : Int)] W (LayQEnd base pb fb A c L vo vv O VR (Ty.two k s u) W) := by
  have hkk := kids_kind hw
  obtain ⟨y, hy, hyk, hyt, _, hyc⟩ := hd.tm hr.isRoot hL.pool.ok
  have hr1 := hd.inL
  have hfew := hL.pool.few
  have hht := hd.ht_le
  have hvf := hL.few
  obtain ⟨ad, hA, hcs⟩ := hL.pool.rowAt hy
  subst hA
  have p0 := hL.pool.cell
  obtain ⟨Ao, co, rfl⟩ := own_form hL.out
  obtain ⟨Av, cv, rfl⟩ := own_form hL.vars
  have f0 := hL.blk.cell 0
  have f1 := hL.blk.cell 1
  have f2 := hL.blk.cell 2
  replace f0 : W.cell? ⟨fb, 0, none⟩ = some (ptr pb) := f0
  replace f1 : W.cell? ⟨fb, 1, none⟩ = some (.slice Ao O.length co) := f1
  replace f2 : W.cell? ⟨fb, 2, none⟩ = some (.slice Av VR.length cv) := f2
  have hlF := hL.blk.lt
  have HR := Lib.hid hr
  have HD := Lib.hid hd
  have HW := Lib.hid hw
  have HL := Lib.hid hL
  have HY := Lib.hid hy
  obtain ⟨yk, ya, yb, yt, ys⟩ := y
  have HCS := Lib.hid hcs
  clear hr hd hw hL hy hcs
  replace hyk : yk = k := hyk
  replace hyt : yt = [] := hyt
  subst hyk hyt
  replace hkk : kids yk = 2 := hkk
  have hk11 : yk ≠ 11 := by
    have := HW.out
    simp only [Ty.wf] at this
    omega
  have f11 : (yk == 11) = false := beq_false_of_ne hk11
  have HK11 := Lib.hid hk11
  have HKK := Lib.hid hkk
  have HO := Lib.hid hO
  have HI := Lib.hid hih
  obtain ⟨x, z, hya, hyb, hdx, hdz⟩ := hyc
  replace hya : ya = (x : Int) := hya
  replace hyb : yb = (z : Int) := hyb
  subst hya hyb
  have HX := Lib.hid hdx
  have HZ := Lib.hid hdz
  have hhs : max s.ht u.ht + 1 < L.length := hht
  clear hkk hk11 hih hdx hdz hht
  have hr0 : (0 : Int) ≤ (r : Int) := by omega
  have hrI : (r : Int) < (L.length : Int) := by omega
  have hOI : ¬ (200 : Int) < (O.length : Int) := by omega
  go_enter Tryd.func49, Tryd.ntmps49
  go_wp2_with fail
  refine (c54 HR.out HL.out.pool).mono ?_
  rintro e _ ⟨rfl, rfl⟩
  go_wp2_with (first | (refine wpList_load_at rfl 90 (.tmp 28) rfl (ad.add (r * 5)) rfl [.int .i64 yk, .int .i64 (x : Int), .int .i64 (z : Int), strV [], .int .i64 ys] _ HCS.out Tryd.underlying90 rfl (by kernel_rfl) ?_))
  refine (c27 yk _).mono ?_
  rintro e w1 ⟨rfl, rfl⟩
  rw [HKK.out]
  go_upto_region 7 with fail
  have DP := Lib.hid (LayR.start HL.out ⟨yk, (x : Int), (z : Int), [], ys⟩ ⟨yk, 0, 0, 0, []⟩)
  change Code.wp _ _ _ _ ((W.alloc (.cells (tmC ⟨yk, (x : Int), (z : Int), [], ys⟩).toArray 90)).alloc (.cells (partC ⟨yk, 0, 0, 0, []⟩).toArray 29))
  generalize (W.alloc (.cells (tmC ⟨yk, (x : Int), (z : Int), [], ys⟩).toArray 90)).alloc (.cells (partC ⟨yk, 0, 0, 0, []⟩).toArray 29) = w2 at DP ⊢
  generalize hpq : W.heap.size + 1 = pq at DP ⊢
  generalize W.heap.size = tq at DP ⊢
  clear hpq f0 f1 f2 p0 hlF
  have t0 := DP.out.tm.cell 0
  replace t0 : w2.cell? ⟨tq, 0, none⟩ = some (.int .i64 yk) := t0
  have t1 := DP.out.tm.cell 1
  replace t1 : w2.cell? ⟨tq, 1, none⟩ = some (.int .i64 (x : Int)) := t1
  have hc := HI.out s x _ _ _ O VR (Nat.le_max_left _ _) HW.out.2.1 HX.out DP.out.lay (by have := HO.out; omega)
  have HC := Lib.hid hc
  clear hc
  go_wp2_with fail
  refine HC.out.mono ?_
  rintro e w3 ⟨r1, rfl, hpost, hr1'⟩
  obtain ⟨vo1, vv1, O1, VR1, hl1, hres1⟩ := DP.out.laid hpost
  have hb1 := hl1.blk.frozen 1
  have hc1 := hl1.blk.cell 1
  replace hc1 : w3.cell? ⟨pq, 1, none⟩ = some (.int .i64 0) := hc1
  have DP1 := Lib.hid (hl1.setp (i := 1) (u := .int .i64 r1) (q := ⟨yk, r1, 0, 0, []⟩) rfl)
  have HRES1 := Lib.hid hres1
  have HRR1 := Lib.hid hr1'
  clear hpost hl1 hres1 hr1' HC t0 t1 DP
  go_upto_region 14 with fail
  generalize w3.setCell ⟨pq, 1, none⟩ (.int .i64 r1) = w4 at DP1 ⊢
  clear hb1 hc1
  have t2 := DP1.out.tm.cell 2
  replace t2 : w4.cell? ⟨tq, 2, none⟩ = some (.int .i64 (z : Int)) := t2
  have hc := HI.out u z _ _ _ O1 VR1 (Nat.le_max_right _ _) HW.out.2.2 HZ.out DP1.out.lay (by have := HRES1.out.2.2; have := HO.out; omega)
  have HC := Lib.hid hc
  clear hc
  go_wp2_with fail
  refine HC.out.mono ?_
  rintro e w5 ⟨r2, rfl, hpost, hr2'⟩
  obtain ⟨vo2, vv2, O2, VR2, hl2, hres2⟩ := DP1.out.laid hpost
  have hb2 := hl2.blk.frozen 2
  have hc2 := hl2.blk.cell 2
  replace hc2 : w5.cell? ⟨pq, 2, none⟩ = some (.int .i64 0) := hc2
  have DP2 := Lib.hid (hl2.setp (i := 2) (u := .int .i64 r2) (q := ⟨yk, r1, r2, 0, []⟩) rfl)
  have HRES2 := Lib.hid hres2
  have HRR2 := Lib.hid hr2'
  clear hpost hl2 hres2 hr2' HC t2 DP1
  go_upto_region 16 with fail
  generalize w5.setCell ⟨pq, 2, none⟩ (.int .i64 r2) = w6 at DP2 ⊢
  have DP := DP2
  clear DP2 hb2 hc2
  have EP := Lib.hid (DP.out.next (Below.drew (Below.refl _ _)))
  have e0 := EP.out.lay.blk.cell 1
  have p0 := EP.out.blk.cell 0
  have p1 := EP.out.blk.cell 1
  have p2 := EP.out.blk.cell 2
  have p3 := EP.out.blk.cell 3
  have p4 := EP.out.blk.cell 4
  obtain ⟨Ac, cc, rfl⟩ := own_form EP.out.lay.out
  replace p0 : w6.drew.cell? ⟨pq, 0, none⟩ = some (.int .i64 yk) := p0
  replace p1 : w6.drew.cell? ⟨pq, 1, none⟩ = some (.int .i64 r1) := p1
  replace p2 : w6.drew.cell? ⟨pq, 2, none⟩ = some (.int .i64 r2) := p2
  replace p3 : w6.drew.cell? ⟨pq, 3, none⟩ = some (.int .i64 0) := p3
  replace p4 : w6.drew.cell? ⟨pq, 4, none⟩ = some (strV []) := p4
  obtain ⟨i29, fi29, hz0, hz1, hz2⟩ := info_parts part_info
  have HLN := Lib.hid (show O2.length ≤ 1300 from by have := HRES1.out.2.2; have := HRES2.out.2.2; have := HO.out; omega)
  have HRES := Lib.hid (LayRes.two HK11.out HO.out HRES1.out HRR1.out HRES2.out HRR2.out)
  generalize hnc : O2.length = nc at EP HLN e0 ⊢
  replace e0 : w6.drew.cell? ⟨fb, 1, none⟩ = some (.slice Ac nc cc) := e0
  have HNC := Lib.hid hnc
  clear hnc
  go_upto_region 16 with fail
  refine wp_region_last (S := fun V => V.cell? ⟨fb, 1, none⟩ = some (.slice Ac nc cc) ∧ V.cell? ⟨pq, 0, none⟩ = some (.int .i64 yk) ∧ V.cell? ⟨pq, 1, none⟩ = some (.int .i64 r1) ∧ V.cell? ⟨pq, 2, none⟩ = some (.int .i64 r2) ∧ V.cell? ⟨pq, 3, none⟩ = some (.int .i64 0) ∧ V.cell? ⟨pq, 4, none⟩ = some (strV [])) 10 (by kernel_rfl) (by kernel_rfl) (by kernel_rfl) (by kernel_rfl) ⟨e0, p0, p1, p2, p3, p4⟩ (fun hHeld => ?_)
  generalize w6.drew = d at EP hHeld ⊢
  refine wpAnyH_take (i := 0) (oi := ⟨some 97, _, _, _, _, _⟩) (v := ?_) rfl (by kernel_rfl) (by kernel_rfl) (by kernel_rfl) (fun _ _ _ h => h) (Or.inl ⟨by kernel_rfl, ?_⟩) (by assumption) ?_
  rotate_left
  · intro w hSw
    go_simp
    try with_reducible rfl
  try simp only [Act.put, List.setIfInBounds_toArray, List.set_cons_zero, List.set_cons_succ]
  refine wpAnyH_take (i := 1) (oi := ⟨some 98, _, _, _, _, _⟩) (v := ?_) rfl (by kernel_rfl) (by kernel_rfl) (by kernel_rfl) (fun _ _ _ h => h) (Or.inl ⟨by kernel_rfl, ?_⟩) (by assumption) ?_
  rotate_left
  · intro w hSw
    go_simp
    try with_reducible rfl
  try simp only [Act.put, List.setIfInBounds_toArray, List.set_cons_zero, List.set_cons_succ]
  refine wpAnyH_take (i := 2) (oi := ⟨some 99, _, _, _, _, _⟩) (v := ?_) rfl (by kernel_rfl) (by kernel_rfl) (by kernel_rfl) (fun _ _ _ h => h) (Or.inl ⟨by kernel_rfl, ?_⟩) (by assumption) ?_
  rotate_left
  · intro w hSw
    go_simp
    try with_reducible rfl
  try simp only [Act.put, List.setIfInBounds_toArray, List.set_cons_zero, List.set_cons_succ]
  refine wpAnyH_take (i := 3) (oi := ⟨some 100, _, _, _, _, _⟩) (v := ?_) rfl (by kernel_rfl) (by kernel_rfl) (by kernel_rfl) (fun _ _ _ h => h) (Or.inl ⟨by kernel_rfl, ?_⟩) (by assumption) ?_
  rotate_left
  · intro w hSw
    go_simp
    try with_reducible rfl
  try simp only [Act.put, List.setIfInBounds_toArray, List.set_cons_zero, List.set_cons_succ]
  refine wpAnyH_take (i := 4) (oi := ⟨some 101, _, _, _, _, _⟩) (v := ?_) rfl (by kernel_rfl) (by kernel_rfl) (by kernel_rfl) (fun _ _ _ h => h) (Or.inl ⟨by kernel_rfl, ?_⟩) (by assumption) ?_
  rotate_left
  · intro w hSw
    go_simp
    try with_reducible rfl
  try simp only [Act.put, List.setIfInBounds_toArray, List.set_cons_zero, List.set_cons_succ]
  refine wpAnyH_take (i := 5) (oi := ⟨some 102, _, _, _, _, _⟩) (v := ?_) rfl (by kernel_rfl) (by kernel_rfl) (by kernel_rfl) (fun _ _ _ h => h) (Or.inl ⟨by kernel_rfl, ?_⟩) (by assumption) ?_
  rotate_left
  · intro w hSw
    go_simp
    try with_reducible rfl
  try simp only [Act.put, List.setIfInBounds_toArray, List.set_cons_zero, List.set_cons_succ]
  refine wpAnyH_ready (rs := [6]) (by kernel_rfl) (by simp) ?_
  refine AllReadyH.cons (o := ⟨some 103, _, _, _, _, _⟩) rfl (fun K hK => ?_) AllReadyH.nil
  go_simp
  refine hK.out _ _ ?_ (fun hHeld => ?_)
  · exact (have E6 := EP.out.next (below_new _ _); ⟨E6.lay.blk.cell 1, E6.blk.cell 0, E6.blk.cell 1, E6.blk.cell 2, E6.blk.cell 3, E6.blk.cell 4⟩)
  clear hK K
  try simp only [Act.put, List.setIfInBounds_toArray, List.set_cons_zero, List.set_cons_succ]
  have E6 := EP.out.next (below_new _ (.cells (partC ⟨yk, r1, r2, 0, []⟩).toArray 29))
  have E6o := Lib.hid (HNC.out ▸ E6.lay.out : (d.alloc (.cells (partC ⟨yk, r1, r2, 0, []⟩).toArray 29)).ownsRow base 29 5 (.slice Ac nc cc) nc (O2.flatMap partC))
  have E6b := Lib.hid E6.blk
  have E6q := Lib.hid E6.lay.blk
  have E6s := Lib.hid (show base ≤ (d.alloc (.cells (partC ⟨yk, r1, r2, 0, []⟩).toArray 29)).heap.size from Nat.le_of_lt (Nat.lt_of_le_of_lt E6.lay.fbb E6.lay.blk.lt))
  have E6n := Lib.hid E6.ne
  clear E6
  refine wpAnyH_ready (rs := [7]) (by kernel_rfl) (by simp) ?_
  refine AllReadyH.cons (o := ⟨some 104, _, _, _, _, _⟩) rfl (fun K hK => ?_) AllReadyH.nil
  refine step_append_any _ (by rfl) (.tmp 101) (.tmp 103) 23 (by rfl) base 29 i29 _ 5 48 Tryd.underlying23 fi29 hz0 hz1 hz2 rfl (by omega) (.slice Ac nc cc) nc (O2.flatMap partC) (by rfl) E6o.out (d.heap.size + 1) (some ⟨d.heap.size, 0, none⟩) 1 1 (partC ⟨yk, r1, r2, 0, []⟩) (by rfl) (reads_blkN (Blk.new d 29 (partC ⟨yk, r1, r2, 0, []⟩).toArray) rfl) (by simp [partC, Value.oneCell']) (by unfold maxLen; have := HLN.out; omega) (by have := HLN.out; omega) E6s.out ?_
  intro v1 w7 oA gA hnA
  obtain ⟨a1, c1, rfl⟩ := own_form oA
  have Q7 := E6q.out.grown gA (fun e => own_blk_ne E6o.out E6q.out (by decide) e.symm)
  have P7 : Blk w7 pq 29 (partC ⟨yk, r1, r2, 0, []⟩).toArray := E6b.out.grown gA (fun e => E6n.out pq e.symm rfl)
  have z1 := Q7.cell 1
  have z1f := Q7.frozen 1
  have HO := Lib.hid oA
  have HG := Lib.hid gA
  have HNA := Lib.hid hnA
  clear oA gA hnA
  refine hK.out _ _ ?_ (fun hHeld => ?_)
  · exact ⟨Q7.cell 1, P7.cell 0, P7.cell 1, P7.cell 2, P7.cell 3, P7.cell 4⟩
  clear hK K
  try simp only [Act.put, List.setIfInBounds_toArray, List.set_cons_zero, List.set_cons_succ]
  refine wpAnyH_take (i := 8) (oi := ⟨some 105, _, _, _, _, _⟩) (v := ?_) rfl (by kernel_rfl) (by kernel_rfl) (by kernel_rfl) (fun _ _ _ h => h) (Or.inl ⟨by kernel_rfl, ?_⟩) (by assumption) ?_
  rotate_left
  · intro w hSw
    go_simp
    try with_reducible rfl
  try simp only [Act.put, List.setIfInBounds_toArray, List.set_cons_zero, List.set_cons_succ]
  refine wpAnyH_take (i := 9) (oi := ⟨some 106, _, _, _, _, _⟩) (v := ?_) rfl (by kernel_rfl) (by kernel_rfl) (by kernel_rfl) (fun _ _ _ h => h) (Or.inl ⟨by kernel_rfl, ?_⟩) (by assumption) ?_
  rotate_left
  · intro w hSw
    go_simp
    try with_reducible rfl
  try simp only [Act.put, List.setIfInBounds_toArray, List.set_cons_zero, List.set_cons_succ]
  refine wpAnyH_done (by kernel_rfl) ?_ _
  refine lastPost_run (o := ⟨none, _, _, _, _, _⟩) rfl (fun K hK => ?_)
  go_simp
  refine hK.out _ _ ?_
  clear hK K
  have z2 := (Q7.set_ 1 (.slice a1 (nc + 1) c1)).cell 1
  have hn1 : nc ≤ 1300 := HLN.out
  clear z1 z1f Q7 P7 e0 p0 p1 p2 p3 p4 hHeld
  go_wp2_with fail
  go_ret
  have hnc := HNC.out
  subst hnc
  exact LayQEnd.last rfl (EP.out.done rfl HO.out HG.out HNA.out HRES.out) HRES.out
set_option maxRecDepth 100000 in
set_option maxHeartbeats 16000000 in
theorem c49var {base pb fb : Nat} {A : Option Addr} {c : Nat} {L : List Tm} {vo vv : Value} {O : List Part} {VR : List Nat} {g r n : Nat}  (hr : Rep (nodes L) g r n) (hd : Den (nodes L) r (Ty.var r)) (hw : (Ty.var r).wf) {W : World} (hL : LayQ W base pb fb A c L vo vv O VR) (hO : O.length ≤ 200) :
    Calls Tryd.prog 49 #[ptr fb, .int .i64 (g : Int)] W (LayQEnd base pb fb A c L vo vv O VR (Ty.var r) W) := by
  have hkk := kids_kind hw
  obtain ⟨y, hy, hyk, hyt, _, hyc⟩ := hd.tm hr.isRoot hL.pool.ok
  have hr1 := hd.inL
  have hfew := hL.pool.few
  have hht := hd.ht_le
  have hvf := hL.few
  obtain ⟨ad, hA, hcs⟩ := hL.pool.rowAt hy
  subst hA
  have p0 := hL.pool.cell
  obtain ⟨Ao, co, rfl⟩ := own_form hL.out
  obtain ⟨Av, cv, rfl⟩ := own_form hL.vars
  have f0 := hL.blk.cell 0
  have f1 := hL.blk.cell 1
  have f2 := hL.blk.cell 2
  replace f0 : W.cell? ⟨fb, 0, none⟩ = some (ptr pb) := f0
  replace f1 : W.cell? ⟨fb, 1, none⟩ = some (.slice Ao O.length co) := f1
  replace f2 : W.cell? ⟨fb, 2, none⟩ = some (.slice Av VR.length cv) := f2
  have hlF := hL.blk.lt
  have HR := Lib.hid hr
  have HD := Lib.hid hd
  have HW := Lib.hid hw
  have HL := Lib.hid hL
  have HY := Lib.hid hy
  obtain ⟨yk, ya, yb, yt, ys⟩ := y
  have HCS := Lib.hid hcs
  clear hr hd hw hL hy hcs
  replace hyk : yk = 11 := hyk
  replace hyt : yt = [] := hyt
  subst hyk hyt
  replace hkk : kids 11 = 0 := hkk
  have HKK := Lib.hid hkk
  have HO := Lib.hid hO
  clear hkk hyc
  have hr0 : (0 : Int) ≤ (r : Int) := by omega
  have hrI : (r : Int) < (L.length : Int) := by omega
  have hOI : ¬ (200 : Int) < (O.length : Int) := by omega
  go_enter Tryd.func49, Tryd.ntmps49
  go_wp2_with fail
  refine (c54 HR.out HL.out.pool).mono ?_
  rintro e _ ⟨rfl, rfl⟩
  go_wp2_with (first | (refine wpList_load_at rfl 90 (.tmp 28) rfl (ad.add (r * 5)) rfl [.int .i64 11, .int .i64 ya, .int .i64 yb, strV [], .int .i64 ys] _ HCS.out Tryd.underlying90 rfl (by kernel_rfl) ?_))
  refine (c27 11 _).mono ?_
  rintro e w1 ⟨rfl, rfl⟩
  rw [HKK.out]
  go_upto_region 7 with fail
  have DP := Lib.hid (LayR.start HL.out ⟨11, ya, yb, [], ys⟩ ⟨11, 0, 0, 0, []⟩)
  change Code.wp _ _ _ _ ((W.alloc (.cells (tmC ⟨11, ya, yb, [], ys⟩).toArray 90)).alloc (.cells (partC ⟨11, 0, 0, 0, []⟩).toArray 29))
  generalize (W.alloc (.cells (tmC ⟨11, ya, yb, [], ys⟩).toArray 90)).alloc (.cells (partC ⟨11, 0, 0, 0, []⟩).toArray 29) = w2 at DP ⊢
  generalize hpq : W.heap.size + 1 = pq at DP ⊢
  generalize W.heap.size = tq at DP ⊢
  clear hpq f0 f1 f2 p0 hlF
  have t0 := DP.out.tm.cell 0
  replace t0 : w2.cell? ⟨tq, 0, none⟩ = some (.int .i64 11) := t0
  go_wp2_with fail
  go_loopw [] (fun wr => ∃ j : Nat, j ≤ VR.length ∧ r ∉ VR.take j ∧ LayR W wr base pb fb (some ad) c L (.slice Ao O.length co) (.slice Av VR.length cv) (.slice Ao O.length co) (.slice Av VR.length cv) O VR pq ⟨11, 0, 0, (j : Int), []⟩ tq ⟨11, ya, yb, [], ys⟩) (fun wr => VR.length - (match wr.cell? ⟨pq, 3, none⟩ with | some (.int _ a) => a.toNat | _ => 0))
  case atStart => exact ⟨0, by omega, by simp, DP.out⟩
  case round =>
    obtain ⟨j, hj, hnj, hlr⟩ := hrel
    have DPj := Lib.hid hlr
    have HNJ := Lib.hid hnj
    have n3 := hlr.blk.cell 3
    replace n3 : wr.cell? ⟨pq, 3, none⟩ = some (.int .i64 (j : Int)) := n3
    have n3f := hlr.blk.frozen 3
    have npl := hlr.blk.lt
    have v2 := hlr.lay.blk.cell 2
    replace v2 : wr.cell? ⟨fb, 2, none⟩ = some (.slice Av VR.length cv) := v2
    clear hlr hnj t0 DP
    by_cases hjl : j < VR.length
    · have hjI : (j : Int) < (VR.length : Int) := by omega
      have hj0 : (0 : Int) ≤ (j : Int) := by omega
      have hvj : VR[j]? = some VR[j] := List.getElem?_eq_getElem hjl
      have HTK := Lib.hid (show VR.take (j + 1) = VR.take j ++ [VR[j]] by rw [List.take_add_one, hvj]; rfl)
      obtain ⟨adv, hAv, a0, _⟩ := intAtQ DPj.out.lay.vars (j := j) (u := natV VR[j]) (by rw [List.getElem?_map, hvj]; rfl)
      subst hAv
      generalize hx : VR[j] = x at a0 HTK hvj
      replace a0 : wr.cell? (adv.add j) = some (.int .i64 (x : Int)) := a0
      clear hx
      by_cases hxr : x = r
      · subst hxr
        have fr : ((x : Int) != (x : Int)) = false := bne_self_eq_false ..
        have HVJ := Lib.hid hvj
        clear hvj
        go_wp2_with fail
        go_quiet (fail)
        have EPj := Lib.hid (DPj.out.drewN nq)
        generalize wr.drewN nq = wy at EPj ⊢
        have n3 := EPj.out.blk.cell 3
        replace n3 : wy.cell? ⟨pq, 3, none⟩ = some (.int .i64 (j : Int)) := n3
        have v2 := EPj.out.lay.blk.cell 2
        replace v2 : wy.cell? ⟨fb, 2, none⟩ = some (.slice (some adv) VR.length cv) := v2
        have hne : ((j : Int) == (VR.length : Int)) = false := beq_false_of_ne (by omega)
        go_wp2_with fail
        go_quiet (fail)
        have DP := Lib.hid (EPj.out.drewN nq)
        generalize wy.drewN nq = w3 at DP ⊢
        clear n3 v2 n3f npl a0 EPj
        have EP := Lib.hid (DP.out.next (Below.drew (Below.refl _ _)))
        have e0 := EP.out.lay.blk.cell 1
        have p0 := EP.out.blk.cell 0
        have p1 := EP.out.blk.cell 1
        have p2 := EP.out.blk.cell 2
        have p3 := EP.out.blk.cell 3
        have p4 := EP.out.blk.cell 4
        replace p0 : w3.drew.cell? ⟨pq, 0, none⟩ = some (.int .i64 11) := p0
        replace p1 : w3.drew.cell? ⟨pq, 1, none⟩ = some (.int .i64 0) := p1
        replace p2 : w3.drew.cell? ⟨pq, 2, none⟩ = some (.int .i64 0) := p2
        replace p3 : w3.drew.cell? ⟨pq, 3, none⟩ = some (.int .i64 (j : Int)) := p3
        replace p4 : w3.drew.cell? ⟨pq, 4, none⟩ = some (strV []) := p4
        obtain ⟨i29, fi29, hz0, hz1, hz2⟩ := info_parts part_info
        have HLN := Lib.hid (show O.length ≤ 1300 from by have := HO.out; omega)
        have HRES := Lib.hid (LayRes.var HO.out DP.out.lay.nd HVJ.out)
        generalize hnc : O.length = nc at EP HLN e0 ⊢
        replace e0 : w3.drew.cell? ⟨fb, 1, none⟩ = some (.slice Ao nc co) := e0
        have HNC := Lib.hid hnc
        clear hnc
        go_upto_region 16 with fail
        refine wp_region_last (S := fun V => V.cell? ⟨fb, 1, none⟩ = some (.slice Ao nc co) ∧ V.cell? ⟨pq, 0, none⟩ = some (.int .i64 11) ∧ V.cell? ⟨pq, 1, none⟩ = some (.int .i64 0) ∧ V.cell? ⟨pq, 2, none⟩ = some (.int .i64 0) ∧ V.cell? ⟨pq, 3, none⟩ = some (.int .i64 (j : Int)) ∧ V.cell? ⟨pq, 4, none⟩ = some (strV [])) 10 (by kernel_rfl) (by kernel_rfl) (by kernel_rfl) (by kernel_rfl) ⟨e0, p0, p1, p2, p3, p4⟩ (fun hHeld => ?_)
        generalize w3.drew = d at EP hHeld ⊢
        refine wpAnyH_take (i := 0) (oi := ⟨some 97, _, _, _, _, _⟩) (v := ?_) rfl (by kernel_rfl) (by kernel_rfl) (by kernel_rfl) (fun _ _ _ h => h) (Or.inl ⟨by kernel_rfl, ?_⟩) (by assumption) ?_
        rotate_left
        · intro w hSw
          go_simp
          try with_reducible rfl
        try simp only [Act.put, List.setIfInBounds_toArray, List.set_cons_zero, List.set_cons_succ]
        refine wpAnyH_take (i := 1) (oi := ⟨some 98, _, _, _, _, _⟩) (v := ?_) rfl (by kernel_rfl) (by kernel_rfl) (by kernel_rfl) (fun _ _ _ h => h) (Or.inl ⟨by kernel_rfl, ?_⟩) (by assumption) ?_
        rotate_left
        · intro w hSw
          go_simp
          try with_reducible rfl
        try simp only [Act.put, List.setIfInBounds_toArray, List.set_cons_zero, List.set_cons_succ]
        refine wpAnyH_take (i := 2) (oi := ⟨some 99, _, _, _, _, _⟩) (v := ?_) rfl (by kernel_rfl) (by kernel_rfl) (by kernel_rfl) (fun _ _ _ h => h) (Or.inl ⟨by kernel_rfl, ?_⟩) (by assumption) ?_
        rotate_left
        · intro w hSw
          go_simp
          try with_reducible rfl
        try simp only [Act.put, List.setIfInBounds_toArray, List.set_cons_zero, List.set_cons_succ]
        refine wpAnyH_take (i := 3) (oi := ⟨some 100, _, _, _, _, _⟩) (v := ?_) rfl (by kernel_rfl) (by kernel_rfl) (by kernel_rfl) (fun _ _ _ h => h) (Or.inl ⟨by kernel_rfl, ?_⟩) (by assumption) ?_
        rotate_left
        · intro w hSw
          go_simp
          try with_reducible rfl
        try simp only [Act.put, List.setIfInBounds_toArray, List.set_cons_zero, List.set_cons_succ]
        refine wpAnyH_take (i := 4) (oi := ⟨some 101, _, _, _, _, _⟩) (v := ?_) rfl (by kernel_rfl) (by kernel_rfl) (by kernel_rfl) (fun _ _ _ h => h) (Or.inl ⟨by kernel_rfl, ?_⟩) (by assumption) ?_
        rotate_left
        · intro w hSw
          go_simp
          try with_reducible rfl
        try simp only [Act.put, List.setIfInBounds_toArray, List.set_cons_zero, List.set_cons_succ]
        refine wpAnyH_take (i := 5) (oi := ⟨some 102, _, _, _, _, _⟩) (v := ?_) rfl (by kernel_rfl) (by kernel_rfl) (by kernel_rfl) (fun _ _ _ h => h) (Or.inl ⟨by kernel_rfl, ?_⟩) (by assumption) ?_
        rotate_left
        · intro w hSw
          go_simp
          try with_reducible rfl
        try simp only [Act.put, List.setIfInBounds_toArray, List.set_cons_zero, List.set_cons_succ]
        refine wpAnyH_ready (rs := [6]) (by kernel_rfl) (by simp) ?_
        refine AllReadyH.cons (o := ⟨some 103, _, _, _, _, _⟩) rfl (fun K hK => ?_) AllReadyH.nil
        go_simp
        refine hK.out _ _ ?_ (fun hHeld => ?_)
        · exact (have E6 := EP.out.next (below_new _ _); ⟨E6.lay.blk.cell 1, E6.blk.cell 0, E6.blk.cell 1, E6.blk.cell 2, E6.blk.cell 3, E6.blk.cell 4⟩)
        clear hK K
        try simp only [Act.put, List.setIfInBounds_toArray, List.set_cons_zero, List.set_cons_succ]
        have E6 := EP.out.next (below_new _ (.cells (partC ⟨11, 0, 0, (j : Int), []⟩).toArray 29))
        have E6o := Lib.hid (HNC.out ▸ E6.lay.out : (d.alloc (.cells (partC ⟨11, 0, 0, (j : Int), []⟩).toArray 29)).ownsRow base 29 5 (.slice Ao nc co) nc (O.flatMap partC))
        have E6b := Lib.hid E6.blk
        have E6q := Lib.hid E6.lay.blk
        have E6s := Lib.hid (show base ≤ (d.alloc (.cells (partC ⟨11, 0, 0, (j : Int), []⟩).toArray 29)).heap.size from Nat.le_of_lt (Nat.lt_of_le_of_lt E6.lay.fbb E6.lay.blk.lt))
        have E6n := Lib.hid E6.ne
        clear E6
        refine wpAnyH_ready (rs := [7]) (by kernel_rfl) (by simp) ?_
        refine AllReadyH.cons (o := ⟨some 104, _, _, _, _, _⟩) rfl (fun K hK => ?_) AllReadyH.nil
        refine step_append_any _ (by rfl) (.tmp 101) (.tmp 103) 23 (by rfl) base 29 i29 _ 5 48 Tryd.underlying23 fi29 hz0 hz1 hz2 rfl (by omega) (.slice Ao nc co) nc (O.flatMap partC) (by rfl) E6o.out (d.heap.size + 1) (some ⟨d.heap.size, 0, none⟩) 1 1 (partC ⟨11, 0, 0, (j : Int), []⟩) (by rfl) (reads_blkN (Blk.new d 29 (partC ⟨11, 0, 0, (j : Int), []⟩).toArray) rfl) (by simp [partC, Value.oneCell']) (by unfold maxLen; have := HLN.out; omega) (by have := HLN.out; omega) E6s.out ?_
        intro v1 w7 oA gA hnA
        obtain ⟨a1, c1, rfl⟩ := own_form oA
        have Q7 := E6q.out.grown gA (fun e => own_blk_ne E6o.out E6q.out (by decide) e.symm)
        have P7 : Blk w7 pq 29 (partC ⟨11, 0, 0, (j : Int), []⟩).toArray := E6b.out.grown gA (fun e => E6n.out pq e.symm rfl)
        have z1 := Q7.cell 1
        have z1f := Q7.frozen 1
        have HO := Lib.hid oA
        have HG := Lib.hid gA
        have HNA := Lib.hid hnA
        clear oA gA hnA
        refine hK.out _ _ ?_ (fun hHeld => ?_)
        · exact ⟨Q7.cell 1, P7.cell 0, P7.cell 1, P7.cell 2, P7.cell 3, P7.cell 4⟩
        clear hK K
        try simp only [Act.put, List.setIfInBounds_toArray, List.set_cons_zero, List.set_cons_succ]
        refine wpAnyH_take (i := 8) (oi := ⟨some 105, _, _, _, _, _⟩) (v := ?_) rfl (by kernel_rfl) (by kernel_rfl) (by kernel_rfl) (fun _ _ _ h => h) (Or.inl ⟨by kernel_rfl, ?_⟩) (by assumption) ?_
        rotate_left
        · intro w hSw
          go_simp
          try with_reducible rfl
        try simp only [Act.put, List.setIfInBounds_toArray, List.set_cons_zero, List.set_cons_succ]
        refine wpAnyH_take (i := 9) (oi := ⟨some 106, _, _, _, _, _⟩) (v := ?_) rfl (by kernel_rfl) (by kernel_rfl) (by kernel_rfl) (fun _ _ _ h => h) (Or.inl ⟨by kernel_rfl, ?_⟩) (by assumption) ?_
        rotate_left
        · intro w hSw
          go_simp
          try with_reducible rfl
        try simp only [Act.put, List.setIfInBounds_toArray, List.set_cons_zero, List.set_cons_succ]
        refine wpAnyH_done (by kernel_rfl) ?_ _
        refine lastPost_run (o := ⟨none, _, _, _, _, _⟩) rfl (fun K hK => ?_)
        go_simp
        refine hK.out _ _ ?_
        clear hK K
        have z2 := (Q7.set_ 1 (.slice a1 (nc + 1) c1)).cell 1
        have hn1 : nc ≤ 1300 := HLN.out
        clear z1 z1f Q7 P7 e0 p0 p1 p2 p3 p4 hHeld
        go_wp2_with fail
        go_ret
        have hnc := HNC.out
        subst hnc
        exact LayQEnd.last rfl (EP.out.done rfl HO.out HG.out HNA.out HRES.out) HRES.out
      · have fr : ((x : Int) != (r : Int)) = true := bne_iff_ne.2 (by omega)
        have HXR := Lib.hid hxr
        clear hvj hxr
        go_wp2_with fail
        go_quiet (fail)
        have EPj := Lib.hid (DPj.out.drewN nq)
        generalize hwy : wr.drewN nq = wy at EPj ⊢
        have HWY := Lib.hid hwy
        clear hwy
        have m3 := EPj.out.blk.cell 3
        replace m3 : wy.cell? ⟨pq, 3, none⟩ = some (.int .i64 (j : Int)) := m3
        have m3f := EPj.out.blk.frozen 3
        have m3l := EPj.out.blk.lt
        have hs := Lib.hid (EPj.out.setp (i := 3) (u := .int .i64 ((j + 1 : Nat) : Int)) (q := ⟨11, 0, 0, ((j + 1 : Nat) : Int), []⟩) rfl)
        have N3 := Lib.hid n3
        clear n3
        go_wp2_with fail
        go_roundw
        case rel =>
          refine ⟨j + 1, by omega, ?_, hs.out⟩
          rw [HTK.out]
          intro hm
          rcases List.mem_append.1 hm with hm | hm
          · exact HNJ.out hm
          · exact HXR.out (List.mem_singleton.1 hm).symm
        case measure =>
          have z3 := hs.out.blk.cell 3
          replace z3 : (wy.setCell ⟨pq, 3, none⟩ (.int .i64 ((j : Int) + 1))).cell? ⟨pq, 3, none⟩ = some (.int .i64 ((j : Int) + 1)) := z3
          simp only [N3.out, z3]
          rw [show ((j : Int) + 1).toNat = j + 1 by omega, Int.toNat_natCast]
          omega
    · obtain rfl : j = VR.length := by omega
      have hjI : ¬ ((VR.length : Int) < (VR.length : Int)) := by omega
      have HNV := Lib.hid (show r ∉ VR by have h := HNJ.out; rwa [List.take_length] at h)
      clear hj hjl
      go_wp2_with fail
      go_quiet (fail)
      have EPj := Lib.hid (DPj.out.drewN nq)
      generalize wr.drewN nq = wy at EPj ⊢
      have m3 := EPj.out.blk.cell 3
      replace m3 : wy.cell? ⟨pq, 3, none⟩ = some (.int .i64 (VR.length : Int)) := m3
      have x2 := EPj.out.lay.blk.cell 2
      replace x2 : wy.cell? ⟨fb, 2, none⟩ = some (.slice Av VR.length cv) := x2
      go_wp2_with fail
      go_quiet (fail)
      have EP0 := Lib.hid (EPj.out.drewN nq)
      generalize wy.drewN nq = w3 at EP0 ⊢
      clear m3 x2 n3 v2 n3f npl EPj
      have x2 := EP0.out.lay.blk.cell 2
      replace x2 : w3.cell? ⟨fb, 2, none⟩ = some (.slice Av VR.length cv) := x2
      have x2f := EP0.out.lay.blk.frozen 2
      have x2l := EP0.out.lay.blk.lt
      have hbs : base ≤ w3.heap.size := Nat.le_of_lt (Nat.lt_of_le_of_lt EP0.out.lay.fbb EP0.out.lay.blk.lt)
      obtain ⟨i3, fi3, hz0, hz1, hz2⟩ := info_parts int_info
      have H3 := Lib.hid (show i3.zero = some (.int .i64 0) ∧ i3.size = 1 ∧ i3.bytes = 8 from ⟨hz0, hz1, hz2⟩)
      clear hz0 hz1 hz2
      go_upto_region 11 with fail
      go_upto_region 12 with (at_builtin; refine wpList_append_any _ rfl (.tmp 77) (.tmp 79) 39 rfl base 3 i3 _ 1 8 Tryd.underlying39 fi3 H3.out.1 H3.out.2.1 H3.out.2.2 rfl (by omega) (.slice Av VR.length cv) VR.length (VR.map natV) rfl (own_next EP0.out.lay.vars (below_new _ _)) (w3.heap.size + 1) (some ⟨w3.heap.size, 0, none⟩) 1 1 [natV r] rfl (reads_newI w3 (natV r) 3 w3.heap.size rfl) (by simp [Value.oneCell', natV]) (by unfold maxLen; omega) (by omega) (by rw [World.size_alloc]; omega) ?_; intro v1 w7 oA gA nA; obtain ⟨Av1, cv1, rfl⟩ := own_form oA; have HNA1 := Lib.hid nA; clear nA; have HOA := Lib.hid oA; have HGA := Lib.hid gA; clear oA gA; obtain ⟨q8, q9, q10⟩ := EP0.out.fbs HGA.out)
      have DP := Lib.hid (EP0.out.named HNV.out hr1 HOA.out HGA.out HNA1.out)
      clear q8 q9 q10 x2 x2f x2l EP0
      generalize w7.setCell ⟨fb, 2, none⟩ (.slice Av1 (VR.length + 1) cv1) = w8 at DP ⊢
      have EP := Lib.hid (DP.out.next (Below.drew (Below.refl _ _)))
      have e0 := EP.out.lay.blk.cell 1
      have p0 := EP.out.blk.cell 0
      have p1 := EP.out.blk.cell 1
      have p2 := EP.out.blk.cell 2
      have p3 := EP.out.blk.cell 3
      have p4 := EP.out.blk.cell 4
      replace p0 : w8.drew.cell? ⟨pq, 0, none⟩ = some (.int .i64 11) := p0
      replace p1 : w8.drew.cell? ⟨pq, 1, none⟩ = some (.int .i64 0) := p1
      replace p2 : w8.drew.cell? ⟨pq, 2, none⟩ = some (.int .i64 0) := p2
      replace p3 : w8.drew.cell? ⟨pq, 3, none⟩ = some (.int .i64 (VR.length : Int)) := p3
      replace p4 : w8.drew.cell? ⟨pq, 4, none⟩ = some (strV []) := p4
      obtain ⟨i29, fi29, hz0, hz1, hz2⟩ := info_parts part_info
      have HLN := Lib.hid (show O.length ≤ 1300 from by have := HO.out; omega)
      have HRES := Lib.hid (LayRes.varNew HO.out HNV.out)
      generalize hnc : O.length = nc at EP HLN e0 ⊢
      replace e0 : w8.drew.cell? ⟨fb, 1, none⟩ = some (.slice Ao nc co) := e0
      have HNC := Lib.hid hnc
      clear hnc
      go_upto_region 16 with fail
      refine wp_region_last (S := fun V => V.cell? ⟨fb, 1, none⟩ = some (.slice Ao nc co) ∧ V.cell? ⟨pq, 0, none⟩ = some (.int .i64 11) ∧ V.cell? ⟨pq, 1, none⟩ = some (.int .i64 0) ∧ V.cell? ⟨pq, 2, none⟩ = some (.int .i64 0) ∧ V.cell? ⟨pq, 3, none⟩ = some (.int .i64 (VR.length : Int)) ∧ V.cell? ⟨pq, 4, none⟩ = some (strV [])) 10 (by kernel_rfl) (by kernel_rfl) (by kernel_rfl) (by kernel_rfl) ⟨e0, p0, p1, p2, p3, p4⟩ (fun hHeld => ?_)
      generalize w8.drew = d at EP hHeld ⊢
      refine wpAnyH_take (i := 0) (oi := ⟨some 97, _, _, _, _, _⟩) (v := ?_) rfl (by kernel_rfl) (by kernel_rfl) (by kernel_rfl) (fun _ _ _ h => h) (Or.inl ⟨by kernel_rfl, ?_⟩) (by assumption) ?_
      rotate_left
      · intro w hSw
        go_simp
        try with_reducible rfl
      try simp only [Act.put, List.setIfInBounds_toArray, List.set_cons_zero, List.set_cons_succ]
      refine wpAnyH_take (i := 1) (oi := ⟨some 98, _, _, _, _, _⟩) (v := ?_) rfl (by kernel_rfl) (by kernel_rfl) (by kernel_rfl) (fun _ _ _ h => h) (Or.inl ⟨by kernel_rfl, ?_⟩) (by assumption) ?_
      rotate_left
      · intro w hSw
        go_simp
        try with_reducible rfl
      try simp only [Act.put, List.setIfInBounds_toArray, List.set_cons_zero, List.set_cons_succ]
      refine wpAnyH_take (i := 2) (oi := ⟨some 99, _, _, _, _, _⟩) (v := ?_) rfl (by kernel_rfl) (by kernel_rfl) (by kernel_rfl) (fun _ _ _ h => h) (Or.inl ⟨by kernel_rfl, ?_⟩) (by assumption) ?_
      rotate_left
      · intro w hSw
        go_simp
        try with_reducible rfl
      try simp only [Act.put, List.setIfInBounds_toArray, List.set_cons_zero, List.set_cons_succ]
      refine wpAnyH_take (i := 3) (oi := ⟨some 100, _, _, _, _, _⟩) (v := ?_) rfl (by kernel_rfl) (by kernel_rfl) (by kernel_rfl) (fun _ _ _ h => h) (Or.inl ⟨by kernel_rfl, ?_⟩) (by assumption) ?_
      rotate_left
      · intro w hSw
        go_simp
        try with_reducible rfl
      try simp only [Act.put, List.setIfInBounds_toArray, List.set_cons_zero, List.set_cons_succ]
      refine wpAnyH_take (i := 4) (oi := ⟨some 101, _, _, _, _, _⟩) (v := ?_) rfl (by kernel_rfl) (by kernel_rfl) (by kernel_rfl) (fun _ _ _ h => h) (Or.inl ⟨by kernel_rfl, ?_⟩) (by assumption) ?_
      rotate_left
      · intro w hSw
        go_simp
        try with_reducible rfl
      try simp only [Act.put, List.setIfInBounds_toArray, List.set_cons_zero, List.set_cons_succ]
      refine wpAnyH_take (i := 5) (oi := ⟨some 102, _, _, _, _, _⟩) (v := ?_) rfl (by kernel_rfl) (by kernel_rfl) (by kernel_rfl) (fun _ _ _ h => h) (Or.inl ⟨by kernel_rfl, ?_⟩) (by assumption) ?_
      rotate_left
      · intro w hSw
        go_simp
        try with_reducible rfl
      try simp only [Act.put, List.setIfInBounds_toArray, List.set_cons_zero, List.set_cons_succ]
      refine wpAnyH_ready (rs := [6]) (by kernel_rfl) (by simp) ?_
      refine AllReadyH.cons (o := ⟨some 103, _, _, _, _, _⟩) rfl (fun K hK => ?_) AllReadyH.nil
      go_simp
      refine hK.out _ _ ?_ (fun hHeld => ?_)
      · exact (have E6 := EP.out.next (below_new _ _); ⟨E6.lay.blk.cell 1, E6.blk.cell 0, E6.blk.cell 1, E6.blk.cell 2, E6.blk.cell 3, E6.blk.cell 4⟩)
      clear hK K
      try simp only [Act.put, List.setIfInBounds_toArray, List.set_cons_zero, List.set_cons_succ]
      have E6 := EP.out.next (below_new _ (.cells (partC ⟨11, 0, 0, (VR.length : Int), []⟩).toArray 29))
      have E6o := Lib.hid (HNC.out ▸ E6.lay.out : (d.alloc (.cells (partC ⟨11, 0, 0, (VR.length : Int), []⟩).toArray 29)).ownsRow base 29 5 (.slice Ao nc co) nc (O.flatMap partC))
      have E6b := Lib.hid E6.blk
      have E6q := Lib.hid E6.lay.blk
      have E6s := Lib.hid (show base ≤ (d.alloc (.cells (partC ⟨11, 0, 0, (VR.length : Int), []⟩).toArray 29)).heap.size from Nat.le_of_lt (Nat.lt_of_le_of_lt E6.lay.fbb E6.lay.blk.lt))
      have E6n := Lib.hid E6.ne
      clear E6
      refine wpAnyH_ready (rs := [7]) (by kernel_rfl) (by simp) ?_
      refine AllReadyH.cons (o := ⟨some 104, _, _, _, _, _⟩) rfl (fun K hK => ?_) AllReadyH.nil
      refine step_append_any _ (by rfl) (.tmp 101) (.tmp 103) 23 (by rfl) base 29 i29 _ 5 48 Tryd.underlying23 fi29 hz0 hz1 hz2 rfl (by omega) (.slice Ao nc co) nc (O.flatMap partC) (by rfl) E6o.out (d.heap.size + 1) (some ⟨d.heap.size, 0, none⟩) 1 1 (partC ⟨11, 0, 0, (VR.length : Int), []⟩) (by rfl) (reads_blkN (Blk.new d 29 (partC ⟨11, 0, 0, (VR.length : Int), []⟩).toArray) rfl) (by simp [partC, Value.oneCell']) (by unfold maxLen; have := HLN.out; omega) (by have := HLN.out; omega) E6s.out ?_
      intro v1 w7 oA gA hnA
      obtain ⟨a1, c1, rfl⟩ := own_form oA
      have Q7 := E6q.out.grown gA (fun e => own_blk_ne E6o.out E6q.out (by decide) e.symm)
      have P7 : Blk w7 pq 29 (partC ⟨11, 0, 0, (VR.length : Int), []⟩).toArray := E6b.out.grown gA (fun e => E6n.out pq e.symm rfl)
      have z1 := Q7.cell 1
      have z1f := Q7.frozen 1
      have HO := Lib.hid oA
      have HG := Lib.hid gA
      have HNA := Lib.hid hnA
      clear oA gA hnA
      refine hK.out _ _ ?_ (fun hHeld => ?_)
      · exact ⟨Q7.cell 1, P7.cell 0, P7.cell 1, P7.cell 2, P7.cell 3, P7.cell 4⟩
      clear hK K
      try simp only [Act.put, List.setIfInBounds_toArray, List.set_cons_zero, List.set_cons_succ]
      refine wpAnyH_take (i := 8) (oi := ⟨some 105, _, _, _, _, _⟩) (v := ?_) rfl (by kernel_rfl) (by kernel_rfl) (by kernel_rfl) (fun _ _ _ h => h) (Or.inl ⟨by kernel_rfl, ?_⟩) (by assumption) ?_
      rotate_left
      · intro w hSw
        go_simp
        try with_reducible rfl
      try simp only [Act.put, List.setIfInBounds_toArray, List.set_cons_zero, List.set_cons_succ]
      refine wpAnyH_take (i := 9) (oi := ⟨some 106, _, _, _, _, _⟩) (v := ?_) rfl (by kernel_rfl) (by kernel_rfl) (by kernel_rfl) (fun _ _ _ h => h) (Or.inl ⟨by kernel_rfl, ?_⟩) (by assumption) ?_
      rotate_left
      · intro w hSw
        go_simp
        try with_reducible rfl
      try simp only [Act.put, List.setIfInBounds_toArray, List.set_cons_zero, List.set_cons_succ]
      refine wpAnyH_done (by kernel_rfl) ?_ _
      refine lastPost_run (o := ⟨none, _, _, _, _, _⟩) rfl (fun K hK => ?_)
      go_simp
      refine hK.out _ _ ?_
      clear hK K
      have z2 := (Q7.set_ 1 (.slice a1 (nc + 1) c1)).cell 1
      have hn1 : nc ≤ 1300 := HLN.out
      clear z1 z1f Q7 P7 e0 p0 p1 p2 p3 p4 hHeld
      go_wp2_with fail
      go_ret
      have hnc := HNC.out
      subst hnc
      exact LayQEnd.last rfl (EP.out.done rfl HO.out HG.out HNA.out HRES.out) HRES.out
theorem c49 {base pb fb : Nat} {A : Option Addr} {c : Nat} {L : List Tm} : ∀ m, LayQIH base pb fb A c L m := by
  intro m
  induction m with
  | zero => intro T g W vo vv O VR h; have := T.size_pos; omega
  | succ m ih =>
    intro T g W vo vv O VR hm hw hd hL hO
    have hsub : ∀ k, k ≤ m → LayQIH base pb fb A c L k := fun k hk T' g' W' vo' vv' O' VR' h => ih T' g' W' vo' vv' O' VR' (Nat.le_trans h hk)
    by_cases hO2 : O.length ≤ 200
    · obtain ⟨r, n, hr, hdr⟩ := hd.rep
      cases T with
      | leaf k t => exact c49leaf hr hdr hw hL hO2
      | var v =>
        obtain ⟨u, rfl⟩ := hdr.varNat _ rfl
        have e := hr.isRoot.var hdr
        subst e
        exact c49var hr hdr hw hL hO2
      | one k s => exact c49one hr hdr hw hL hO2 (hsub _ (by simp only [Ty.size] at hm; omega))
      | two k s u => exact c49two hr hdr hw hL hO2 (hsub _ (by simp only [Ty.size] at hm; omega))
    · exact c49full W hL (by omega) hO
/-- What Flat hands back: the normal one, or none. -/
def FlatEnd (base : Nat) (T : Ty) (W : World) (e : Ending) (W' : World) : Prop :=
  ∃ v, e = .returned v ∧ Below base W W' ∧ (T.size ≤ 200 → W'.ownsRow base 29 5 v T.size ((norm (enc 0 T)).flatMap partC)) ∧ (200 < T.size → v = .slice none 0 0)
set_option maxRecDepth 100000 in
set_option maxHeartbeats 8000000 in
theorem c36 {base pb : Nat} {A : Option Addr} {c : Nat} {L : List Tm} {g : Nat} {T : Ty} (hd : Den (nodes L) g T) (hw : T.wf) (W : World) (hP : PoolM W base pb A c L) : Calls Tryd.prog 36 #[ptr pb, .int .i64 (g : Int)] W (FlatEnd base T W) := by
  have hb : base ≤ W.heap.size := Nat.le_of_lt (Nat.lt_of_le_of_lt hP.pbb hP.lt)
  have hL : LayQ (W.alloc (.cells #[ptr pb, .slice none 0 0, .slice none 0 0] 84)) base pb W.heap.size A c L (.slice none 0 0) (.slice none 0 0) [] [] :=
    ⟨hP.next (below_new _ _), Blk.new W 84 _, ⟨rfl, .inl ⟨rfl, rfl⟩⟩, ⟨rfl, .inl ⟨rfl, rfl⟩⟩, hb, List.nodup_nil, fun x hx => by cases hx⟩
  have HB := Lib.hid (show Below base W (W.alloc (.cells #[ptr pb, .slice none 0 0, .slice none 0 0] 84)) from (Below.refl base W).alloc hb _)
  have HL := Lib.hid hL
  have HC := Lib.hid (c49 T.size T g _ _ _ [] [] (Nat.le_refl _) hw hd hL (by simp))
  clear hL hP hd hw
  go_enter Tryd.func36, Tryd.ntmps36
  go_wp2_with fail
  refine HC.out.mono ?_
  rintro e w1 ⟨r, rfl, ⟨vo, vv, O, VR, hq, hs, _, _, hres⟩, _⟩
  have B1 := Lib.hid (HB.out.trans (hs.belowL HL.out (Nat.le_trans hb (by rw [World.size_alloc]; omega))))
  have HQ := Lib.hid hq
  have HRes := Lib.hid hres
  obtain ⟨Ao, co, rfl⟩ := own_form hq.out
  have f1 := hq.blk.cell 1
  replace f1 : w1.cell? ⟨W.heap.size, 1, none⟩ = some (.slice Ao O.length co) := f1
  clear hq hs hres HC
  by_cases hz : T.size ≤ 200
  · have hl : O.length = T.size := by
      have := HRes.out.len (by simp; omega)
      simpa using this
    have hl2 : ¬ (200 : Int) < (O.length : Int) := by omega
    have hO := (HRes.out.1 (by simp; omega)).1
    have HO := Lib.hid hO
    have HLen := Lib.hid hl
    have HZ := Lib.hid hz
    clear hl hO hz
    go_wp2_with fail
    go_ret
    refine ⟨_, rfl, B1.out, fun _ => ?_, fun h => by have := HZ.out; omega⟩
    have h := HQ.out.out
    have e : O = norm (enc 0 T) := by
      rw [HO.out]
      show [] ++ _ = _
      rw [List.nil_append]
      rfl
    rw [HLen.out] at h ⊢
    rw [e] at h
    exact h
  · have hl : 200 < O.length := by
      by_cases h1 : T.size = 201
      · have h2 := HRes.out.len (by show 0 + T.size ≤ 201; omega)
        have h3 : O.length = 0 + T.size := h2
        omega
      · exact HRes.out.2.1 (by show 201 < 0 + T.size; omega)
    have hl2 : (200 : Int) < (O.length : Int) := by omega
    have HZ := Lib.hid hz
    clear hl hz
    go_wp2_with fail
    go_ret
    exact ⟨_, rfl, B1.out, fun h => absurd h HZ.out, fun _ => rfl⟩
end Go.Proofs.YtcilodgpbdafeaaDoor
