/- (*Term).lay: a term's parts, laid behind those that are there. -/
import Derived.Test.YtcilodgpbdafeaaDoorTCnt
import Derived.Test.YtcilodgpbdafeaaDoorRLast
namespace Go.Proofs.YtcilodgpbdafeaaDoor
open Go.ChangeShapes Go.WideShapes Go.ChangeAt Go.RowKit
set_option linter.unusedVariables false
set_option linter.unusedSimpArgs false
def partC (p : Part) : List Value := [.int .i64 p.k, .int .i64 p.a, .int .i64 p.b, .int .i64 p.n, strV p.t]
/-- All but the blocks of K stays. -/
structure Stays (K : Nat → Prop) (W W' : World) : Prop where
  os : W'.os = W.os
  tape : W'.tape = W.tape
  output : W'.output = W.output
  size : W.heap.size ≤ W'.heap.size
  block : ∀ k, k < W.heap.size → ¬ K k → W'.heap[k]? = W.heap[k]?
section
variable {K K' : Nat → Prop} {W W' W'' : World}
theorem Stays.refl (W : World) : Stays K W W := ⟨rfl, rfl, rfl, Nat.le_refl _, fun _ _ _ => rfl⟩
theorem Stays.trans (h : Stays K W W') (h' : Stays K' W' W'') (hK : ∀ k, k < W.heap.size → K' k → K k) : Stays K W W'' :=
  ⟨h'.os.trans h.os, h'.tape.trans h.tape, h'.output.trans h.output, Nat.le_trans h.size h'.size, fun k hk hn => (h'.block k (Nat.lt_of_lt_of_le hk h.size) (fun h => hn (hK k hk h))).trans (h.block k hk hn)⟩
theorem Stays.of_below (h : Below W.heap.size W W') : Stays K W W' := ⟨h.os, h.tape, h.output, h.size, fun k hk _ => h.block k hk⟩
theorem Stays.of_grown {row : Option Nat} (h : W.grownBy W' row) (hK : ∀ k, row = some k → K k) : Stays K W W' :=
  ⟨h.os, h.tape, h.output, h.size, fun k hk hn => h.block k hk fun e => hn (hK k e.symm)⟩
theorem Stays.set (h : Stays K W W') {p : Addr} (hp : W.heap.size ≤ p.block ∨ K p.block) (u : Value) : Stays K W (W'.setCell p u) :=
  ⟨h.os, h.tape, h.output, by rw [World.size_setCell]; exact h.size, fun k hk hn => (Below.heap_setCell W' p u k (by intro e; subst e; rcases hp with hp | hp; omega; exact hn hp)).trans (h.block k hk hn)⟩
theorem Blk.stays {g : Nat} {t : TypeId} {cs : Array Value} (h : Blk W g t cs) (hs : Stays K W W') (hg : ¬ K g) : Blk W' g t cs := (hs.block g h.lt hg).trans h
theorem own_stays {base : Nat} {e : TypeId} {size n : Nat} {v : Value} {xs : List Value} (h : W.ownsRow base e size v n xs) (hs : Stays K W W') (hg : ∀ k, v.ownBlock = some k → ¬ K k) : W'.ownsRow base e size v n xs := by
  rcases h.2 with ⟨rfl, rfl⟩ | ⟨g, cap, cur, rfl, h1, h2, h3⟩
  · exact ⟨h.1, .inl ⟨rfl, rfl⟩⟩
  · have hlt : g < W.heap.size := Blk.lt (t := e) h2
    exact ⟨h.1, .inr ⟨g, cap, cur, rfl, h1, (hs.block g hlt (hg g (by simp [Value.ownBlock]))).trans h2, h3⟩⟩
theorem PMap.stays {b n : Nat} {D : Nat → Option Value} (h : PMap W b D n) (hs : Stays K W W') (hb : ¬ K b) (hk : ∀ g cs, Blk W g 69 cs → ∃ cs', Blk W' g 69 cs') : PMap W' b D n := h.keep (hs.block b h.lt hb) hk
end
/-- The numbers that variables have by now. -/
def varD (V : List Int) : Nat → Option Value := fun x => if (x : Int) ∈ V then some (.int .i64 ((V.idxOf (x : Int) : Nat) : Int)) else none
/-- Parts that were laid, variables that were numbered, terms in memory. -/
structure LayW (N : Nat → Option Nd) (W : World) (ob b base : Nat) (v : Value) (l : List Part) (V : List Int) : Prop where
  mem : TMem W N
  out : Blk W ob 23 #[v]
  own : W.ownsRow base 29 5 v l.length (l.flatMap partC)
  map : PMap W b (varD V) V.length
  base : base ≤ W.heap.size
theorem LayW.next {N : Nat → Option Nd} {W W' : World} {ob b base : Nat} {v : Value} {l : List Part} {V : List Int} (h : LayW N W ob b base v l V) (hb : Below W.heap.size W W') : LayW N W' ob b base v l V :=
  ⟨h.mem.next hb, h.out.next hb, own_next h.own hb, h.map.next hb, Nat.le_trans h.base hb.size⟩
def LayK (ob b : Nat) (v : Value) : Nat → Prop := fun k => k = ob ∨ k = b ∨ v.ownBlock = some k
def LayPost (N : Nat → Option Nd) (ob b base : Nat) (v : Value) (l : List Part) (V : List Int) (T : Ty) (W W' : World) : Prop :=
  ∃ v', LayW N W' ob b base v' (l ++ (enc l.length T).map (ren (nums (enc l.length T) V))) (nums (enc l.length T) V) ∧ Stays (LayK ob b v) W W' ∧ ∀ k, v'.ownBlock = some k → v.ownBlock = some k ∨ W.heap.size ≤ k
theorem part_info : (Tryd.prog.info? 29).map (fun i => (i.zero, i.size, i.bytes)) = some (some (.agg #[.int .i64 0, .int .i64 0, .int .i64 0, .int .i64 0, .string ⟨#[]⟩]), 5, 48) := by kernel_rfl
theorem own_lt {w : World} {base n size : Nat} {e : TypeId} {v : Value} {xs : List Value} (h : w.ownsRow base e size v n xs) : ∀ k, v.ownBlock = some k → k < w.heap.size := by
  rcases h.2 with ⟨rfl, _⟩ | ⟨g, cap, cur, rfl, _, h2, _⟩
  · intro k hk; cases hk
  · intro k hk
    have : g = k := by simpa [Value.ownBlock] using hk
    subst this
    exact Blk.lt (t := e) h2
theorem kept_ne {w w' : World} {base n size : Nat} {e : TypeId} {v : Value} {xs : List Value} (h : w.ownsRow base e size v n xs) {K : Nat → Prop} (hs : w'.grownBy w' none) : True := trivial
section
variable {N : Nat → Option Nd} {w : World} {ob b base : Nat} {v : Value} {l : List Part} {V : List Int}
theorem LayW.ob_ne (h : LayW N w ob b base v l V) : ob ≠ b := h.map.ne h.out
theorem LayW.own_ne (h : LayW N w ob b base v l V) : v.ownBlock ≠ some b ∧ v.ownBlock ≠ some ob := by
  refine ⟨?_, own_blk_ne h.own h.out (by decide)⟩
  rcases h.own.2 with ⟨rfl, _⟩ | ⟨g, cap, cur, rfl, _, h2, _⟩
  · intro e; cases e
  · intro e
    have : g = b := by simpa [Value.ownBlock] using e
    exact h.map.ne (t := 29) h2 this
theorem LayW.setp (h : LayW N w ob b base v l V) {pb : Nat} {cs : Array Value} (hp : Blk w pb 29 cs) (hn : ∀ k, v.ownBlock = some k → k ≠ pb) (i : Nat) (u : Value) : LayW N (w.setCell ⟨pb, i, none⟩ u) ob b base v l V := by
  have hb : b ≠ pb := fun e => h.map.ne hp e.symm
  refine ⟨fun g d hd => (h.mem g d hd).far (Blk.ne_ (h.mem g d hd) hp (by decide)) u, h.out.far (Blk.ne_ h.out hp (by decide)) u, ?_, ?_, by rw [World.size_setCell]; exact h.base⟩
  · refine h.own.kept (grown_set w pb i u) ?_
    cases hv : v.ownBlock with
    | none => exact .inl rfl
    | some k => exact .inr fun e => hn k hv (by injection e)
  · exact h.map.keep (Below.heap_setCell w ⟨pb, i, none⟩ u b hb) fun g cs hg => ⟨_, hg.far (Blk.ne_ hg hp (by decide)) u⟩
theorem LayW.push (h : LayW N w ob b base v l V) {o : Obj} {p : Part} {v1 : Value} {w7 : World} (oA : w7.ownsRow base 29 5 v1 (l.length + 1) (l.flatMap partC ++ partC p)) (gA : (w.alloc o).grownBy w7 v.ownBlock) : LayW N (w7.setCell ⟨ob, 0, none⟩ v1) ob b base v1 (l ++ [p]) V := by
  have h6 := h.next (below_new w o)
  have q7 : Blk w7 ob 23 #[v] := h6.out.grown gA (fun e => own_blk_ne h6.own h6.out (by decide) e.symm)
  refine ⟨fun g d hd => ?_, q7.set_ 0 v1, ?_, ?_, by rw [World.size_setCell]; exact Nat.le_trans h6.base gA.size⟩
  · have h1 := h6.mem g d hd
    have h2 : Blk w7 g 69 d.cells := h1.grown gA (fun e => own_blk_ne h6.own h1 (by decide) e.symm)
    exact h2.far (Blk.ne_ h2 q7 (by decide)) v1
  · rw [List.length_append, List.flatMap_append, show [p].flatMap partC = partC p by simp]
    exact own_set oA q7 (by decide)
  · have m7 := h6.map.keep (gA.block b h6.map.lt (fun e => h6.own_ne.1 e.symm)) fun g cs hg => ⟨cs, hg.grown gA (fun e => own_blk_ne h6.own hg (by decide) e.symm)⟩
    exact m7.keep (Below.heap_setCell w7 ⟨ob, 0, none⟩ v1 b (fun e => h.ob_ne e.symm)) fun g cs hg => ⟨_, hg.far (Blk.ne_ hg q7 (by decide)) v1⟩
end
/-- A call's own struct p in block pb; the rest as it was laid; what has turned since W. -/
structure LayP (N : Nat → Option Nd) (W w : World) (ob b base : Nat) (v0 v : Value) (l : List Part) (V : List Int) (pb : Nat) (p : Part) : Prop where
  lay : LayW N w ob b base v l V
  blk : Blk w pb 29 (partC p).toArray
  new : W.heap.size ≤ pb
  stay : Stays (LayK ob b v0) W w
  own : ∀ k, v.ownBlock = some k → v0.ownBlock = some k ∨ W.heap.size ≤ k
  ne : ∀ k, v.ownBlock = some k → k ≠ pb
section
variable {N : Nat → Option Nd} {W w w' : World} {ob b base pb : Nat} {v0 v v' : Value} {l l' : List Part} {V V' : List Int} {p : Part}
theorem LayP.start (h : LayW N W ob b base v l V) (hb : Below W.heap.size W w) (p : Part) : LayP N W (w.alloc (.cells (partC p).toArray 29)) ob b base v v l V w.heap.size p := by
  have h1 := h.next hb
  refine ⟨h1.next (below_new w _), Blk.new w 29 _, hb.size, Stays.of_below (hb.alloc hb.size _), fun k hk => .inl hk, fun k hk => ?_⟩
  have := own_lt h1.own k hk
  omega
theorem LayP.next (h : LayP N W w ob b base v0 v l V pb p) (hb : Below w.heap.size w w') : LayP N W w' ob b base v0 v l V pb p :=
  ⟨h.lay.next hb, h.blk.next hb, h.new, h.stay.trans (K' := fun _ => False) (Stays.of_below hb) (fun _ _ h => h.elim), h.own, h.ne⟩
theorem LayP.drew (h : LayP N W w ob b base v0 v l V pb p) : LayP N W w.drew ob b base v0 v l V pb p := h.next (Below.drew (Below.refl w.heap.size w))
theorem LayP.setp (h : LayP N W w ob b base v0 v l V pb p) {i : Nat} {u : Value} {q : Part} (hq : (partC p).toArray.setIfInBounds i u = (partC q).toArray) : LayP N W (w.setCell ⟨pb, i, none⟩ u) ob b base v0 v l V pb q :=
  ⟨h.lay.setp h.blk h.ne i u, hq ▸ h.blk.set_ i u, h.new, h.stay.set (.inl h.new) u, h.own, h.ne⟩
/-- A part of it was laid. -/
theorem LayP.laid (h : LayP N W w ob b base v0 v l V pb p) {T : Ty} (hp : LayPost N ob b base v l V T w w') :
    ∃ v', LayP N W w' ob b base v0 v' (l ++ (enc l.length T).map (ren (nums (enc l.length T) V))) (nums (enc l.length T) V) pb p := by
  obtain ⟨v', h1, h2, h3⟩ := hp
  have hpb := h.blk.lt
  refine ⟨v', h1, h.blk.stays h2 ?_, h.new, h.stay.trans h2 ?_, fun k hk => ?_, fun k hk => ?_⟩
  · rintro (e | e | e)
    · exact Blk.ne_ h.blk h.lay.out (by decide) e
    · exact h.lay.map.ne h.blk e
    · exact h.ne _ e rfl
  · rintro k hk (e | e | e)
    · exact .inl e
    · exact .inr (.inl e)
    · rcases h.own k e with e | e
      · exact .inr (.inr e)
      · omega
  · rcases h3 k hk with e | e
    · exact h.own k e
    · exact .inr (Nat.le_trans h.stay.size e)
  · rcases h3 k hk with e | e
    · exact h.ne k e
    · omega
/-- The variable of the node is numbered. -/
theorem LayP.mapped (h : LayP N W w ob b base v0 v l V pb p) {n : Nat} (hg : w.grownBy w' (some b)) (hm : PMap w' b (varD V') n) (hn : V'.length = n) : LayP N W w' ob b base v0 v l V' pb p := by
  subst hn
  have ne1 : ∀ {g t cs}, Blk w g t cs → Blk w' g t cs := fun hb => hb.grown hg (fun e => h.lay.map.ne hb (by injection e))
  refine ⟨⟨fun g d hd => ne1 (h.lay.mem g d hd), ne1 h.lay.out, ?_, hm, Nat.le_trans h.lay.base hg.size⟩, ne1 h.blk, h.new, h.stay.trans (K' := fun k => k = b) (Stays.of_grown hg (fun k e => by injection e with e; exact e.symm)) (fun k _ e => .inr (.inl e)), h.own, h.ne⟩
  refine h.lay.own.kept hg ?_
  cases hv : v.ownBlock with
  | none => exact .inl rfl
  | some k => exact .inr fun e => h.lay.own_ne.1 (hv.trans e)
/-- The end: the part is laid. -/
theorem LayP.done (h : LayP N W w ob b base v0 v l V pb p) {o : Obj} {v1 : Value} {w7 : World} {n : Nat} (hnl : l.length = n) (oA : w7.ownsRow base 29 5 v1 (n + 1) (l.flatMap partC ++ partC p)) (gA : (w.alloc o).grownBy w7 v.ownBlock) (hn : v1.ownBlock = v.ownBlock ∨ v1.ownBlock = some (w.alloc o).heap.size) {l0 : List Part} {V0 : List Int} {T : Ty}
    (hl : l ++ [p] = l0 ++ (enc l0.length T).map (ren (nums (enc l0.length T) V0))) (hV : V = nums (enc l0.length T) V0) : LayPost N ob b base v0 l0 V0 T W (w7.setCell ⟨ob, 0, none⟩ v1) := by
  subst hnl
  refine ⟨v1, ?_, ?_, fun k hk => ?_⟩
  · rw [← hl, ← hV]
    exact h.lay.push oA gA
  · have s6 : Stays (LayK ob b v0) W (w.alloc o) := h.stay.trans (K' := fun _ => False) (Stays.of_below (below_new w o)) (fun _ _ h => h.elim)
    have s7 : Stays (LayK ob b v0) W w7 := s6.trans (K' := fun k => v.ownBlock = some k) (Stays.of_grown gA (fun k e => e)) fun k hk e => by
      rcases h.own k e with e | e
      · exact .inr (.inr e)
      · omega
    exact s7.set (.inr (.inl rfl)) v1
  · rcases hn with e | e
    · exact h.own k (e ▸ hk)
    · rw [e] at hk
      injection hk with hk
      right
      have := h.stay.size
      rw [World.size_alloc] at hk
      omega
end
theorem nums_ne {p : Part} (h : p.k ≠ 11) (V : List Int) : nums [p] V = V := by
  show nums [] (if p.k = 11 ∧ _ then _ else _) = V
  rw [if_neg (fun e => h e.1)]
  rfl
theorem ren_ne {p : Part} (h : p.k ≠ 11) (V : List Int) : ren V p = p := by
  unfold ren
  rw [if_neg h]
theorem lay_leaf {k : Int} {t : List UInt8} (hk : k ≠ 11) (l : List Part) (V : List Int) : l ++ [⟨k, 0, 0, 0, t⟩] = l ++ (enc l.length (.leaf k t)).map (ren (nums (enc l.length (.leaf k t)) V)) ∧ V = nums (enc l.length (.leaf k t)) V := by
  have h1 : nums (enc l.length (.leaf k t)) V = V := nums_ne hk V
  rw [h1]
  refine ⟨?_, rfl⟩
  show _ = l ++ [ren V _]
  rw [ren_ne hk]
theorem lay_one {k : Int} {s : Ty} (hk : k ≠ 11) (l : List Part) (V : List Int) : (l ++ (enc l.length s).map (ren (nums (enc l.length s) V))) ++ [⟨k, ((l.length + s.size - 1 : Nat) : Int), 0, 0, []⟩] = l ++ (enc l.length (.one k s)).map (ren (nums (enc l.length (.one k s)) V)) ∧ nums (enc l.length s) V = nums (enc l.length (.one k s)) V := by
  have h1 : nums (enc l.length (.one k s)) V = nums (enc l.length s) V := by
    show nums (enc l.length s ++ [_]) V = _
    rw [nums_append, nums_ne hk]
  rw [h1]
  refine ⟨?_, rfl⟩
  show _ = l ++ (enc l.length s ++ [_]).map _
  rw [List.map_append, List.append_assoc]
  congr 2
  show _ = [ren _ _]
  rw [ren_ne hk]
theorem ren_back (l : List Part) (K : List Part) (V : List Int) : l.map (ren (nums l V)) = l.map (ren (nums K (nums l V))) := by
  obtain ⟨M, hM⟩ := nums_pre K (nums l V)
  rw [hM]
  exact List.map_congr_left fun p hp => (ren_pre l _ _ p fun hk => nums_mem l V p hp hk).symm
theorem lay_two {k : Int} {s u : Ty} (hk : k ≠ 11) (l : List Part) (V : List Int) {l1 : List Part} {V1 : List Int} (e1 : l1 = l ++ (enc l.length s).map (ren V1)) (eV : V1 = nums (enc l.length s) V) :
    (l1 ++ (enc l1.length u).map (ren (nums (enc l1.length u) V1))) ++ [⟨k, ((l.length + s.size - 1 : Nat) : Int), ((l1.length + u.size - 1 : Nat) : Int), 0, []⟩] = l ++ (enc l.length (.two k s u)).map (ren (nums (enc l.length (.two k s u)) V)) ∧ nums (enc l1.length u) V1 = nums (enc l.length (.two k s u)) V := by
  have hlen : l1.length = l.length + s.size := by rw [e1, List.length_append, List.length_map, enc_len]
  have h1 : nums (enc l.length (.two k s u)) V = nums (enc l1.length u) V1 := by
    show nums (enc l.length s ++ enc (l.length + s.size) u ++ [_]) V = _
    rw [nums_append, nums_append, nums_ne hk, hlen, eV]
  rw [h1]
  refine ⟨?_, rfl⟩
  show _ = l ++ (enc l.length s ++ enc (l.length + s.size) u ++ [_]).map _
  rw [List.map_append, List.map_append, ← hlen]
  clear h1
  generalize l1.length = q at hlen ⊢
  rw [e1, eV, ren_back (enc l.length s) (enc q u) V]
  simp only [List.append_assoc]
  congr 3
  show _ = [ren _ _]
  rw [ren_ne hk]
theorem lay_var (r : Int) (l : List Part) (V : List Int) : l ++ [⟨11, 0, 0, (((if r ∈ V then V else V ++ [r]).idxOf r : Nat) : Int), []⟩] = l ++ (enc l.length (.var r)).map (ren (nums (enc l.length (.var r)) V)) ∧ (if r ∈ V then V else V ++ [r]) = nums (enc l.length (.var r)) V := by
  have h1 : nums (enc l.length (.var r)) V = if r ∈ V then V else V ++ [r] := by
    show nums [] (if (11 : Int) = 11 ∧ r ∉ V then V ++ [r] else V) = _
    by_cases h : r ∈ V <;> simp [h, nums]
  rw [h1]
  refine ⟨?_, rfl⟩
  show _ = l ++ [ren _ _]
  unfold ren
  rw [if_pos rfl]
theorem varD_snoc {r : Nat} {V : List Int} (h : (r : Int) ∉ V) : (fun x : Nat => if x = r then some (Value.int .i64 ((V.length : Nat) : Int)) else varD V x) = varD (V ++ [(r : Int)]) := by
  funext x
  unfold varD
  by_cases hx : x = r
  · subst hx
    rw [if_pos rfl, if_pos (by simp), List.idxOf_append, if_neg h]
    simp
  · rw [if_neg hx]
    have hne : ¬ (x : Int) = (r : Int) := by omega
    by_cases hm : (x : Int) ∈ V
    · rw [if_pos hm, if_pos (by simp [hm]), List.idxOf_append, if_pos hm]
    · rw [if_neg hm, if_neg (by simp [hm, hne])]
theorem LayPost.keeps {N : Nat → Option Nd} {w1 w w' : World} {ob b base : Nat} {v : Value} {l : List Part} {V : List Int} {T : Ty} (h : LayPost N ob b base v l V T w w') (hK : ∀ k, LayK ob b v k → k < w1.heap.size) {p : Addr} (hp : w1.heap.size ≤ p.block) {u : Value} (hc : w.cell? p = some u) : w'.cell? p = some u := by
  obtain ⟨_, _, hs, _⟩ := h
  rw [← hc]
  have hlt := World.block_lt_of_cell? w p hc
  unfold World.cell?
  rw [hs.block p.block hlt (fun e => by have := hK _ e; omega)]
theorem LayP.lts {N : Nat → Option Nd} {W w : World} {ob b base pb : Nat} {v0 v : Value} {l : List Part} {V : List Int} {p : Part} (h : LayP N W w ob b base v0 v l V pb p) : pb < w.heap.size ∧ ∀ k, LayK ob b v k → k < w.heap.size := by
  refine ⟨h.blk.lt, fun k hk => ?_⟩
  rcases hk with e | e | e
  · rw [e]; exact h.lay.out.lt
  · rw [e]; exact h.lay.map.lt
  · exact own_lt h.lay.own k e
def LayIH (N : Nat → Option Nd) (ob b base m : Nat) : Prop := ∀ (T : Ty) (g : Nat) (W : World) (v : Value) (l : List Part) (V : List Int), T.size ≤ m → T.wf → Den N g T → LayW N W ob b base v l V → l.length + T.size ≤ 1000 →
  Calls Tryd.prog 45 #[ptr g, ptr ob, .map (some b)] W fun e W' => e = .returned (.int .i64 ((l.length + T.size - 1 : Nat) : Int)) ∧ LayPost N ob b base v l V T W W'
set_option maxRecDepth 100000 in
set_option maxHeartbeats 8000000 in
theorem c45leaf {N : Nat → Option Nd} {g r n : Nat} {k : Int} {t : List UInt8} (hr : Rep N g r n) (hd : Den N r (Ty.leaf k t)) (hw : (Ty.leaf k t).wf) {W : World} {ob b base : Nat} {vc : Value} {l : List Part} {V : List Int} (hL : LayW N W ob b base vc l V) (hl : l.length + 1 ≤ 1000) :
    Calls Tryd.prog 45 #[ptr g, ptr ob, .map (some b)] W fun e W' => e = .returned (.int .i64 ((l.length + 1 - 1 : Nat) : Int)) ∧ LayPost N ob b base vc l V (Ty.leaf k t) W W' := by
  obtain ⟨a0, a1, _⟩ := hd.cells hr.isRoot hL.mem
  obtain ⟨_, ls, hparts, hlen, hkid⟩ := hd.parts hr.isRoot
  obtain ⟨ndr, er, _⟩ := hr.isRoot
  have la := (hL.mem _ _ er).lt
  have HR := Lib.hid hr
  have HD := Lib.hid hd
  have HW := Lib.hid hw
  have HL := Lib.hid hL
  have HLN0 := Lib.hid hl
  obtain rfl : ls = [] := List.eq_nil_of_length_eq_zero hlen
  have HLC := Lib.hid (show l.length ≤ 1000 by omega)
  have hk : k ≠ 11 := by simp only [Ty.wf] at hw; omega
  have HK := Lib.hid hk
  have fk : (k == 11) = false := beq_false_of_ne hk
  clear hw hk
  replace a0 : W.cell? ⟨r, 0, none⟩ = some (.int .i64 k) := a0
  replace a1 : W.cell? ⟨r, 1, none⟩ = some (strV t) := a1
  have HP := Lib.hid hparts
  clear hr hd er hL hparts hlen hl hkid
  go_enter Tryd.func45, Tryd.ntmps45
  go_wp2_with fail
  refine (c41 HR.out W HL.out.mem).mono ?_
  rintro e _ ⟨rfl, rfl⟩
  go_wp2_with fail
  have DL := Lib.hid (show r < W.drew.heap.size from la)
  have DC := Lib.hid (show W.drew.cell? ⟨r, 0, none⟩ = some (.int .i64 k) ∧ W.drew.cell? ⟨r, 1, none⟩ = some (strV t) from ⟨a0, a1⟩)
  have DB := Lib.hid ((Below.refl W.heap.size W).drew)
  clear a0 a1 la
  refine wp_region_last (S := fun V => V.cell? ⟨r, 0, none⟩ = some (.int .i64 k) ∧ V.cell? ⟨r, 1, none⟩ = some (strV t)) 10 (by kernel_rfl) (by kernel_rfl) (by kernel_rfl) (by kernel_rfl) DC.out (fun hHeld => ?_)
  generalize W.drew = d at DL DC DB hHeld ⊢
  refine wpAnyH_take (i := 0) (oi := ⟨some 13, _, _, _, _, _⟩) (v := ?_) rfl (by kernel_rfl) (by kernel_rfl) (by kernel_rfl) (fun _ _ _ h => h) (Or.inl ⟨by kernel_rfl, ?_⟩) (by assumption) ?_
  rotate_left
  · intro w hSw
    go_simp
    try with_reducible rfl
  try simp only [Act.put, List.setIfInBounds_toArray, List.set_cons_zero, List.set_cons_succ]
  refine wpAnyH_take (i := 1) (oi := ⟨some 14, _, _, _, _, _⟩) (v := ?_) rfl (by kernel_rfl) (by kernel_rfl) (by kernel_rfl) (fun _ _ _ h => h) (Or.inl ⟨by kernel_rfl, ?_⟩) (by assumption) ?_
  rotate_left
  · intro w hSw
    go_simp
    try with_reducible rfl
  try simp only [Act.put, List.setIfInBounds_toArray, List.set_cons_zero, List.set_cons_succ]
  refine wpAnyH_take (i := 2) (oi := ⟨some 15, _, _, _, _, _⟩) (v := ?_) rfl (by kernel_rfl) (by kernel_rfl) (by kernel_rfl) (fun _ _ _ h => h) (Or.inl ⟨by kernel_rfl, ?_⟩) (by assumption) ?_
  rotate_left
  · intro w hSw
    go_simp
    try with_reducible rfl
  try simp only [Act.put, List.setIfInBounds_toArray, List.set_cons_zero, List.set_cons_succ]
  refine wpAnyH_take (i := 3) (oi := ⟨some 16, _, _, _, _, _⟩) (v := ?_) rfl (by kernel_rfl) (by kernel_rfl) (by kernel_rfl) (fun _ _ _ h => h) (Or.inl ⟨by kernel_rfl, ?_⟩) (by assumption) ?_
  rotate_left
  · intro w hSw
    go_simp
    try with_reducible rfl
  try simp only [Act.put, List.setIfInBounds_toArray, List.set_cons_zero, List.set_cons_succ]
  refine wpAnyH_take (i := 4) (oi := ⟨some 17, _, _, _, _, _⟩) (v := ?_) rfl (by kernel_rfl) (by kernel_rfl) (by kernel_rfl) (fun _ _ _ h => h) (Or.inl ⟨by kernel_rfl, ?_⟩) (by assumption) ?_
  rotate_left
  · intro w hSw
    go_simp
    try with_reducible rfl
  try simp only [Act.put, List.setIfInBounds_toArray, List.set_cons_zero, List.set_cons_succ]
  refine wpAnyH_take (i := 5) (oi := ⟨some 18, _, _, _, _, _⟩) (v := ?_) rfl (by kernel_rfl) (by kernel_rfl) (by kernel_rfl) (fun _ _ _ h => h) (Or.inl ⟨by kernel_rfl, ?_⟩) (by assumption) ?_
  rotate_left
  · intro w hSw
    go_simp
    try with_reducible rfl
  try simp only [Act.put, List.setIfInBounds_toArray, List.set_cons_zero, List.set_cons_succ]
  refine wpAnyH_take (i := 6) (oi := ⟨some 19, _, _, _, _, _⟩) (v := ?_) rfl (by kernel_rfl) (by kernel_rfl) (by kernel_rfl) (fun _ _ _ h => h) (Or.inl ⟨by kernel_rfl, ?_⟩) (by assumption) ?_
  rotate_left
  · intro w hSw
    go_simp
    try with_reducible rfl
  try simp only [Act.put, List.setIfInBounds_toArray, List.set_cons_zero, List.set_cons_succ]
  refine wpAnyH_take (i := 7) (oi := ⟨some 20, _, _, _, _, _⟩) (v := ?_) rfl (by kernel_rfl) (by kernel_rfl) (by kernel_rfl) (fun _ _ _ h => h) (Or.inl ⟨by kernel_rfl, ?_⟩) (by assumption) ?_
  rotate_left
  · intro w hSw
    go_simp
    try with_reducible rfl
  try simp only [Act.put, List.setIfInBounds_toArray, List.set_cons_zero, List.set_cons_succ]
  refine wpAnyH_take (i := 8) (oi := ⟨some 21, _, _, _, _, _⟩) (v := ?_) rfl (by kernel_rfl) (by kernel_rfl) (by kernel_rfl) (fun _ _ _ h => h) (Or.inl ⟨by kernel_rfl, ?_⟩) (by assumption) ?_
  rotate_left
  · intro w hSw
    go_simp
    try with_reducible rfl
  try simp only [Act.put, List.setIfInBounds_toArray, List.set_cons_zero, List.set_cons_succ]
  refine wpAnyH_ready (rs := [9]) (by kernel_rfl) (by simp) ?_
  refine AllReadyH.cons (o := ⟨some 7, _, _, _, _, _⟩) rfl (fun K hK => ?_) AllReadyH.nil
  go_simp
  refine hK.out _ _ ?_ (fun hHeld => ?_)
  · exact ⟨by rw [allocb _ _ _ _ DL.out]; exact DC.out.1, by rw [allocb _ _ _ _ DL.out]; exact DC.out.2⟩
  clear hK K
  try simp only [Act.put, List.setIfInBounds_toArray, List.set_cons_zero, List.set_cons_succ]
  refine wpAnyH_done (by kernel_rfl) ?_ _
  refine lastPost_run (o := ⟨none, _, _, _, _, _⟩) rfl (fun K hK => ?_)
  go_simp
  refine hK.out _ _ ?_
  clear hK K
  have DP := Lib.hid (LayP.start HL.out DB.out ⟨k, 0, 0, 0, t⟩)
  change Exit.then _ _ _ _ (d.alloc (.cells (partC ⟨k, 0, 0, 0, t⟩).toArray 29))
  generalize d.heap.size = pb at DP ⊢
  generalize d.alloc (.cells (partC ⟨k, 0, 0, 0, t⟩).toArray 29) = w1 at DP ⊢
  clear DL DC DB
  go_wp2_with fail
  refine (c43 HR.out.isRoot.rep HP.out w1 DP.out.lay.mem).mono ?_
  rintro e w2 ⟨A, rfl, hrd, hb2, hfr⟩
  have HFR := Lib.hid hfr
  have HLT := Lib.hid DP.out.lts
  clear hfr
  have DP2 := Lib.hid (DP.out.next hb2)
  have HRD := Lib.hid hrd
  clear hrd hb2 DP
  have a0 := (HD.out.cells HR.out.isRoot DP2.out.lay.mem).1
  replace a0 : w2.cell? ⟨r, 0, none⟩ = some (.int .i64 k) := a0
  go_wp2_with fail
  have DP := DP2
  clear DP2
  have EP := Lib.hid DP.out.drew
  have e0 := EP.out.lay.out.cell 0
  have p0 := EP.out.blk.cell 0
  have p1 := EP.out.blk.cell 1
  have p2 := EP.out.blk.cell 2
  have p3 := EP.out.blk.cell 3
  have p4 := EP.out.blk.cell 4
  replace e0 : w2.drew.cell? ⟨ob, 0, none⟩ = some vc := e0
  replace p0 : w2.drew.cell? ⟨pb, 0, none⟩ = some (.int .i64 k) := p0
  replace p1 : w2.drew.cell? ⟨pb, 1, none⟩ = some (.int .i64 0) := p1
  replace p2 : w2.drew.cell? ⟨pb, 2, none⟩ = some (.int .i64 0) := p2
  replace p3 : w2.drew.cell? ⟨pb, 3, none⟩ = some (.int .i64 0) := p3
  replace p4 : w2.drew.cell? ⟨pb, 4, none⟩ = some (strV t) := p4
  obtain ⟨Ac, cc, rfl⟩ := own_form EP.out.lay.own
  obtain ⟨i29, fi29, hz0, hz1, hz2⟩ := info_parts part_info
  generalize hnc : l.length = nc at EP HL HLC DP e0 ⊢
  have HNC := Lib.hid hnc
  have HLN := HLC
  clear hnc
  refine wp_region_last (S := fun V => V.cell? ⟨ob, 0, none⟩ = some (.slice Ac nc cc) ∧ V.cell? ⟨pb, 0, none⟩ = some (.int .i64 k) ∧ V.cell? ⟨pb, 1, none⟩ = some (.int .i64 0) ∧ V.cell? ⟨pb, 2, none⟩ = some (.int .i64 0) ∧ V.cell? ⟨pb, 3, none⟩ = some (.int .i64 0) ∧ V.cell? ⟨pb, 4, none⟩ = some (strV t)) 8 (by kernel_rfl) (by kernel_rfl) (by kernel_rfl) (by kernel_rfl) ⟨e0, p0, p1, p2, p3, p4⟩ (fun hHeld => ?_)
  generalize w2.drew = d at EP hHeld ⊢
  refine wpAnyH_take (i := 0) (oi := ⟨some 64, _, _, _, _, _⟩) (v := ?_) rfl (by kernel_rfl) (by kernel_rfl) (by kernel_rfl) (fun _ _ _ h => h) (Or.inl ⟨by kernel_rfl, ?_⟩) (by assumption) ?_
  rotate_left
  · intro w hSw
    go_simp
    try with_reducible rfl
  try simp only [Act.put, List.setIfInBounds_toArray, List.set_cons_zero, List.set_cons_succ]
  refine wpAnyH_take (i := 1) (oi := ⟨some 65, _, _, _, _, _⟩) (v := ?_) rfl (by kernel_rfl) (by kernel_rfl) (by kernel_rfl) (fun _ _ _ h => h) (Or.inl ⟨by kernel_rfl, ?_⟩) (by assumption) ?_
  rotate_left
  · intro w hSw
    go_simp
    try with_reducible rfl
  try simp only [Act.put, List.setIfInBounds_toArray, List.set_cons_zero, List.set_cons_succ]
  refine wpAnyH_take (i := 2) (oi := ⟨some 66, _, _, _, _, _⟩) (v := ?_) rfl (by kernel_rfl) (by kernel_rfl) (by kernel_rfl) (fun _ _ _ h => h) (Or.inl ⟨by kernel_rfl, ?_⟩) (by assumption) ?_
  rotate_left
  · intro w hSw
    go_simp
    try with_reducible rfl
  try simp only [Act.put, List.setIfInBounds_toArray, List.set_cons_zero, List.set_cons_succ]
  refine wpAnyH_take (i := 3) (oi := ⟨some 67, _, _, _, _, _⟩) (v := ?_) rfl (by kernel_rfl) (by kernel_rfl) (by kernel_rfl) (fun _ _ _ h => h) (Or.inl ⟨by kernel_rfl, ?_⟩) (by assumption) ?_
  rotate_left
  · intro w hSw
    go_simp
    try with_reducible rfl
  try simp only [Act.put, List.setIfInBounds_toArray, List.set_cons_zero, List.set_cons_succ]
  refine wpAnyH_take (i := 4) (oi := ⟨some 68, _, _, _, _, _⟩) (v := ?_) rfl (by kernel_rfl) (by kernel_rfl) (by kernel_rfl) (fun _ _ _ h => h) (Or.inl ⟨by kernel_rfl, ?_⟩) (by assumption) ?_
  rotate_left
  · intro w hSw
    go_simp
    try with_reducible rfl
  try simp only [Act.put, List.setIfInBounds_toArray, List.set_cons_zero, List.set_cons_succ]
  refine wpAnyH_ready (rs := [5]) (by kernel_rfl) (by simp) ?_
  refine AllReadyH.cons (o := ⟨some 69, _, _, _, _, _⟩) rfl (fun K hK => ?_) AllReadyH.nil
  go_simp
  refine hK.out _ _ ?_ (fun hHeld => ?_)
  · exact (have E6 := EP.out.next (below_new _ _); ⟨E6.lay.out.cell 0, E6.blk.cell 0, E6.blk.cell 1, E6.blk.cell 2, E6.blk.cell 3, E6.blk.cell 4⟩)
  clear hK K
  try simp only [Act.put, List.setIfInBounds_toArray, List.set_cons_zero, List.set_cons_succ]
  have E6 := EP.out.next (below_new _ (.cells (partC ⟨k, 0, 0, 0, t⟩).toArray 29))
  have E6o := Lib.hid (HNC.out ▸ E6.lay.own : (d.alloc (.cells (partC ⟨k, 0, 0, 0, t⟩).toArray 29)).ownsRow base 29 5 (.slice Ac nc cc) nc (l.flatMap partC))
  have E6b := Lib.hid E6.blk
  have E6q := Lib.hid E6.lay.out
  have E6s := Lib.hid E6.lay.base
  have E6n := Lib.hid E6.ne
  clear E6
  refine wpAnyH_ready (rs := [6]) (by kernel_rfl) (by simp) ?_
  refine AllReadyH.cons (o := ⟨some 70, _, _, _, _, _⟩) rfl (fun K hK => ?_) AllReadyH.nil
  refine step_append_any _ (by rfl) (.tmp 67) (.tmp 69) 23 (by rfl) base 29 i29 _ 5 48 Tryd.underlying23 fi29 hz0 hz1 hz2 rfl (by omega) (.slice Ac nc cc) nc (l.flatMap partC) (by rfl) E6o.out (d.heap.size + 1) (some ⟨d.heap.size, 0, none⟩) 1 1 (partC ⟨k, 0, 0, 0, t⟩) (by rfl) (reads_blkN (Blk.new d 29 (partC ⟨k, 0, 0, 0, t⟩).toArray) rfl) (by simp [partC, Value.oneCell']) (by unfold maxLen; have := HLN.out; omega) (by have := HLN.out; omega) E6s.out ?_
  intro v1 w7 oA gA hnA
  obtain ⟨a1, c1, rfl⟩ := own_form oA
  have Q7 := E6q.out.grown gA (fun e => own_blk_ne E6o.out E6q.out (by decide) e.symm)
  have P7 : Blk w7 pb 29 (partC ⟨k, 0, 0, 0, t⟩).toArray := E6b.out.grown gA (fun e => E6n.out pb e.symm rfl)
  have z1 := Q7.cell 0
  have z1f := Q7.frozen 0
  have HO := Lib.hid oA
  have HG := Lib.hid gA
  have HNA := Lib.hid hnA
  clear oA gA hnA
  refine hK.out _ _ ?_ (fun hHeld => ?_)
  · exact ⟨Q7.cell 0, P7.cell 0, P7.cell 1, P7.cell 2, P7.cell 3, P7.cell 4⟩
  clear hK K
  try simp only [Act.put, List.setIfInBounds_toArray, List.set_cons_zero, List.set_cons_succ]
  refine wpAnyH_take (i := 7) (oi := ⟨some 71, _, _, _, _, _⟩) (v := ?_) rfl (by kernel_rfl) (by kernel_rfl) (by kernel_rfl) (fun _ _ _ h => h) (Or.inl ⟨by kernel_rfl, ?_⟩) (by assumption) ?_
  rotate_left
  · intro w hSw
    go_simp
    try with_reducible rfl
  try simp only [Act.put, List.setIfInBounds_toArray, List.set_cons_zero, List.set_cons_succ]
  refine wpAnyH_done (by kernel_rfl) ?_ _
  refine lastPost_run (o := ⟨none, _, _, _, _, _⟩) rfl (fun K hK => ?_)
  go_simp
  refine hK.out _ _ ?_
  clear hK K
  have z2 := (Q7.set_ 0 (.slice a1 (nc + 1) c1)).cell 0
  have hn1 : nc ≤ 1000 := HLN.out
  clear z1 z1f Q7 P7 e0 p0 p1 p2 p3 p4 hHeld
  go_wp2_with fail
  go_ret
  have hR : ∀ {z : Nat}, z = nc → Ending.returned (.int .i64 (nc : Int)) = .returned (.int .i64 (z : Int)) := fun e => by rw [e]
  obtain ⟨hl1, hV1⟩ := lay_leaf (t := t) HK.out l V
  have hnc := HNC.out
  subst hnc
  exact ⟨hR (by have := HNC.out; omega), EP.out.done rfl HO.out HG.out HNA.out hl1 hV1⟩
set_option maxRecDepth 100000 in
set_option maxHeartbeats 8000000 in
theorem c45one {N : Nat → Option Nd} {g r n : Nat} {k : Int} {s : Ty} (hr : Rep N g r n) (hd : Den N r (Ty.one k s)) (hw : (Ty.one k s).wf) {W : World} {ob b base : Nat} {vc : Value} {l : List Part} {V : List Int} (hL : LayW N W ob b base vc l V) (hl : l.length + (s.size + 1) ≤ 1000) (hih1 : LayIH N ob b base s.size) :
    Calls Tryd.prog 45 #[ptr g, ptr ob, .map (some b)] W fun e W' => e = .returned (.int .i64 ((l.length + (s.size + 1) - 1 : Nat) : Int)) ∧ LayPost N ob b base vc l V (Ty.one k s) W W' := by
  obtain ⟨a0, a1, _⟩ := hd.cells hr.isRoot hL.mem
  obtain ⟨_, ls, hparts, hlen, hkid⟩ := hd.parts hr.isRoot
  obtain ⟨ndr, er, _⟩ := hr.isRoot
  have la := (hL.mem _ _ er).lt
  have HR := Lib.hid hr
  have HD := Lib.hid hd
  have HW := Lib.hid hw
  have HL := Lib.hid hL
  have HLN0 := Lib.hid hl
  have hk : k ≠ 11 := by have := hw.1; omega
  have HK := Lib.hid hk
  have fk : (k == 11) = false := beq_false_of_ne hk
  obtain ⟨x, rfl⟩ : ∃ x, ls = [x] := List.length_eq_one_iff.1 hlen
  have HX := Lib.hid (hkid 0 x s rfl rfl).1
  have hsp := s.size_pos
  have HSP := Lib.hid hsp
  clear hw hk hsp
  replace a0 : W.cell? ⟨r, 0, none⟩ = some (.int .i64 k) := a0
  replace a1 : W.cell? ⟨r, 1, none⟩ = some (strV []) := a1
  have HP := Lib.hid hparts
  clear hr hd er hL hparts hlen hl hkid
  go_enter Tryd.func45, Tryd.ntmps45
  go_wp2_with fail
  refine (c41 HR.out W HL.out.mem).mono ?_
  rintro e _ ⟨rfl, rfl⟩
  go_wp2_with fail
  have DL := Lib.hid (show r < W.drew.heap.size from la)
  have DC := Lib.hid (show W.drew.cell? ⟨r, 0, none⟩ = some (.int .i64 k) ∧ W.drew.cell? ⟨r, 1, none⟩ = some (strV []) from ⟨a0, a1⟩)
  have DB := Lib.hid ((Below.refl W.heap.size W).drew)
  clear a0 a1 la
  refine wp_region_last (S := fun V => V.cell? ⟨r, 0, none⟩ = some (.int .i64 k) ∧ V.cell? ⟨r, 1, none⟩ = some (strV [])) 10 (by kernel_rfl) (by kernel_rfl) (by kernel_rfl) (by kernel_rfl) DC.out (fun hHeld => ?_)
  generalize W.drew = d at DL DC DB hHeld ⊢
  refine wpAnyH_take (i := 0) (oi := ⟨some 13, _, _, _, _, _⟩) (v := ?_) rfl (by kernel_rfl) (by kernel_rfl) (by kernel_rfl) (fun _ _ _ h => h) (Or.inl ⟨by kernel_rfl, ?_⟩) (by assumption) ?_
  rotate_left
  · intro w hSw
    go_simp
    try with_reducible rfl
  try simp only [Act.put, List.setIfInBounds_toArray, List.set_cons_zero, List.set_cons_succ]
  refine wpAnyH_take (i := 1) (oi := ⟨some 14, _, _, _, _, _⟩) (v := ?_) rfl (by kernel_rfl) (by kernel_rfl) (by kernel_rfl) (fun _ _ _ h => h) (Or.inl ⟨by kernel_rfl, ?_⟩) (by assumption) ?_
  rotate_left
  · intro w hSw
    go_simp
    try with_reducible rfl
  try simp only [Act.put, List.setIfInBounds_toArray, List.set_cons_zero, List.set_cons_succ]
  refine wpAnyH_take (i := 2) (oi := ⟨some 15, _, _, _, _, _⟩) (v := ?_) rfl (by kernel_rfl) (by kernel_rfl) (by kernel_rfl) (fun _ _ _ h => h) (Or.inl ⟨by kernel_rfl, ?_⟩) (by assumption) ?_
  rotate_left
  · intro w hSw
    go_simp
    try with_reducible rfl
  try simp only [Act.put, List.setIfInBounds_toArray, List.set_cons_zero, List.set_cons_succ]
  refine wpAnyH_take (i := 3) (oi := ⟨some 16, _, _, _, _, _⟩) (v := ?_) rfl (by kernel_rfl) (by kernel_rfl) (by kernel_rfl) (fun _ _ _ h => h) (Or.inl ⟨by kernel_rfl, ?_⟩) (by assumption) ?_
  rotate_left
  · intro w hSw
    go_simp
    try with_reducible rfl
  try simp only [Act.put, List.setIfInBounds_toArray, List.set_cons_zero, List.set_cons_succ]
  refine wpAnyH_take (i := 4) (oi := ⟨some 17, _, _, _, _, _⟩) (v := ?_) rfl (by kernel_rfl) (by kernel_rfl) (by kernel_rfl) (fun _ _ _ h => h) (Or.inl ⟨by kernel_rfl, ?_⟩) (by assumption) ?_
  rotate_left
  · intro w hSw
    go_simp
    try with_reducible rfl
  try simp only [Act.put, List.setIfInBounds_toArray, List.set_cons_zero, List.set_cons_succ]
  refine wpAnyH_take (i := 5) (oi := ⟨some 18, _, _, _, _, _⟩) (v := ?_) rfl (by kernel_rfl) (by kernel_rfl) (by kernel_rfl) (fun _ _ _ h => h) (Or.inl ⟨by kernel_rfl, ?_⟩) (by assumption) ?_
  rotate_left
  · intro w hSw
    go_simp
    try with_reducible rfl
  try simp only [Act.put, List.setIfInBounds_toArray, List.set_cons_zero, List.set_cons_succ]
  refine wpAnyH_take (i := 6) (oi := ⟨some 19, _, _, _, _, _⟩) (v := ?_) rfl (by kernel_rfl) (by kernel_rfl) (by kernel_rfl) (fun _ _ _ h => h) (Or.inl ⟨by kernel_rfl, ?_⟩) (by assumption) ?_
  rotate_left
  · intro w hSw
    go_simp
    try with_reducible rfl
  try simp only [Act.put, List.setIfInBounds_toArray, List.set_cons_zero, List.set_cons_succ]
  refine wpAnyH_take (i := 7) (oi := ⟨some 20, _, _, _, _, _⟩) (v := ?_) rfl (by kernel_rfl) (by kernel_rfl) (by kernel_rfl) (fun _ _ _ h => h) (Or.inl ⟨by kernel_rfl, ?_⟩) (by assumption) ?_
  rotate_left
  · intro w hSw
    go_simp
    try with_reducible rfl
  try simp only [Act.put, List.setIfInBounds_toArray, List.set_cons_zero, List.set_cons_succ]
  refine wpAnyH_take (i := 8) (oi := ⟨some 21, _, _, _, _, _⟩) (v := ?_) rfl (by kernel_rfl) (by kernel_rfl) (by kernel_rfl) (fun _ _ _ h => h) (Or.inl ⟨by kernel_rfl, ?_⟩) (by assumption) ?_
  rotate_left
  · intro w hSw
    go_simp
    try with_reducible rfl
  try simp only [Act.put, List.setIfInBounds_toArray, List.set_cons_zero, List.set_cons_succ]
  refine wpAnyH_ready (rs := [9]) (by kernel_rfl) (by simp) ?_
  refine AllReadyH.cons (o := ⟨some 7, _, _, _, _, _⟩) rfl (fun K hK => ?_) AllReadyH.nil
  go_simp
  refine hK.out _ _ ?_ (fun hHeld => ?_)
  · exact ⟨by rw [allocb _ _ _ _ DL.out]; exact DC.out.1, by rw [allocb _ _ _ _ DL.out]; exact DC.out.2⟩
  clear hK K
  try simp only [Act.put, List.setIfInBounds_toArray, List.set_cons_zero, List.set_cons_succ]
  refine wpAnyH_done (by kernel_rfl) ?_ _
  refine lastPost_run (o := ⟨none, _, _, _, _, _⟩) rfl (fun K hK => ?_)
  go_simp
  refine hK.out _ _ ?_
  clear hK K
  have DP := Lib.hid (LayP.start HL.out DB.out ⟨k, 0, 0, 0, []⟩)
  change Exit.then _ _ _ _ (d.alloc (.cells (partC ⟨k, 0, 0, 0, []⟩).toArray 29))
  generalize d.heap.size = pb at DP ⊢
  generalize d.alloc (.cells (partC ⟨k, 0, 0, 0, []⟩).toArray 29) = w1 at DP ⊢
  clear DL DC DB
  go_wp2_with fail
  refine (c43 HR.out.isRoot.rep HP.out w1 DP.out.lay.mem).mono ?_
  rintro e w2 ⟨A, rfl, hrd, hb2, hfr⟩
  have HFR := Lib.hid hfr
  have HLT := Lib.hid DP.out.lts
  clear hfr
  have DP2 := Lib.hid (DP.out.next hb2)
  have HRD := Lib.hid hrd
  clear hrd hb2 DP
  obtain ⟨ad, rfl, _, x0⟩ := HRD.out.ptrAt (k := 0) (x := x) rfl
  replace x0 : w2.cell? ad = some (ptr x) := by simpa [Addr.add] using x0
  have DPx := DP2
  clear DP2
  go_wp2_with fail
  refine (hih1 s x _ _ l V (Nat.le_refl _) HW.out.2 HX.out DPx.out.lay (by have := HLN0.out; omega)).mono ?_
  rintro e w3 ⟨rfl, hp⟩
  obtain ⟨v1, hP1⟩ := DPx.out.laid hp
  have c1 := hP1.blk.cell 1
  have f1 := hP1.blk.frozen 1
  have DPy := Lib.hid (hP1.setp (i := 1) (u := .int .i64 ((l.length + s.size - 1 : Nat) : Int)) (q := ⟨k, ((l.length + s.size - 1 : Nat) : Int), 0, 0, []⟩) rfl)
  clear hp hP1 DPx
  generalize hz : l.length + s.size - 1 = z at DPy ⊢
  have HZ := Lib.hid hz
  clear hz x0
  have a0 := (HD.out.cells HR.out.isRoot DPy.out.lay.mem).1
  replace a0 : (w3.setCell ⟨pb, 1, none⟩ (.int .i64 (z : Int))).cell? ⟨r, 0, none⟩ = some (.int .i64 k) := a0
  go_wp2_with fail
  clear a0 c1 f1
  generalize w3.setCell ⟨pb, 1, none⟩ (.int .i64 (z : Int)) = w4 at DPy ⊢
  have DP := DPy
  clear DPy
  generalize hlc : l ++ (enc l.length s).map (ren (nums (enc l.length s) V)) = lc at DP
  have HLE := Lib.hid hlc
  have HLC := Lib.hid (show lc.length ≤ 1000 by rw [← hlc, List.length_append, List.length_map, enc_len]; have := HLN0.out; omega)
  clear hlc
  generalize hvc : v1 = vk at DP
  have EP := Lib.hid DP.out.drew
  have e0 := EP.out.lay.out.cell 0
  have p0 := EP.out.blk.cell 0
  have p1 := EP.out.blk.cell 1
  have p2 := EP.out.blk.cell 2
  have p3 := EP.out.blk.cell 3
  have p4 := EP.out.blk.cell 4
  replace e0 : w4.drew.cell? ⟨ob, 0, none⟩ = some vk := e0
  replace p0 : w4.drew.cell? ⟨pb, 0, none⟩ = some (.int .i64 k) := p0
  replace p1 : w4.drew.cell? ⟨pb, 1, none⟩ = some (.int .i64 (z : Int)) := p1
  replace p2 : w4.drew.cell? ⟨pb, 2, none⟩ = some (.int .i64 0) := p2
  replace p3 : w4.drew.cell? ⟨pb, 3, none⟩ = some (.int .i64 0) := p3
  replace p4 : w4.drew.cell? ⟨pb, 4, none⟩ = some (strV []) := p4
  obtain ⟨Ac, cc, rfl⟩ := own_form EP.out.lay.own
  obtain ⟨i29, fi29, hz0, hz1, hz2⟩ := info_parts part_info
  generalize hnc : lc.length = nc at EP HL HLC DP e0 ⊢
  have HNC := Lib.hid hnc
  have HLN := HLC
  clear hnc
  refine wp_region_last (S := fun V => V.cell? ⟨ob, 0, none⟩ = some (.slice Ac nc cc) ∧ V.cell? ⟨pb, 0, none⟩ = some (.int .i64 k) ∧ V.cell? ⟨pb, 1, none⟩ = some (.int .i64 (z : Int)) ∧ V.cell? ⟨pb, 2, none⟩ = some (.int .i64 0) ∧ V.cell? ⟨pb, 3, none⟩ = some (.int .i64 0) ∧ V.cell? ⟨pb, 4, none⟩ = some (strV [])) 8 (by kernel_rfl) (by kernel_rfl) (by kernel_rfl) (by kernel_rfl) ⟨e0, p0, p1, p2, p3, p4⟩ (fun hHeld => ?_)
  generalize w4.drew = d at EP hHeld ⊢
  refine wpAnyH_take (i := 0) (oi := ⟨some 64, _, _, _, _, _⟩) (v := ?_) rfl (by kernel_rfl) (by kernel_rfl) (by kernel_rfl) (fun _ _ _ h => h) (Or.inl ⟨by kernel_rfl, ?_⟩) (by assumption) ?_
  rotate_left
  · intro w hSw
    go_simp
    try with_reducible rfl
  try simp only [Act.put, List.setIfInBounds_toArray, List.set_cons_zero, List.set_cons_succ]
  refine wpAnyH_take (i := 1) (oi := ⟨some 65, _, _, _, _, _⟩) (v := ?_) rfl (by kernel_rfl) (by kernel_rfl) (by kernel_rfl) (fun _ _ _ h => h) (Or.inl ⟨by kernel_rfl, ?_⟩) (by assumption) ?_
  rotate_left
  · intro w hSw
    go_simp
    try with_reducible rfl
  try simp only [Act.put, List.setIfInBounds_toArray, List.set_cons_zero, List.set_cons_succ]
  refine wpAnyH_take (i := 2) (oi := ⟨some 66, _, _, _, _, _⟩) (v := ?_) rfl (by kernel_rfl) (by kernel_rfl) (by kernel_rfl) (fun _ _ _ h => h) (Or.inl ⟨by kernel_rfl, ?_⟩) (by assumption) ?_
  rotate_left
  · intro w hSw
    go_simp
    try with_reducible rfl
  try simp only [Act.put, List.setIfInBounds_toArray, List.set_cons_zero, List.set_cons_succ]
  refine wpAnyH_take (i := 3) (oi := ⟨some 67, _, _, _, _, _⟩) (v := ?_) rfl (by kernel_rfl) (by kernel_rfl) (by kernel_rfl) (fun _ _ _ h => h) (Or.inl ⟨by kernel_rfl, ?_⟩) (by assumption) ?_
  rotate_left
  · intro w hSw
    go_simp
    try with_reducible rfl
  try simp only [Act.put, List.setIfInBounds_toArray, List.set_cons_zero, List.set_cons_succ]
  refine wpAnyH_take (i := 4) (oi := ⟨some 68, _, _, _, _, _⟩) (v := ?_) rfl (by kernel_rfl) (by kernel_rfl) (by kernel_rfl) (fun _ _ _ h => h) (Or.inl ⟨by kernel_rfl, ?_⟩) (by assumption) ?_
  rotate_left
  · intro w hSw
    go_simp
    try with_reducible rfl
  try simp only [Act.put, List.setIfInBounds_toArray, List.set_cons_zero, List.set_cons_succ]
  refine wpAnyH_ready (rs := [5]) (by kernel_rfl) (by simp) ?_
  refine AllReadyH.cons (o := ⟨some 69, _, _, _, _, _⟩) rfl (fun K hK => ?_) AllReadyH.nil
  go_simp
  refine hK.out _ _ ?_ (fun hHeld => ?_)
  · exact (have E6 := EP.out.next (below_new _ _); ⟨E6.lay.out.cell 0, E6.blk.cell 0, E6.blk.cell 1, E6.blk.cell 2, E6.blk.cell 3, E6.blk.cell 4⟩)
  clear hK K
  try simp only [Act.put, List.setIfInBounds_toArray, List.set_cons_zero, List.set_cons_succ]
  have E6 := EP.out.next (below_new _ (.cells (partC ⟨k, (z : Int), 0, 0, []⟩).toArray 29))
  have E6o := Lib.hid (HNC.out ▸ E6.lay.own : (d.alloc (.cells (partC ⟨k, (z : Int), 0, 0, []⟩).toArray 29)).ownsRow base 29 5 (.slice Ac nc cc) nc (lc.flatMap partC))
  have E6b := Lib.hid E6.blk
  have E6q := Lib.hid E6.lay.out
  have E6s := Lib.hid E6.lay.base
  have E6n := Lib.hid E6.ne
  clear E6
  refine wpAnyH_ready (rs := [6]) (by kernel_rfl) (by simp) ?_
  refine AllReadyH.cons (o := ⟨some 70, _, _, _, _, _⟩) rfl (fun K hK => ?_) AllReadyH.nil
  refine step_append_any _ (by rfl) (.tmp 67) (.tmp 69) 23 (by rfl) base 29 i29 _ 5 48 Tryd.underlying23 fi29 hz0 hz1 hz2 rfl (by omega) (.slice Ac nc cc) nc (lc.flatMap partC) (by rfl) E6o.out (d.heap.size + 1) (some ⟨d.heap.size, 0, none⟩) 1 1 (partC ⟨k, (z : Int), 0, 0, []⟩) (by rfl) (reads_blkN (Blk.new d 29 (partC ⟨k, (z : Int), 0, 0, []⟩).toArray) rfl) (by simp [partC, Value.oneCell']) (by unfold maxLen; have := HLN.out; omega) (by have := HLN.out; omega) E6s.out ?_
  intro v1 w7 oA gA hnA
  obtain ⟨a1, c1, rfl⟩ := own_form oA
  have Q7 := E6q.out.grown gA (fun e => own_blk_ne E6o.out E6q.out (by decide) e.symm)
  have P7 : Blk w7 pb 29 (partC ⟨k, (z : Int), 0, 0, []⟩).toArray := E6b.out.grown gA (fun e => E6n.out pb e.symm rfl)
  have z1 := Q7.cell 0
  have z1f := Q7.frozen 0
  have HO := Lib.hid oA
  have HG := Lib.hid gA
  have HNA := Lib.hid hnA
  clear oA gA hnA
  refine hK.out _ _ ?_ (fun hHeld => ?_)
  · exact ⟨Q7.cell 0, P7.cell 0, P7.cell 1, P7.cell 2, P7.cell 3, P7.cell 4⟩
  clear hK K
  try simp only [Act.put, List.setIfInBounds_toArray, List.set_cons_zero, List.set_cons_succ]
  refine wpAnyH_take (i := 7) (oi := ⟨some 71, _, _, _, _, _⟩) (v := ?_) rfl (by kernel_rfl) (by kernel_rfl) (by kernel_rfl) (fun _ _ _ h => h) (Or.inl ⟨by kernel_rfl, ?_⟩) (by assumption) ?_
  rotate_left
  · intro w hSw
    go_simp
    try with_reducible rfl
  try simp only [Act.put, List.setIfInBounds_toArray, List.set_cons_zero, List.set_cons_succ]
  refine wpAnyH_done (by kernel_rfl) ?_ _
  refine lastPost_run (o := ⟨none, _, _, _, _, _⟩) rfl (fun K hK => ?_)
  go_simp
  refine hK.out _ _ ?_
  clear hK K
  have z2 := (Q7.set_ 0 (.slice a1 (nc + 1) c1)).cell 0
  have hn1 : nc ≤ 1000 := HLN.out
  clear z1 z1f Q7 P7 e0 p0 p1 p2 p3 p4 hHeld
  go_wp2_with fail
  go_ret
  have hR : ∀ {z : Nat}, z = nc → Ending.returned (.int .i64 (nc : Int)) = .returned (.int .i64 (z : Int)) := fun e => by rw [e]
  obtain ⟨hl1, hV1⟩ := (show _ ∧ _ from (by have h := lay_one (s := s) HK.out l V; rw [HLE.out, HZ.out] at h; exact h))
  have hnc := HNC.out
  subst hnc
  exact ⟨hR (by have h1 := HLE.out; have := HSP.out; rw [← h1, List.length_append, List.length_map, enc_len]; omega), EP.out.done rfl HO.out HG.out HNA.out hl1 hV1⟩
set_option maxRecDepth 100000 in
set_option maxHeartbeats 8000000 in
theorem c45two {N : Nat → Option Nd} {g r n : Nat} {k : Int} {s u : Ty} (hr : Rep N g r n) (hd : Den N r (Ty.two k s u)) (hw : (Ty.two k s u).wf) {W : World} {ob b base : Nat} {vc : Value} {l : List Part} {V : List Int} (hL : LayW N W ob b base vc l V) (hl : l.length + (s.size + u.size + 1) ≤ 1000) (hih1 : LayIH N ob b base s.size) (hih2 : LayIH N ob b base u.size) :
    Calls Tryd.prog 45 #[ptr g, ptr ob, .map (some b)] W fun e W' => e = .returned (.int .i64 ((l.length + (s.size + u.size + 1) - 1 : Nat) : Int)) ∧ LayPost N ob b base vc l V (Ty.two k s u) W W' := by
  obtain ⟨a0, a1, _⟩ := hd.cells hr.isRoot hL.mem
  obtain ⟨_, ls, hparts, hlen, hkid⟩ := hd.parts hr.isRoot
  obtain ⟨ndr, er, _⟩ := hr.isRoot
  have la := (hL.mem _ _ er).lt
  have HR := Lib.hid hr
  have HD := Lib.hid hd
  have HW := Lib.hid hw
  have HL := Lib.hid hL
  have HLN0 := Lib.hid hl
  have hk : k ≠ 11 := by have := hw.1; omega
  have HK := Lib.hid hk
  have fk : (k == 11) = false := beq_false_of_ne hk
  obtain ⟨x, y, rfl⟩ : ∃ x y, ls = [x, y] := by
    match ls, hlen with
    | [x, y], _ => exact ⟨x, y, rfl⟩
  have HX := Lib.hid (hkid 0 x s rfl rfl).1
  have HY := Lib.hid (hkid 1 y u rfl rfl).1
  have hsp := s.size_pos
  have HSP := Lib.hid hsp
  have HSQ := Lib.hid u.size_pos
  clear hw hk hsp
  replace a0 : W.cell? ⟨r, 0, none⟩ = some (.int .i64 k) := a0
  replace a1 : W.cell? ⟨r, 1, none⟩ = some (strV []) := a1
  have HP := Lib.hid hparts
  clear hr hd er hL hparts hlen hl hkid
  go_enter Tryd.func45, Tryd.ntmps45
  go_wp2_with fail
  refine (c41 HR.out W HL.out.mem).mono ?_
  rintro e _ ⟨rfl, rfl⟩
  go_wp2_with fail
  have DL := Lib.hid (show r < W.drew.heap.size from la)
  have DC := Lib.hid (show W.drew.cell? ⟨r, 0, none⟩ = some (.int .i64 k) ∧ W.drew.cell? ⟨r, 1, none⟩ = some (strV []) from ⟨a0, a1⟩)
  have DB := Lib.hid ((Below.refl W.heap.size W).drew)
  clear a0 a1 la
  refine wp_region_last (S := fun V => V.cell? ⟨r, 0, none⟩ = some (.int .i64 k) ∧ V.cell? ⟨r, 1, none⟩ = some (strV [])) 10 (by kernel_rfl) (by kernel_rfl) (by kernel_rfl) (by kernel_rfl) DC.out (fun hHeld => ?_)
  generalize W.drew = d at DL DC DB hHeld ⊢
  refine wpAnyH_take (i := 0) (oi := ⟨some 13, _, _, _, _, _⟩) (v := ?_) rfl (by kernel_rfl) (by kernel_rfl) (by kernel_rfl) (fun _ _ _ h => h) (Or.inl ⟨by kernel_rfl, ?_⟩) (by assumption) ?_
  rotate_left
  · intro w hSw
    go_simp
    try with_reducible rfl
  try simp only [Act.put, List.setIfInBounds_toArray, List.set_cons_zero, List.set_cons_succ]
  refine wpAnyH_take (i := 1) (oi := ⟨some 14, _, _, _, _, _⟩) (v := ?_) rfl (by kernel_rfl) (by kernel_rfl) (by kernel_rfl) (fun _ _ _ h => h) (Or.inl ⟨by kernel_rfl, ?_⟩) (by assumption) ?_
  rotate_left
  · intro w hSw
    go_simp
    try with_reducible rfl
  try simp only [Act.put, List.setIfInBounds_toArray, List.set_cons_zero, List.set_cons_succ]
  refine wpAnyH_take (i := 2) (oi := ⟨some 15, _, _, _, _, _⟩) (v := ?_) rfl (by kernel_rfl) (by kernel_rfl) (by kernel_rfl) (fun _ _ _ h => h) (Or.inl ⟨by kernel_rfl, ?_⟩) (by assumption) ?_
  rotate_left
  · intro w hSw
    go_simp
    try with_reducible rfl
  try simp only [Act.put, List.setIfInBounds_toArray, List.set_cons_zero, List.set_cons_succ]
  refine wpAnyH_take (i := 3) (oi := ⟨some 16, _, _, _, _, _⟩) (v := ?_) rfl (by kernel_rfl) (by kernel_rfl) (by kernel_rfl) (fun _ _ _ h => h) (Or.inl ⟨by kernel_rfl, ?_⟩) (by assumption) ?_
  rotate_left
  · intro w hSw
    go_simp
    try with_reducible rfl
  try simp only [Act.put, List.setIfInBounds_toArray, List.set_cons_zero, List.set_cons_succ]
  refine wpAnyH_take (i := 4) (oi := ⟨some 17, _, _, _, _, _⟩) (v := ?_) rfl (by kernel_rfl) (by kernel_rfl) (by kernel_rfl) (fun _ _ _ h => h) (Or.inl ⟨by kernel_rfl, ?_⟩) (by assumption) ?_
  rotate_left
  · intro w hSw
    go_simp
    try with_reducible rfl
  try simp only [Act.put, List.setIfInBounds_toArray, List.set_cons_zero, List.set_cons_succ]
  refine wpAnyH_take (i := 5) (oi := ⟨some 18, _, _, _, _, _⟩) (v := ?_) rfl (by kernel_rfl) (by kernel_rfl) (by kernel_rfl) (fun _ _ _ h => h) (Or.inl ⟨by kernel_rfl, ?_⟩) (by assumption) ?_
  rotate_left
  · intro w hSw
    go_simp
    try with_reducible rfl
  try simp only [Act.put, List.setIfInBounds_toArray, List.set_cons_zero, List.set_cons_succ]
  refine wpAnyH_take (i := 6) (oi := ⟨some 19, _, _, _, _, _⟩) (v := ?_) rfl (by kernel_rfl) (by kernel_rfl) (by kernel_rfl) (fun _ _ _ h => h) (Or.inl ⟨by kernel_rfl, ?_⟩) (by assumption) ?_
  rotate_left
  · intro w hSw
    go_simp
    try with_reducible rfl
  try simp only [Act.put, List.setIfInBounds_toArray, List.set_cons_zero, List.set_cons_succ]
  refine wpAnyH_take (i := 7) (oi := ⟨some 20, _, _, _, _, _⟩) (v := ?_) rfl (by kernel_rfl) (by kernel_rfl) (by kernel_rfl) (fun _ _ _ h => h) (Or.inl ⟨by kernel_rfl, ?_⟩) (by assumption) ?_
  rotate_left
  · intro w hSw
    go_simp
    try with_reducible rfl
  try simp only [Act.put, List.setIfInBounds_toArray, List.set_cons_zero, List.set_cons_succ]
  refine wpAnyH_take (i := 8) (oi := ⟨some 21, _, _, _, _, _⟩) (v := ?_) rfl (by kernel_rfl) (by kernel_rfl) (by kernel_rfl) (fun _ _ _ h => h) (Or.inl ⟨by kernel_rfl, ?_⟩) (by assumption) ?_
  rotate_left
  · intro w hSw
    go_simp
    try with_reducible rfl
  try simp only [Act.put, List.setIfInBounds_toArray, List.set_cons_zero, List.set_cons_succ]
  refine wpAnyH_ready (rs := [9]) (by kernel_rfl) (by simp) ?_
  refine AllReadyH.cons (o := ⟨some 7, _, _, _, _, _⟩) rfl (fun K hK => ?_) AllReadyH.nil
  go_simp
  refine hK.out _ _ ?_ (fun hHeld => ?_)
  · exact ⟨by rw [allocb _ _ _ _ DL.out]; exact DC.out.1, by rw [allocb _ _ _ _ DL.out]; exact DC.out.2⟩
  clear hK K
  try simp only [Act.put, List.setIfInBounds_toArray, List.set_cons_zero, List.set_cons_succ]
  refine wpAnyH_done (by kernel_rfl) ?_ _
  refine lastPost_run (o := ⟨none, _, _, _, _, _⟩) rfl (fun K hK => ?_)
  go_simp
  refine hK.out _ _ ?_
  clear hK K
  have DP := Lib.hid (LayP.start HL.out DB.out ⟨k, 0, 0, 0, []⟩)
  change Exit.then _ _ _ _ (d.alloc (.cells (partC ⟨k, 0, 0, 0, []⟩).toArray 29))
  generalize d.heap.size = pb at DP ⊢
  generalize d.alloc (.cells (partC ⟨k, 0, 0, 0, []⟩).toArray 29) = w1 at DP ⊢
  clear DL DC DB
  go_wp2_with fail
  refine (c43 HR.out.isRoot.rep HP.out w1 DP.out.lay.mem).mono ?_
  rintro e w2 ⟨A, rfl, hrd, hb2, hfr⟩
  have HFR := Lib.hid hfr
  have HLT := Lib.hid DP.out.lts
  clear hfr
  have DP2 := Lib.hid (DP.out.next hb2)
  have HRD := Lib.hid hrd
  clear hrd hb2 DP
  obtain ⟨ad, rfl, _, x0⟩ := HRD.out.ptrAt (k := 0) (x := x) rfl
  obtain ⟨ad', hade, _, y0⟩ := HRD.out.ptrAt (k := 1) (x := y) rfl
  obtain rfl : ad = ad' := by injection hade
  clear hade
  replace x0 : w2.cell? ad = some (ptr x) := by simpa [Addr.add] using x0
  have DPx := DP2
  clear DP2
  go_wp2_with fail
  refine (hih1 s x _ _ l V (Nat.le_refl _) HW.out.2.1 HX.out DPx.out.lay (by have := HLN0.out; omega)).mono ?_
  rintro e w3 ⟨rfl, hp⟩
  obtain ⟨v1, hP1⟩ := DPx.out.laid hp
  have c1 := hP1.blk.cell 1
  have f1 := hP1.blk.frozen 1
  have DPy := Lib.hid (hP1.setp (i := 1) (u := .int .i64 ((l.length + s.size - 1 : Nat) : Int)) (q := ⟨k, ((l.length + s.size - 1 : Nat) : Int), 0, 0, []⟩) rfl)
  have y1 := hp.keeps HLT.out.2 (p := ad.add 1) (by rw [block_of_add]; exact HFR.out ad rfl) y0
  clear hp hP1 DPx
  generalize hz : l.length + s.size - 1 = z at DPy ⊢
  have HZ := Lib.hid hz
  clear hz x0 y0
  have hadp : pb ≠ (ad.add 1).block := by rw [block_of_add]; have h1 := HFR.out ad rfl; have h2 := HLT.out.1; omega
  have y2 : (w3.setCell ⟨pb, 1, none⟩ (.int .i64 (z : Int))).cell? (ad.add 1) = some (ptr y) := by
    rw [World.cell?_setCell_other _ _ _ _ (fun e => hadp (by rw [← e]))]
    exact y1
  replace y2 : (w3.setCell ⟨pb, 1, none⟩ (.int .i64 (z : Int))).cell? ⟨ad.block, ad.off + 1, none⟩ = some (ptr y) := y2
  clear y1 hadp
  go_wp2_with fail
  clear y2 c1 f1
  generalize w3.setCell ⟨pb, 1, none⟩ (.int .i64 (z : Int)) = w4 at DPy ⊢
  have DPx := DPy
  clear DPy
  generalize hlc : l ++ (enc l.length s).map (ren (nums (enc l.length s) V)) = la at DPx
  have HLA := Lib.hid hlc
  have HLB := Lib.hid (show la.length = l.length + s.size by rw [← hlc, List.length_append, List.length_map, enc_len])
  clear hlc
  generalize hva : nums (enc l.length s) V = Va at DPx
  have HVA := Lib.hid hva
  clear hva
  refine (hih2 u y _ _ la Va (Nat.le_refl _) HW.out.2.2 HY.out DPx.out.lay (by have := HLN0.out; have := HLB.out; omega)).mono ?_
  rintro e w5 ⟨rfl, hp⟩
  obtain ⟨v2, hP2⟩ := DPx.out.laid hp
  have c2 := hP2.blk.cell 2
  have f2 := hP2.blk.frozen 2
  have DPy := Lib.hid (hP2.setp (i := 2) (u := .int .i64 ((la.length + u.size - 1 : Nat) : Int)) (q := ⟨k, (z : Int), ((la.length + u.size - 1 : Nat) : Int), 0, []⟩) rfl)
  clear hp hP2 DPx
  generalize hz : la.length + u.size - 1 = y' at DPy ⊢
  have HZ2 := Lib.hid hz
  clear hz
  have a0 := (HD.out.cells HR.out.isRoot DPy.out.lay.mem).1
  replace a0 : (w5.setCell ⟨pb, 2, none⟩ (.int .i64 (y' : Int))).cell? ⟨r, 0, none⟩ = some (.int .i64 k) := a0
  go_wp2_with fail
  clear a0 c2 f2
  generalize w5.setCell ⟨pb, 2, none⟩ (.int .i64 (y' : Int)) = w6 at DPy ⊢
  have DP := DPy
  clear DPy
  generalize hlc : la ++ (enc la.length u).map (ren (nums (enc la.length u) Va)) = lc at DP
  have HLE := Lib.hid hlc
  have HLC := Lib.hid (show lc.length ≤ 1000 by rw [← hlc, List.length_append, List.length_map, enc_len]; have := HLN0.out; have := HLB.out; omega)
  clear hlc
  generalize hvc : v2 = vk at DP
  have EP := Lib.hid DP.out.drew
  have e0 := EP.out.lay.out.cell 0
  have p0 := EP.out.blk.cell 0
  have p1 := EP.out.blk.cell 1
  have p2 := EP.out.blk.cell 2
  have p3 := EP.out.blk.cell 3
  have p4 := EP.out.blk.cell 4
  replace e0 : w6.drew.cell? ⟨ob, 0, none⟩ = some vk := e0
  replace p0 : w6.drew.cell? ⟨pb, 0, none⟩ = some (.int .i64 k) := p0
  replace p1 : w6.drew.cell? ⟨pb, 1, none⟩ = some (.int .i64 (z : Int)) := p1
  replace p2 : w6.drew.cell? ⟨pb, 2, none⟩ = some (.int .i64 (y' : Int)) := p2
  replace p3 : w6.drew.cell? ⟨pb, 3, none⟩ = some (.int .i64 0) := p3
  replace p4 : w6.drew.cell? ⟨pb, 4, none⟩ = some (strV []) := p4
  obtain ⟨Ac, cc, rfl⟩ := own_form EP.out.lay.own
  obtain ⟨i29, fi29, hz0, hz1, hz2⟩ := info_parts part_info
  generalize hnc : lc.length = nc at EP HL HLC DP e0 ⊢
  have HNC := Lib.hid hnc
  have HLN := HLC
  clear hnc
  refine wp_region_last (S := fun V => V.cell? ⟨ob, 0, none⟩ = some (.slice Ac nc cc) ∧ V.cell? ⟨pb, 0, none⟩ = some (.int .i64 k) ∧ V.cell? ⟨pb, 1, none⟩ = some (.int .i64 (z : Int)) ∧ V.cell? ⟨pb, 2, none⟩ = some (.int .i64 (y' : Int)) ∧ V.cell? ⟨pb, 3, none⟩ = some (.int .i64 0) ∧ V.cell? ⟨pb, 4, none⟩ = some (strV [])) 8 (by kernel_rfl) (by kernel_rfl) (by kernel_rfl) (by kernel_rfl) ⟨e0, p0, p1, p2, p3, p4⟩ (fun hHeld => ?_)
  generalize w6.drew = d at EP hHeld ⊢
  refine wpAnyH_take (i := 0) (oi := ⟨some 64, _, _, _, _, _⟩) (v := ?_) rfl (by kernel_rfl) (by kernel_rfl) (by kernel_rfl) (fun _ _ _ h => h) (Or.inl ⟨by kernel_rfl, ?_⟩) (by assumption) ?_
  rotate_left
  · intro w hSw
    go_simp
    try with_reducible rfl
  try simp only [Act.put, List.setIfInBounds_toArray, List.set_cons_zero, List.set_cons_succ]
  refine wpAnyH_take (i := 1) (oi := ⟨some 65, _, _, _, _, _⟩) (v := ?_) rfl (by kernel_rfl) (by kernel_rfl) (by kernel_rfl) (fun _ _ _ h => h) (Or.inl ⟨by kernel_rfl, ?_⟩) (by assumption) ?_
  rotate_left
  · intro w hSw
    go_simp
    try with_reducible rfl
  try simp only [Act.put, List.setIfInBounds_toArray, List.set_cons_zero, List.set_cons_succ]
  refine wpAnyH_take (i := 2) (oi := ⟨some 66, _, _, _, _, _⟩) (v := ?_) rfl (by kernel_rfl) (by kernel_rfl) (by kernel_rfl) (fun _ _ _ h => h) (Or.inl ⟨by kernel_rfl, ?_⟩) (by assumption) ?_
  rotate_left
  · intro w hSw
    go_simp
    try with_reducible rfl
  try simp only [Act.put, List.setIfInBounds_toArray, List.set_cons_zero, List.set_cons_succ]
  refine wpAnyH_take (i := 3) (oi := ⟨some 67, _, _, _, _, _⟩) (v := ?_) rfl (by kernel_rfl) (by kernel_rfl) (by kernel_rfl) (fun _ _ _ h => h) (Or.inl ⟨by kernel_rfl, ?_⟩) (by assumption) ?_
  rotate_left
  · intro w hSw
    go_simp
    try with_reducible rfl
  try simp only [Act.put, List.setIfInBounds_toArray, List.set_cons_zero, List.set_cons_succ]
  refine wpAnyH_take (i := 4) (oi := ⟨some 68, _, _, _, _, _⟩) (v := ?_) rfl (by kernel_rfl) (by kernel_rfl) (by kernel_rfl) (fun _ _ _ h => h) (Or.inl ⟨by kernel_rfl, ?_⟩) (by assumption) ?_
  rotate_left
  · intro w hSw
    go_simp
    try with_reducible rfl
  try simp only [Act.put, List.setIfInBounds_toArray, List.set_cons_zero, List.set_cons_succ]
  refine wpAnyH_ready (rs := [5]) (by kernel_rfl) (by simp) ?_
  refine AllReadyH.cons (o := ⟨some 69, _, _, _, _, _⟩) rfl (fun K hK => ?_) AllReadyH.nil
  go_simp
  refine hK.out _ _ ?_ (fun hHeld => ?_)
  · exact (have E6 := EP.out.next (below_new _ _); ⟨E6.lay.out.cell 0, E6.blk.cell 0, E6.blk.cell 1, E6.blk.cell 2, E6.blk.cell 3, E6.blk.cell 4⟩)
  clear hK K
  try simp only [Act.put, List.setIfInBounds_toArray, List.set_cons_zero, List.set_cons_succ]
  have E6 := EP.out.next (below_new _ (.cells (partC ⟨k, (z : Int), (y' : Int), 0, []⟩).toArray 29))
  have E6o := Lib.hid (HNC.out ▸ E6.lay.own : (d.alloc (.cells (partC ⟨k, (z : Int), (y' : Int), 0, []⟩).toArray 29)).ownsRow base 29 5 (.slice Ac nc cc) nc (lc.flatMap partC))
  have E6b := Lib.hid E6.blk
  have E6q := Lib.hid E6.lay.out
  have E6s := Lib.hid E6.lay.base
  have E6n := Lib.hid E6.ne
  clear E6
  refine wpAnyH_ready (rs := [6]) (by kernel_rfl) (by simp) ?_
  refine AllReadyH.cons (o := ⟨some 70, _, _, _, _, _⟩) rfl (fun K hK => ?_) AllReadyH.nil
  refine step_append_any _ (by rfl) (.tmp 67) (.tmp 69) 23 (by rfl) base 29 i29 _ 5 48 Tryd.underlying23 fi29 hz0 hz1 hz2 rfl (by omega) (.slice Ac nc cc) nc (lc.flatMap partC) (by rfl) E6o.out (d.heap.size + 1) (some ⟨d.heap.size, 0, none⟩) 1 1 (partC ⟨k, (z : Int), (y' : Int), 0, []⟩) (by rfl) (reads_blkN (Blk.new d 29 (partC ⟨k, (z : Int), (y' : Int), 0, []⟩).toArray) rfl) (by simp [partC, Value.oneCell']) (by unfold maxLen; have := HLN.out; omega) (by have := HLN.out; omega) E6s.out ?_
  intro v1 w7 oA gA hnA
  obtain ⟨a1, c1, rfl⟩ := own_form oA
  have Q7 := E6q.out.grown gA (fun e => own_blk_ne E6o.out E6q.out (by decide) e.symm)
  have P7 : Blk w7 pb 29 (partC ⟨k, (z : Int), (y' : Int), 0, []⟩).toArray := E6b.out.grown gA (fun e => E6n.out pb e.symm rfl)
  have z1 := Q7.cell 0
  have z1f := Q7.frozen 0
  have HO := Lib.hid oA
  have HG := Lib.hid gA
  have HNA := Lib.hid hnA
  clear oA gA hnA
  refine hK.out _ _ ?_ (fun hHeld => ?_)
  · exact ⟨Q7.cell 0, P7.cell 0, P7.cell 1, P7.cell 2, P7.cell 3, P7.cell 4⟩
  clear hK K
  try simp only [Act.put, List.setIfInBounds_toArray, List.set_cons_zero, List.set_cons_succ]
  refine wpAnyH_take (i := 7) (oi := ⟨some 71, _, _, _, _, _⟩) (v := ?_) rfl (by kernel_rfl) (by kernel_rfl) (by kernel_rfl) (fun _ _ _ h => h) (Or.inl ⟨by kernel_rfl, ?_⟩) (by assumption) ?_
  rotate_left
  · intro w hSw
    go_simp
    try with_reducible rfl
  try simp only [Act.put, List.setIfInBounds_toArray, List.set_cons_zero, List.set_cons_succ]
  refine wpAnyH_done (by kernel_rfl) ?_ _
  refine lastPost_run (o := ⟨none, _, _, _, _, _⟩) rfl (fun K hK => ?_)
  go_simp
  refine hK.out _ _ ?_
  clear hK K
  have z2 := (Q7.set_ 0 (.slice a1 (nc + 1) c1)).cell 0
  have hn1 : nc ≤ 1000 := HLN.out
  clear z1 z1f Q7 P7 e0 p0 p1 p2 p3 p4 hHeld
  go_wp2_with fail
  go_ret
  have hR : ∀ {z : Nat}, z = nc → Ending.returned (.int .i64 (nc : Int)) = .returned (.int .i64 (z : Int)) := fun e => by rw [e]
  obtain ⟨hl1, hV1⟩ := (show _ ∧ _ from (by have hla := HLA.out.symm; rw [HVA.out] at hla; have h := lay_two (k := k) (u := u) HK.out l V hla HVA.out.symm; rw [HLE.out, HZ.out, HZ2.out] at h; exact h))
  have hnc := HNC.out
  subst hnc
  exact ⟨hR (by have h1 := HLE.out; have := HSP.out; have := HLB.out; rw [← h1, List.length_append, List.length_map, enc_len]; omega), EP.out.done rfl HO.out HG.out HNA.out hl1 hV1⟩
set_option maxRecDepth 100000 in
set_option maxHeartbeats 8000000 in
theorem c45var {N : Nat → Option Nd} {g r n : Nat}  (hr : Rep N g r n) (hd : Den N r (Ty.var r)) (hw : (Ty.var r).wf) {W : World} {ob b base : Nat} {vc : Value} {l : List Part} {V : List Int} (hL : LayW N W ob b base vc l V) (hl : l.length + 1 ≤ 1000) :
    Calls Tryd.prog 45 #[ptr g, ptr ob, .map (some b)] W fun e W' => e = .returned (.int .i64 ((l.length + 1 - 1 : Nat) : Int)) ∧ LayPost N ob b base vc l V (Ty.var r) W W' := by
  obtain ⟨a0, a1, _⟩ := hd.cells hr.isRoot hL.mem
  obtain ⟨_, ls, hparts, hlen, hkid⟩ := hd.parts hr.isRoot
  obtain ⟨ndr, er, _⟩ := hr.isRoot
  have la := (hL.mem _ _ er).lt
  have HR := Lib.hid hr
  have HD := Lib.hid hd
  have HW := Lib.hid hw
  have HL := Lib.hid hL
  have HLN0 := Lib.hid hl
  obtain rfl : ls = [] := List.eq_nil_of_length_eq_zero hlen
  have HLC := Lib.hid (show l.length ≤ 1000 by omega)
  clear hw
  replace a0 : W.cell? ⟨r, 0, none⟩ = some (.int .i64 11) := a0
  replace a1 : W.cell? ⟨r, 1, none⟩ = some (strV []) := a1
  have HP := Lib.hid hparts
  clear hr hd er hL hparts hlen hl hkid
  go_enter Tryd.func45, Tryd.ntmps45
  go_wp2_with fail
  refine (c41 HR.out W HL.out.mem).mono ?_
  rintro e _ ⟨rfl, rfl⟩
  go_wp2_with fail
  have DL := Lib.hid (show r < W.drew.heap.size from la)
  have DC := Lib.hid (show W.drew.cell? ⟨r, 0, none⟩ = some (.int .i64 11) ∧ W.drew.cell? ⟨r, 1, none⟩ = some (strV []) from ⟨a0, a1⟩)
  have DB := Lib.hid ((Below.refl W.heap.size W).drew)
  clear a0 a1 la
  refine wp_region_last (S := fun V => V.cell? ⟨r, 0, none⟩ = some (.int .i64 11) ∧ V.cell? ⟨r, 1, none⟩ = some (strV [])) 10 (by kernel_rfl) (by kernel_rfl) (by kernel_rfl) (by kernel_rfl) DC.out (fun hHeld => ?_)
  generalize W.drew = d at DL DC DB hHeld ⊢
  refine wpAnyH_take (i := 0) (oi := ⟨some 13, _, _, _, _, _⟩) (v := ?_) rfl (by kernel_rfl) (by kernel_rfl) (by kernel_rfl) (fun _ _ _ h => h) (Or.inl ⟨by kernel_rfl, ?_⟩) (by assumption) ?_
  rotate_left
  · intro w hSw
    go_simp
    try with_reducible rfl
  try simp only [Act.put, List.setIfInBounds_toArray, List.set_cons_zero, List.set_cons_succ]
  refine wpAnyH_take (i := 1) (oi := ⟨some 14, _, _, _, _, _⟩) (v := ?_) rfl (by kernel_rfl) (by kernel_rfl) (by kernel_rfl) (fun _ _ _ h => h) (Or.inl ⟨by kernel_rfl, ?_⟩) (by assumption) ?_
  rotate_left
  · intro w hSw
    go_simp
    try with_reducible rfl
  try simp only [Act.put, List.setIfInBounds_toArray, List.set_cons_zero, List.set_cons_succ]
  refine wpAnyH_take (i := 2) (oi := ⟨some 15, _, _, _, _, _⟩) (v := ?_) rfl (by kernel_rfl) (by kernel_rfl) (by kernel_rfl) (fun _ _ _ h => h) (Or.inl ⟨by kernel_rfl, ?_⟩) (by assumption) ?_
  rotate_left
  · intro w hSw
    go_simp
    try with_reducible rfl
  try simp only [Act.put, List.setIfInBounds_toArray, List.set_cons_zero, List.set_cons_succ]
  refine wpAnyH_take (i := 3) (oi := ⟨some 16, _, _, _, _, _⟩) (v := ?_) rfl (by kernel_rfl) (by kernel_rfl) (by kernel_rfl) (fun _ _ _ h => h) (Or.inl ⟨by kernel_rfl, ?_⟩) (by assumption) ?_
  rotate_left
  · intro w hSw
    go_simp
    try with_reducible rfl
  try simp only [Act.put, List.setIfInBounds_toArray, List.set_cons_zero, List.set_cons_succ]
  refine wpAnyH_take (i := 4) (oi := ⟨some 17, _, _, _, _, _⟩) (v := ?_) rfl (by kernel_rfl) (by kernel_rfl) (by kernel_rfl) (fun _ _ _ h => h) (Or.inl ⟨by kernel_rfl, ?_⟩) (by assumption) ?_
  rotate_left
  · intro w hSw
    go_simp
    try with_reducible rfl
  try simp only [Act.put, List.setIfInBounds_toArray, List.set_cons_zero, List.set_cons_succ]
  refine wpAnyH_take (i := 5) (oi := ⟨some 18, _, _, _, _, _⟩) (v := ?_) rfl (by kernel_rfl) (by kernel_rfl) (by kernel_rfl) (fun _ _ _ h => h) (Or.inl ⟨by kernel_rfl, ?_⟩) (by assumption) ?_
  rotate_left
  · intro w hSw
    go_simp
    try with_reducible rfl
  try simp only [Act.put, List.setIfInBounds_toArray, List.set_cons_zero, List.set_cons_succ]
  refine wpAnyH_take (i := 6) (oi := ⟨some 19, _, _, _, _, _⟩) (v := ?_) rfl (by kernel_rfl) (by kernel_rfl) (by kernel_rfl) (fun _ _ _ h => h) (Or.inl ⟨by kernel_rfl, ?_⟩) (by assumption) ?_
  rotate_left
  · intro w hSw
    go_simp
    try with_reducible rfl
  try simp only [Act.put, List.setIfInBounds_toArray, List.set_cons_zero, List.set_cons_succ]
  refine wpAnyH_take (i := 7) (oi := ⟨some 20, _, _, _, _, _⟩) (v := ?_) rfl (by kernel_rfl) (by kernel_rfl) (by kernel_rfl) (fun _ _ _ h => h) (Or.inl ⟨by kernel_rfl, ?_⟩) (by assumption) ?_
  rotate_left
  · intro w hSw
    go_simp
    try with_reducible rfl
  try simp only [Act.put, List.setIfInBounds_toArray, List.set_cons_zero, List.set_cons_succ]
  refine wpAnyH_take (i := 8) (oi := ⟨some 21, _, _, _, _, _⟩) (v := ?_) rfl (by kernel_rfl) (by kernel_rfl) (by kernel_rfl) (fun _ _ _ h => h) (Or.inl ⟨by kernel_rfl, ?_⟩) (by assumption) ?_
  rotate_left
  · intro w hSw
    go_simp
    try with_reducible rfl
  try simp only [Act.put, List.setIfInBounds_toArray, List.set_cons_zero, List.set_cons_succ]
  refine wpAnyH_ready (rs := [9]) (by kernel_rfl) (by simp) ?_
  refine AllReadyH.cons (o := ⟨some 7, _, _, _, _, _⟩) rfl (fun K hK => ?_) AllReadyH.nil
  go_simp
  refine hK.out _ _ ?_ (fun hHeld => ?_)
  · exact ⟨by rw [allocb _ _ _ _ DL.out]; exact DC.out.1, by rw [allocb _ _ _ _ DL.out]; exact DC.out.2⟩
  clear hK K
  try simp only [Act.put, List.setIfInBounds_toArray, List.set_cons_zero, List.set_cons_succ]
  refine wpAnyH_done (by kernel_rfl) ?_ _
  refine lastPost_run (o := ⟨none, _, _, _, _, _⟩) rfl (fun K hK => ?_)
  go_simp
  refine hK.out _ _ ?_
  clear hK K
  have DP := Lib.hid (LayP.start HL.out DB.out ⟨11, 0, 0, 0, []⟩)
  change Exit.then _ _ _ _ (d.alloc (.cells (partC ⟨11, 0, 0, 0, []⟩).toArray 29))
  generalize d.heap.size = pb at DP ⊢
  generalize d.alloc (.cells (partC ⟨11, 0, 0, 0, []⟩).toArray 29) = w1 at DP ⊢
  clear DL DC DB
  go_wp2_with fail
  refine (c43 HR.out.isRoot.rep HP.out w1 DP.out.lay.mem).mono ?_
  rintro e w2 ⟨A, rfl, hrd, hb2, hfr⟩
  have HFR := Lib.hid hfr
  have HLT := Lib.hid DP.out.lts
  clear hfr
  have DP2 := Lib.hid (DP.out.next hb2)
  have HRD := Lib.hid hrd
  clear hrd hb2 DP
  obtain ⟨ndr2, er2, _⟩ := HR.out.isRoot
  have br2 := DP2.out.lay.mem _ _ er2
  have hlk := look78 DP2.out.lay.map br2
  have a0 := (HD.out.cells HR.out.isRoot DP2.out.lay.mem).1
  replace a0 : w2.cell? ⟨r, 0, none⟩ = some (.int .i64 11) := a0
  by_cases hin : (r : Int) ∈ V
  · have hD : varD V r = some (.int .i64 ((V.idxOf (r : Int) : Nat) : Int)) := by unfold varD; rw [if_pos hin]
    rw [hD] at hlk
    replace hlk : (Instr.lookup 78 (.map (some b)) (ptr r) true).run Tryd.prog w2 = .ok (.tuple #[.int .i64 ((V.idxOf (r : Int) : Nat) : Int), .bool true]) w2 := hlk
    generalize hix : V.idxOf (r : Int) = ix at hlk
    have HIX := Lib.hid hix
    have HIN := Lib.hid hin
    have c3 := DP2.out.blk.cell 3
    have f3 := DP2.out.blk.frozen 3
    clear hD hix hin er2 br2
    go_wp2_with fail
    have DP := Lib.hid (DP2.out.setp (i := 3) (u := .int .i64 (ix : Int)) (q := ⟨11, 0, 0, ix, []⟩) rfl)
    clear DP2 a0 hlk c3 f3
    generalize w2.setCell ⟨pb, 3, none⟩ (.int .i64 (ix : Int)) = w3 at DP ⊢
    have EP := Lib.hid DP.out.drew
    have e0 := EP.out.lay.out.cell 0
    have p0 := EP.out.blk.cell 0
    have p1 := EP.out.blk.cell 1
    have p2 := EP.out.blk.cell 2
    have p3 := EP.out.blk.cell 3
    have p4 := EP.out.blk.cell 4
    replace e0 : w3.drew.cell? ⟨ob, 0, none⟩ = some vc := e0
    replace p0 : w3.drew.cell? ⟨pb, 0, none⟩ = some (.int .i64 11) := p0
    replace p1 : w3.drew.cell? ⟨pb, 1, none⟩ = some (.int .i64 0) := p1
    replace p2 : w3.drew.cell? ⟨pb, 2, none⟩ = some (.int .i64 0) := p2
    replace p3 : w3.drew.cell? ⟨pb, 3, none⟩ = some (.int .i64 (ix : Int)) := p3
    replace p4 : w3.drew.cell? ⟨pb, 4, none⟩ = some (strV []) := p4
    obtain ⟨Ac, cc, rfl⟩ := own_form EP.out.lay.own
    obtain ⟨i29, fi29, hz0, hz1, hz2⟩ := info_parts part_info
    generalize hnc : l.length = nc at EP HL HLC DP e0 ⊢
    have HNC := Lib.hid hnc
    have HLN := HLC
    clear hnc
    refine wp_region_last (S := fun V => V.cell? ⟨ob, 0, none⟩ = some (.slice Ac nc cc) ∧ V.cell? ⟨pb, 0, none⟩ = some (.int .i64 11) ∧ V.cell? ⟨pb, 1, none⟩ = some (.int .i64 0) ∧ V.cell? ⟨pb, 2, none⟩ = some (.int .i64 0) ∧ V.cell? ⟨pb, 3, none⟩ = some (.int .i64 (ix : Int)) ∧ V.cell? ⟨pb, 4, none⟩ = some (strV [])) 8 (by kernel_rfl) (by kernel_rfl) (by kernel_rfl) (by kernel_rfl) ⟨e0, p0, p1, p2, p3, p4⟩ (fun hHeld => ?_)
    generalize w3.drew = d at EP hHeld ⊢
    refine wpAnyH_take (i := 0) (oi := ⟨some 64, _, _, _, _, _⟩) (v := ?_) rfl (by kernel_rfl) (by kernel_rfl) (by kernel_rfl) (fun _ _ _ h => h) (Or.inl ⟨by kernel_rfl, ?_⟩) (by assumption) ?_
    rotate_left
    · intro w hSw
      go_simp
      try with_reducible rfl
    try simp only [Act.put, List.setIfInBounds_toArray, List.set_cons_zero, List.set_cons_succ]
    refine wpAnyH_take (i := 1) (oi := ⟨some 65, _, _, _, _, _⟩) (v := ?_) rfl (by kernel_rfl) (by kernel_rfl) (by kernel_rfl) (fun _ _ _ h => h) (Or.inl ⟨by kernel_rfl, ?_⟩) (by assumption) ?_
    rotate_left
    · intro w hSw
      go_simp
      try with_reducible rfl
    try simp only [Act.put, List.setIfInBounds_toArray, List.set_cons_zero, List.set_cons_succ]
    refine wpAnyH_take (i := 2) (oi := ⟨some 66, _, _, _, _, _⟩) (v := ?_) rfl (by kernel_rfl) (by kernel_rfl) (by kernel_rfl) (fun _ _ _ h => h) (Or.inl ⟨by kernel_rfl, ?_⟩) (by assumption) ?_
    rotate_left
    · intro w hSw
      go_simp
      try with_reducible rfl
    try simp only [Act.put, List.setIfInBounds_toArray, List.set_cons_zero, List.set_cons_succ]
    refine wpAnyH_take (i := 3) (oi := ⟨some 67, _, _, _, _, _⟩) (v := ?_) rfl (by kernel_rfl) (by kernel_rfl) (by kernel_rfl) (fun _ _ _ h => h) (Or.inl ⟨by kernel_rfl, ?_⟩) (by assumption) ?_
    rotate_left
    · intro w hSw
      go_simp
      try with_reducible rfl
    try simp only [Act.put, List.setIfInBounds_toArray, List.set_cons_zero, List.set_cons_succ]
    refine wpAnyH_take (i := 4) (oi := ⟨some 68, _, _, _, _, _⟩) (v := ?_) rfl (by kernel_rfl) (by kernel_rfl) (by kernel_rfl) (fun _ _ _ h => h) (Or.inl ⟨by kernel_rfl, ?_⟩) (by assumption) ?_
    rotate_left
    · intro w hSw
      go_simp
      try with_reducible rfl
    try simp only [Act.put, List.setIfInBounds_toArray, List.set_cons_zero, List.set_cons_succ]
    refine wpAnyH_ready (rs := [5]) (by kernel_rfl) (by simp) ?_
    refine AllReadyH.cons (o := ⟨some 69, _, _, _, _, _⟩) rfl (fun K hK => ?_) AllReadyH.nil
    go_simp
    refine hK.out _ _ ?_ (fun hHeld => ?_)
    · exact (have E6 := EP.out.next (below_new _ _); ⟨E6.lay.out.cell 0, E6.blk.cell 0, E6.blk.cell 1, E6.blk.cell 2, E6.blk.cell 3, E6.blk.cell 4⟩)
    clear hK K
    try simp only [Act.put, List.setIfInBounds_toArray, List.set_cons_zero, List.set_cons_succ]
    have E6 := EP.out.next (below_new _ (.cells (partC ⟨11, 0, 0, (ix : Int), []⟩).toArray 29))
    have E6o := Lib.hid (HNC.out ▸ E6.lay.own : (d.alloc (.cells (partC ⟨11, 0, 0, (ix : Int), []⟩).toArray 29)).ownsRow base 29 5 (.slice Ac nc cc) nc (l.flatMap partC))
    have E6b := Lib.hid E6.blk
    have E6q := Lib.hid E6.lay.out
    have E6s := Lib.hid E6.lay.base
    have E6n := Lib.hid E6.ne
    clear E6
    refine wpAnyH_ready (rs := [6]) (by kernel_rfl) (by simp) ?_
    refine AllReadyH.cons (o := ⟨some 70, _, _, _, _, _⟩) rfl (fun K hK => ?_) AllReadyH.nil
    refine step_append_any _ (by rfl) (.tmp 67) (.tmp 69) 23 (by rfl) base 29 i29 _ 5 48 Tryd.underlying23 fi29 hz0 hz1 hz2 rfl (by omega) (.slice Ac nc cc) nc (l.flatMap partC) (by rfl) E6o.out (d.heap.size + 1) (some ⟨d.heap.size, 0, none⟩) 1 1 (partC ⟨11, 0, 0, (ix : Int), []⟩) (by rfl) (reads_blkN (Blk.new d 29 (partC ⟨11, 0, 0, (ix : Int), []⟩).toArray) rfl) (by simp [partC, Value.oneCell']) (by unfold maxLen; have := HLN.out; omega) (by have := HLN.out; omega) E6s.out ?_
    intro v1 w7 oA gA hnA
    obtain ⟨a1, c1, rfl⟩ := own_form oA
    have Q7 := E6q.out.grown gA (fun e => own_blk_ne E6o.out E6q.out (by decide) e.symm)
    have P7 : Blk w7 pb 29 (partC ⟨11, 0, 0, (ix : Int), []⟩).toArray := E6b.out.grown gA (fun e => E6n.out pb e.symm rfl)
    have z1 := Q7.cell 0
    have z1f := Q7.frozen 0
    have HO := Lib.hid oA
    have HG := Lib.hid gA
    have HNA := Lib.hid hnA
    clear oA gA hnA
    refine hK.out _ _ ?_ (fun hHeld => ?_)
    · exact ⟨Q7.cell 0, P7.cell 0, P7.cell 1, P7.cell 2, P7.cell 3, P7.cell 4⟩
    clear hK K
    try simp only [Act.put, List.setIfInBounds_toArray, List.set_cons_zero, List.set_cons_succ]
    refine wpAnyH_take (i := 7) (oi := ⟨some 71, _, _, _, _, _⟩) (v := ?_) rfl (by kernel_rfl) (by kernel_rfl) (by kernel_rfl) (fun _ _ _ h => h) (Or.inl ⟨by kernel_rfl, ?_⟩) (by assumption) ?_
    rotate_left
    · intro w hSw
      go_simp
      try with_reducible rfl
    try simp only [Act.put, List.setIfInBounds_toArray, List.set_cons_zero, List.set_cons_succ]
    refine wpAnyH_done (by kernel_rfl) ?_ _
    refine lastPost_run (o := ⟨none, _, _, _, _, _⟩) rfl (fun K hK => ?_)
    go_simp
    refine hK.out _ _ ?_
    clear hK K
    have z2 := (Q7.set_ 0 (.slice a1 (nc + 1) c1)).cell 0
    have hn1 : nc ≤ 1000 := HLN.out
    clear z1 z1f Q7 P7 e0 p0 p1 p2 p3 p4 hHeld
    go_wp2_with fail
    go_ret
    have hR : ∀ {z : Nat}, z = nc → Ending.returned (.int .i64 (nc : Int)) = .returned (.int .i64 (z : Int)) := fun e => by rw [e]
    obtain ⟨hl1, hV1⟩ := (show _ ∧ _ from (by have h := lay_var r l V; rw [if_pos HIN.out, HIX.out] at h; exact h))
    have hnc := HNC.out
    subst hnc
    exact ⟨hR (by have := HNC.out; omega), EP.out.done rfl HO.out HG.out HNA.out hl1 hV1⟩
  · have hD : varD V r = none := by unfold varD; rw [if_neg hin]
    rw [hD] at hlk
    replace hlk : (Instr.lookup 78 (.map (some b)) (ptr r) true).run Tryd.prog w2 = .ok (.tuple #[.int .i64 0, .bool false]) w2 := hlk
    obtain ⟨w3, hst, hm3, hg3⟩ := store78 DP2.out.lay.map br2 (.int .i64 ((V.length : Nat) : Int))
    rw [varD_snoc hin, hD] at hm3
    have hln := fun ty => DP2.out.lay.map.len (P := Tryd.prog) (T := 78) (ty := ty) Tryd.underlying78
    have HIN := Lib.hid hin
    have DP3 := Lib.hid (DP2.out.mapped hg3 hm3 (by simp))
    have c3 := DP3.out.blk.cell 3
    have f3 := DP3.out.blk.frozen 3
    have HIX := Lib.hid (show (V ++ [(r : Int)]).idxOf (r : Int) = V.length by rw [List.idxOf_append, if_neg hin]; simp)
    generalize hix : V.length = ix at hst hln HIX
    clear hD hix hin er2 br2 hm3 hg3
    go_wp2_with fail
    have DP := Lib.hid (DP3.out.setp (i := 3) (u := .int .i64 (ix : Int)) (q := ⟨11, 0, 0, ix, []⟩) rfl)
    clear DP2 a0 hlk c3 f3 DP3 hst hln
    generalize w3.setCell ⟨pb, 3, none⟩ (.int .i64 (ix : Int)) = w4 at DP ⊢
    have EP := Lib.hid DP.out.drew
    have e0 := EP.out.lay.out.cell 0
    have p0 := EP.out.blk.cell 0
    have p1 := EP.out.blk.cell 1
    have p2 := EP.out.blk.cell 2
    have p3 := EP.out.blk.cell 3
    have p4 := EP.out.blk.cell 4
    replace e0 : w4.drew.cell? ⟨ob, 0, none⟩ = some vc := e0
    replace p0 : w4.drew.cell? ⟨pb, 0, none⟩ = some (.int .i64 11) := p0
    replace p1 : w4.drew.cell? ⟨pb, 1, none⟩ = some (.int .i64 0) := p1
    replace p2 : w4.drew.cell? ⟨pb, 2, none⟩ = some (.int .i64 0) := p2
    replace p3 : w4.drew.cell? ⟨pb, 3, none⟩ = some (.int .i64 (ix : Int)) := p3
    replace p4 : w4.drew.cell? ⟨pb, 4, none⟩ = some (strV []) := p4
    obtain ⟨Ac, cc, rfl⟩ := own_form EP.out.lay.own
    obtain ⟨i29, fi29, hz0, hz1, hz2⟩ := info_parts part_info
    generalize hnc : l.length = nc at EP HL HLC DP e0 ⊢
    have HNC := Lib.hid hnc
    have HLN := HLC
    clear hnc
    refine wp_region_last (S := fun V => V.cell? ⟨ob, 0, none⟩ = some (.slice Ac nc cc) ∧ V.cell? ⟨pb, 0, none⟩ = some (.int .i64 11) ∧ V.cell? ⟨pb, 1, none⟩ = some (.int .i64 0) ∧ V.cell? ⟨pb, 2, none⟩ = some (.int .i64 0) ∧ V.cell? ⟨pb, 3, none⟩ = some (.int .i64 (ix : Int)) ∧ V.cell? ⟨pb, 4, none⟩ = some (strV [])) 8 (by kernel_rfl) (by kernel_rfl) (by kernel_rfl) (by kernel_rfl) ⟨e0, p0, p1, p2, p3, p4⟩ (fun hHeld => ?_)
    generalize w4.drew = d at EP hHeld ⊢
    refine wpAnyH_take (i := 0) (oi := ⟨some 64, _, _, _, _, _⟩) (v := ?_) rfl (by kernel_rfl) (by kernel_rfl) (by kernel_rfl) (fun _ _ _ h => h) (Or.inl ⟨by kernel_rfl, ?_⟩) (by assumption) ?_
    rotate_left
    · intro w hSw
      go_simp
      try with_reducible rfl
    try simp only [Act.put, List.setIfInBounds_toArray, List.set_cons_zero, List.set_cons_succ]
    refine wpAnyH_take (i := 1) (oi := ⟨some 65, _, _, _, _, _⟩) (v := ?_) rfl (by kernel_rfl) (by kernel_rfl) (by kernel_rfl) (fun _ _ _ h => h) (Or.inl ⟨by kernel_rfl, ?_⟩) (by assumption) ?_
    rotate_left
    · intro w hSw
      go_simp
      try with_reducible rfl
    try simp only [Act.put, List.setIfInBounds_toArray, List.set_cons_zero, List.set_cons_succ]
    refine wpAnyH_take (i := 2) (oi := ⟨some 66, _, _, _, _, _⟩) (v := ?_) rfl (by kernel_rfl) (by kernel_rfl) (by kernel_rfl) (fun _ _ _ h => h) (Or.inl ⟨by kernel_rfl, ?_⟩) (by assumption) ?_
    rotate_left
    · intro w hSw
      go_simp
      try with_reducible rfl
    try simp only [Act.put, List.setIfInBounds_toArray, List.set_cons_zero, List.set_cons_succ]
    refine wpAnyH_take (i := 3) (oi := ⟨some 67, _, _, _, _, _⟩) (v := ?_) rfl (by kernel_rfl) (by kernel_rfl) (by kernel_rfl) (fun _ _ _ h => h) (Or.inl ⟨by kernel_rfl, ?_⟩) (by assumption) ?_
    rotate_left
    · intro w hSw
      go_simp
      try with_reducible rfl
    try simp only [Act.put, List.setIfInBounds_toArray, List.set_cons_zero, List.set_cons_succ]
    refine wpAnyH_take (i := 4) (oi := ⟨some 68, _, _, _, _, _⟩) (v := ?_) rfl (by kernel_rfl) (by kernel_rfl) (by kernel_rfl) (fun _ _ _ h => h) (Or.inl ⟨by kernel_rfl, ?_⟩) (by assumption) ?_
    rotate_left
    · intro w hSw
      go_simp
      try with_reducible rfl
    try simp only [Act.put, List.setIfInBounds_toArray, List.set_cons_zero, List.set_cons_succ]
    refine wpAnyH_ready (rs := [5]) (by kernel_rfl) (by simp) ?_
    refine AllReadyH.cons (o := ⟨some 69, _, _, _, _, _⟩) rfl (fun K hK => ?_) AllReadyH.nil
    go_simp
    refine hK.out _ _ ?_ (fun hHeld => ?_)
    · exact (have E6 := EP.out.next (below_new _ _); ⟨E6.lay.out.cell 0, E6.blk.cell 0, E6.blk.cell 1, E6.blk.cell 2, E6.blk.cell 3, E6.blk.cell 4⟩)
    clear hK K
    try simp only [Act.put, List.setIfInBounds_toArray, List.set_cons_zero, List.set_cons_succ]
    have E6 := EP.out.next (below_new _ (.cells (partC ⟨11, 0, 0, (ix : Int), []⟩).toArray 29))
    have E6o := Lib.hid (HNC.out ▸ E6.lay.own : (d.alloc (.cells (partC ⟨11, 0, 0, (ix : Int), []⟩).toArray 29)).ownsRow base 29 5 (.slice Ac nc cc) nc (l.flatMap partC))
    have E6b := Lib.hid E6.blk
    have E6q := Lib.hid E6.lay.out
    have E6s := Lib.hid E6.lay.base
    have E6n := Lib.hid E6.ne
    clear E6
    refine wpAnyH_ready (rs := [6]) (by kernel_rfl) (by simp) ?_
    refine AllReadyH.cons (o := ⟨some 70, _, _, _, _, _⟩) rfl (fun K hK => ?_) AllReadyH.nil
    refine step_append_any _ (by rfl) (.tmp 67) (.tmp 69) 23 (by rfl) base 29 i29 _ 5 48 Tryd.underlying23 fi29 hz0 hz1 hz2 rfl (by omega) (.slice Ac nc cc) nc (l.flatMap partC) (by rfl) E6o.out (d.heap.size + 1) (some ⟨d.heap.size, 0, none⟩) 1 1 (partC ⟨11, 0, 0, (ix : Int), []⟩) (by rfl) (reads_blkN (Blk.new d 29 (partC ⟨11, 0, 0, (ix : Int), []⟩).toArray) rfl) (by simp [partC, Value.oneCell']) (by unfold maxLen; have := HLN.out; omega) (by have := HLN.out; omega) E6s.out ?_
    intro v1 w7 oA gA hnA
    obtain ⟨a1, c1, rfl⟩ := own_form oA
    have Q7 := E6q.out.grown gA (fun e => own_blk_ne E6o.out E6q.out (by decide) e.symm)
    have P7 : Blk w7 pb 29 (partC ⟨11, 0, 0, (ix : Int), []⟩).toArray := E6b.out.grown gA (fun e => E6n.out pb e.symm rfl)
    have z1 := Q7.cell 0
    have z1f := Q7.frozen 0
    have HO := Lib.hid oA
    have HG := Lib.hid gA
    have HNA := Lib.hid hnA
    clear oA gA hnA
    refine hK.out _ _ ?_ (fun hHeld => ?_)
    · exact ⟨Q7.cell 0, P7.cell 0, P7.cell 1, P7.cell 2, P7.cell 3, P7.cell 4⟩
    clear hK K
    try simp only [Act.put, List.setIfInBounds_toArray, List.set_cons_zero, List.set_cons_succ]
    refine wpAnyH_take (i := 7) (oi := ⟨some 71, _, _, _, _, _⟩) (v := ?_) rfl (by kernel_rfl) (by kernel_rfl) (by kernel_rfl) (fun _ _ _ h => h) (Or.inl ⟨by kernel_rfl, ?_⟩) (by assumption) ?_
    rotate_left
    · intro w hSw
      go_simp
      try with_reducible rfl
    try simp only [Act.put, List.setIfInBounds_toArray, List.set_cons_zero, List.set_cons_succ]
    refine wpAnyH_done (by kernel_rfl) ?_ _
    refine lastPost_run (o := ⟨none, _, _, _, _, _⟩) rfl (fun K hK => ?_)
    go_simp
    refine hK.out _ _ ?_
    clear hK K
    have z2 := (Q7.set_ 0 (.slice a1 (nc + 1) c1)).cell 0
    have hn1 : nc ≤ 1000 := HLN.out
    clear z1 z1f Q7 P7 e0 p0 p1 p2 p3 p4 hHeld
    go_wp2_with fail
    go_ret
    have hR : ∀ {z : Nat}, z = nc → Ending.returned (.int .i64 (nc : Int)) = .returned (.int .i64 (z : Int)) := fun e => by rw [e]
    obtain ⟨hl1, hV1⟩ := (show _ ∧ _ from (by have h := lay_var r l V; rw [if_neg HIN.out, HIX.out] at h; exact h))
    have hnc := HNC.out
    subst hnc
    exact ⟨hR (by have := HNC.out; omega), EP.out.done rfl HO.out HG.out HNA.out hl1 hV1⟩
theorem c45 {N : Nat → Option Nd} {ob b base : Nat} : ∀ m, LayIH N ob b base m := by
  intro m
  induction m with
  | zero => intro T g W v l V h; have := T.size_pos; omega
  | succ m ih =>
    intro T g W v l V hm hw hd hL hl
    obtain ⟨r, k, hr, hdr⟩ := hd.rep
    have hsub : ∀ k', k' ≤ m → LayIH N ob b base k' := fun k' hk T' g' W' v' l' V' h => ih T' g' W' v' l' V' (Nat.le_trans h hk)
    cases T with
    | leaf k t => exact c45leaf hr hdr hw hL hl
    | var n =>
      obtain ⟨u, rfl⟩ := hdr.varNat _ rfl
      have e := hr.isRoot.var hdr
      subst e
      exact c45var hr hdr hw hL hl
    | one k s => exact c45one hr hdr hw hL hl (hsub _ (by simp only [Ty.size] at hm; omega))
    | two k s u => exact c45two hr hdr hw hL hl (hsub _ (by simp only [Ty.size] at hm; omega)) (hsub _ (by simp only [Ty.size] at hm; omega))
end Go.Proofs.YtcilodgpbdafeaaDoor
