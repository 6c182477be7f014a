/- term.Of: the term of a type that may be: new nodes, one for each variable's number. -/
import Derived.Test.YtcilodgpbdafeaaDoorTPrt
import Derived.Test.YtcilodgpbdafeaaDoorTTyp
namespace Go.Proofs.YtcilodgpbdafeaaDoor
open Go.ChangeShapes Go.WideShapes Go.ChangeAt Go.RowKit
set_option linter.unusedVariables false
set_option linter.unusedSimpArgs false
/-- One node more. -/
def putN (N : Nat → Option Nd) (x : Nat) (nd : Nd) : Nat → Option Nd := fun y => if y = x then some nd else N y
theorem Den.put {N : Nat → Option Nd} {x g : Nat} {nd : Nd} {U : Ty} (hx : N x = none) (h : Den N g U) : Den (putN N x nd) g U := by
  have e : ∀ {y : Nat} {d : Nd}, N y = some d → putN N x nd y = some d := fun {y d} hy => by
    unfold putN
    rw [if_neg (fun e => by rw [e, hx] at hy; cases hy)]
    exact hy
  induction h with
  | to e1 e2 _ ih => exact .to (e e1) e2 ih
  | var e1 e2 e3 e4 e5 e6 => exact .var (e e1) e2 e3 e4 e5 e6
  | leaf e1 e2 e3 e4 e5 => exact .leaf (e e1) e2 e3 e4 e5
  | one e1 e2 e3 e4 e5 e6 _ ih => exact .one (e e1) e2 e3 e4 e5 e6 ih
  | two e1 e2 e3 e4 e5 e6 _ _ ih1 ih2 => exact .two (e e1) e2 e3 e4 e5 e6 ih1 ih2
/-- A variable's number is turned to its node. -/
def vs (s : Int → Option Nat) : Int → Ty := fun n => .var (((s n).getD 0 : Nat) : Int)
/-- The nodes of the first k parts. -/
structure OfG (l : List Part) (k : Nat) (N : Nat → Option Nd) (s : Int → Option Nat) (LS : List Nat) (V : List Int) : Prop where
  len : LS.length = k
  dom : ∀ n, (s n).isSome = true ↔ n ∈ V
  inj : ∀ n m x, s n = some x → s m = some x → n = m
  var : ∀ n x, s n = some x → Den N x (.var x)
  den : ∀ i g U, LS[i]? = some g → U.wf → At l U i → vin V U ∧ Den N g (sub (vs s) U)
section
variable {l : List Part} {k : Nat} {N : Nat → Option Nd} {s : Int → Option Nat} {LS : List Nat} {V : List Int}
theorem OfG.start : OfG l 0 N (fun _ => none) [] [] := ⟨rfl, fun n => by simp, fun n m x h => by (cases h), fun n x h => by (cases h), fun i g U h => by simp at h⟩
theorem OfG.snoc (h : OfG l k N s LS V) {g : Nat} (hg : ∀ U, U.wf → At l U k → vin V U ∧ Den N g (sub (vs s) U)) : OfG l (k + 1) N s (LS ++ [g]) V := by
  refine ⟨by simp [h.len], h.dom, h.inj, h.var, fun i y U hi hw hU => ?_⟩
  rcases Nat.lt_or_ge i k with hik | hik
  · rw [List.getElem?_append_left (by rw [h.len]; exact hik)] at hi
    exact h.den i y U hi hw hU
  · have hlt := (List.getElem?_eq_some_iff.1 hi).1
    rw [List.length_append, h.len, List.length_singleton] at hlt
    obtain rfl : i = k := by omega
    rw [List.getElem?_append_right (by rw [h.len]; exact Nat.le_refl _), h.len, Nat.sub_self] at hi
    obtain rfl : g = y := by simpa using hi
    exact hg U hw hU
theorem OfG.put (h : OfG l k N s LS V) {x : Nat} {nd : Nd} (hx : N x = none) : OfG l k (putN N x nd) s LS V :=
  ⟨h.len, h.dom, h.inj, fun n y hn => (h.var n y hn).put hx, fun i g U hi hw hU => ⟨(h.den i g U hi hw hU).1, (h.den i g U hi hw hU).2.put hx⟩⟩
theorem OfG.newVar (h : OfG l k N s LS V) {x : Nat} (hx : N x = none) {n : Int} (hn : s n = none) :
    OfG l k (putN N x ⟨11, [], none, none, none⟩) (fun m => if m = n then some x else s m) LS (V ++ [n]) := by
  have h1 := h.put (nd := ⟨11, [], none, none, none⟩) hx
  have hvx : Den (putN N x ⟨11, [], none, none, none⟩) x (.var x) := .var (nd := ⟨11, [], none, none, none⟩) (by unfold putN; rw [if_pos rfl]) rfl rfl rfl rfl rfl
  have hnx : ∀ m, s m ≠ some x := fun m hm => by
    have hd := h.var m x hm
    cases hd with
    | to f1 => rw [hx] at f1; cases f1
    | var f1 => rw [hx] at f1; cases f1
  refine ⟨h.len, fun m => ?_, fun m m' y h2 h3 => ?_, fun m y h2 => ?_, fun i g U hi hw hU => ?_⟩
  · by_cases hm : m = n
    · simp [hm]
    · simp only [if_neg hm]
      rw [h.dom m]
      simp [hm]
  · by_cases hm : m = n
    · by_cases hm' : m' = n
      · rw [hm, hm']
      · simp only [if_pos hm] at h2
        simp only [if_neg hm'] at h3
        injection h2 with h2
        exact absurd (h2 ▸ h3) (hnx m')
    · by_cases hm' : m' = n
      · simp only [if_neg hm] at h2
        simp only [if_pos hm'] at h3
        injection h3 with h3
        exact absurd (h3 ▸ h2) (hnx m)
      · simp only [if_neg hm] at h2
        simp only [if_neg hm'] at h3
        exact h.inj m m' y h2 h3
  · by_cases hm : m = n
    · simp only [if_pos hm] at h2
      injection h2 with h2
      subst h2
      exact hvx
    · simp only [if_neg hm] at h2
      exact h1.var m y h2
  · obtain ⟨h4, h5⟩ := h1.den i g U hi hw hU
    refine ⟨vin_mono (fun x hx => List.mem_append_left _ hx) U h4, ?_⟩
    rw [sub_agree (L := V) (τ' := vs s) (fun m hm => ?_) U h4]
    · exact h5
    · have hmn : m ≠ n := fun e => by
        subst e
        have := (h.dom m).2 hm
        rw [hn] at this
        cases this
      simp only [vs, if_neg hmn]
end
/-- Part k is what a tree begins with. -/
theorem At.leaf_ {l : List Part} {k : Nat} {U : Ty} {p : Part} (hw : U.wf) (h : At l U k) (hp : l[k]? = some p) : (p.k = 11 → U = .var p.n) ∧ (p.k ≠ 11 → p.k ≠ 7 → p.k ≠ 9 → p.k ≠ 6 → p.k ≠ 8 → U = .leaf p.k p.t)
    ∧ (p.k = 7 ∨ p.k = 9 → ∃ (j : Nat) (s : Ty), k = j + 1 ∧ p.a = j ∧ At l s j ∧ U = .one p.k s ∧ s.wf) ∧ (p.k = 6 ∨ p.k = 8 → ∃ (j g : Nat) (s u : Ty), k = j + 1 ∧ g < j ∧ p.a = g ∧ p.b = j ∧ At l s g ∧ At l u j ∧ U = .two p.k s u ∧ s.wf ∧ u.wf) := by
  cases U with
  | leaf k' t =>
    have h' : l[k]? = some ⟨k', 0, 0, 0, t⟩ := h
    rw [h'] at hp
    obtain rfl := Option.some.inj hp
    simp only [Ty.wf] at hw
    exact ⟨fun e => by simp only at e; omega, fun _ _ _ _ _ => rfl, fun e => by simp only at e; omega, fun e => by simp only at e; omega⟩
  | var n =>
    have h' : l[k]? = some ⟨11, 0, 0, n, []⟩ := h
    rw [h'] at hp
    obtain rfl := Option.some.inj hp
    exact ⟨fun e => rfl, fun e => absurd rfl e, fun e => by simp only at e; omega, fun e => by simp only at e; omega⟩
  | one k' s =>
    obtain ⟨j, e, h', hs⟩ := h
    rw [h'] at hp
    obtain rfl := Option.some.inj hp
    simp only [Ty.wf] at hw
    refine ⟨fun e => by simp only at e; omega, fun _ _ _ => by simp only at *; omega, fun _ => ⟨j, s, e, rfl, hs, rfl, hw.2⟩, fun e => by simp only at e; omega⟩
  | two k' s u =>
    obtain ⟨j, g, e, h', hs, hu, e2⟩ := h
    rw [h'] at hp
    obtain rfl := Option.some.inj hp
    simp only [Ty.wf] at hw
    have := u.size_pos
    refine ⟨fun e => by simp only at e; omega, fun _ _ _ _ _ => by simp only at *; omega, fun e => by simp only at e; omega, fun _ => ⟨j, g, s, u, e, by omega, rfl, rfl, hs, hu, rfl, hw.2.1, hw.2.2⟩⟩
/-- What the call has laid by now. -/
structure OfW (W w : World) (l : List Part) (k mb : Nat) (v : Value) (N : Nat → Option Nd) (s : Int → Option Nat) (LS : List Nat) (V : List Int) : Prop where
  below : Below W.heap.size W w
  mem : TMem w N
  new : ∀ x, N x ≠ none → W.heap.size ≤ x
  map : ∃ n, IMap w mb (fun i => (s i).map ptr) n
  mnew : W.heap.size ≤ mb
  own : w.ownsRow W.heap.size 51 1 v k (LS.map ptr)
  g : OfG l k N s LS V
theorem own_base {w : World} {base n size : Nat} {e : TypeId} {v : Value} {xs : List Value} (h : w.ownsRow base e size v n xs) : ∀ k, v.ownBlock = some k → base ≤ k := by
  rcases h.2 with ⟨rfl, _⟩ | ⟨g, cap, cur, rfl, h1, h2, _⟩
  · intro k hk; cases hk
  · intro k hk
    have : g = k := by simpa [Value.ownBlock] using hk
    subst this
    exact h1
theorem ptr_info : (Tryd.prog.info? 51).map (fun i => (i.zero, i.size, i.bytes)) = some (some (.pointer none), 1, 8) := by kernel_rfl
theorem OfW.start (W : World) (l : List Part) : OfW W (W.alloc (.map #[] 0)) l 0 W.heap.size (.slice none 0 0) (fun _ => none) (fun _ => none) [] [] :=
  ⟨below_new W _, fun g d h => by (cases h), fun x h => absurd rfl h, ⟨0, IMap.made W⟩, Nat.le_refl _, ⟨rfl, .inl ⟨rfl, rfl⟩⟩, OfG.start⟩
section
variable {W w w' : World} {l : List Part} {k mb : Nat} {v : Value} {N : Nat → Option Nd} {s : Int → Option Nat} {LS : List Nat} {V : List Int}
theorem OfW.next (h : OfW W w l k mb v N s LS V) (hb : Below w.heap.size w w') : OfW W w' l k mb v N s LS V :=
  ⟨h.below.trans (hb.mono h.below.size), h.mem.next hb, h.new, by obtain ⟨n, hm⟩ := h.map; exact ⟨n, hm.next hb⟩, h.mnew, own_next h.own hb, h.g⟩
theorem OfW.alloc (h : OfW W w l k mb v N s LS V) (o : Obj) : OfW W (w.alloc o) l k mb v N s LS V := h.next (below_new w o)
theorem OfW.node (h : OfW W w l k mb v N s LS V) {x : Nat} {nd : Nd} (hb : Blk w x 69 nd.cells) (hx : N x = none) (hn : W.heap.size ≤ x) : OfW W w l k mb v (putN N x nd) s LS V := by
  refine ⟨h.below, fun g d hd => ?_, fun y hy => ?_, h.map, h.mnew, h.own, h.g.put hx⟩
  · unfold putN at hd
    split at hd
    · rename_i e
      subst e
      obtain rfl := Option.some.inj hd
      exact hb
    · exact h.mem g d hd
  · unfold putN at hy
    split at hy
    · rename_i e; rw [e]; exact hn
    · exact h.new y hy
theorem OfW.setx (h : OfW W w l k mb v N s LS V) {x : Nat} {cs : Array Value} (hb : Blk w x 69 cs) (hx : N x = none) (hn : W.heap.size ≤ x) (i : Nat) (u : Value) : OfW W (w.setCell ⟨x, i, none⟩ u) l k mb v N s LS V := by
  obtain ⟨n, hm⟩ := h.map
  refine ⟨⟨h.below.os, h.below.tape, h.below.output, by rw [World.size_setCell]; exact h.below.size, fun j hj => (Below.heap_setCell w ⟨x, i, none⟩ u j (by show j ≠ x; omega)).trans (h.below.block j hj)⟩, fun g d hd => (h.mem g d hd).far (fun e => by simp only at e; rw [e, hx] at hd; cases hd) u, h.new, ⟨n, hm.keep (Below.heap_setCell w ⟨x, i, none⟩ u mb fun e => hm.ne hb e.symm)⟩, h.mnew, own_set h.own hb (by decide), h.g⟩
theorem OfW.own_ne (h : OfW W w l k mb v N s LS V) : v.ownBlock ≠ some mb := by
  obtain ⟨n, hm⟩ := h.map
  rcases h.own.2 with ⟨rfl, _⟩ | ⟨g, cap, cur, rfl, _, h2, _⟩
  · intro e; cases e
  · intro e
    have : g = mb := by simpa [Value.ownBlock] using e
    exact hm.ne (t := 51) h2 this
theorem OfW.mapped (h : OfW W w l k mb v N s LS V) (hg : w.grownBy w' (some mb)) {s' : Int → Option Nat} {V' : List Int} {N' : Nat → Option Nd} {n : Nat} (hm : IMap w' mb (fun i => (s' i).map ptr) n) (hN : TMem w N') (hn : ∀ x, N' x ≠ none → W.heap.size ≤ x) (hG : OfG l k N' s' LS V') : OfW W w' l k mb v N' s' LS V' := by
  obtain ⟨n0, hm0⟩ := h.map
  refine ⟨h.below.grown hg h.below.size (fun j e => by injection e with e; rw [← e]; exact h.mnew), fun g d hd => (hN g d hd).grown hg (fun e => hm0.ne (hN g d hd) (by injection e)), hn, ⟨n, hm⟩, h.mnew, ?_, hG⟩
  refine h.own.kept hg ?_
  cases hv : v.ownBlock with
  | none => exact .inl rfl
  | some j => exact .inr fun e => h.own_ne (hv.trans e)
theorem OfW.push (h : OfW W w l k mb v N s LS V) {o : Obj} {v1 : Value} {w7 : World} {x : Nat} (hx : ∀ U, U.wf → At l U k → vin V U ∧ Den N x (sub (vs s) U)) (oA : w7.ownsRow W.heap.size 51 1 v1 (k + 1) (LS.map ptr ++ [ptr x])) (gA : (w.alloc o).grownBy w7 v.ownBlock) : OfW W w7 l (k + 1) mb v1 N s (LS ++ [x]) V := by
  have h6 := h.alloc o
  obtain ⟨n0, hm0⟩ := h6.map
  refine ⟨h6.below.grown gA h6.below.size (fun j e => own_base h6.own j e), fun g d hd => (h6.mem g d hd).grown gA (fun e => own_blk_ne h6.own (h6.mem g d hd) (by decide) e.symm), h6.new, ⟨n0, hm0.keep (gA.block mb hm0.lt fun e => h6.own_ne e.symm)⟩, h6.mnew, ?_, h6.g.snoc hx⟩
  rw [List.map_append]
  exact oA
end
theorem reads_newN (w : World) (x b : Nat) (hb : w.heap.size = b) : Reads (w.alloc (.cells #[ptr x] 51)) (b + 1) 1 (some ⟨b, 0, none⟩) 1 [ptr x] := by
  subst hb
  exact reads_ptr1 (Blk.new w 51 #[ptr x])
/-- What the call hands back. -/
def OfEnd (l : List Part) (W : World) (e : Ending) (W' : World) : Prop :=
  ∃ g N s V, e = .returned (ptr g) ∧ TMem W' N ∧ (∀ x, N x ≠ none → W.heap.size ≤ x) ∧ Below W.heap.size W W' ∧ (∀ n, (s n).isSome = true ↔ n ∈ V) ∧ (∀ n m x, s n = some x → s m = some x → n = m) ∧ (∀ n x, s n = some x → N x ≠ none) ∧ ∀ U : Ty, U.wf → At l U (l.length - 1) → vin V U ∧ Den N g (sub (vs s) U)
set_option maxRecDepth 100000 in
set_option maxHeartbeats 16000000 in
theorem c31 (l : List Part) (hT : ∀ i, i < l.length → ∃ U : Ty, U.wf ∧ At l U i) (h0 : 0 < l.length) (hl : l.length ≤ 1000) (A : Option Addr) (c B : Nat) (W : World) (hr : Reads W B 5 A l.length (l.flatMap partC)) (hB : B ≤ W.heap.size) :
    Calls Tryd.prog 31 #[.slice A l.length c] W (OfEnd l W) := by
  have HT := Lib.hid hT
  have HR := Lib.hid hr
  have HB := Lib.hid hB
  clear hT hr hB
  have hmm := @run_makeMap Tryd.prog
  obtain ⟨i51, fi51, hz0, hz1, hz2⟩ := info_parts ptr_info
  go_enter Tryd.func31, Tryd.ntmps31
  go_wp2_with fail
  go_loopw [4, 13] (fun v i wr => ∃ (k : Nat) (N : Nat → Option Nd) (s : Int → Option Nat) (LS : List Nat) (V : List Int), k ≤ l.length ∧ i = .int .i64 k ∧ OfW W wr l k W.heap.size v N s LS V) (fun _ i _ => l.length - (intOf i).toNat)
  case atStart => exact ⟨0, _, _, _, _, by omega, rfl, OfW.start W l⟩
  case round =>
    obtain ⟨k, N, s, LS, V, hk, rfl, ho⟩ := hrel
    obtain ⟨AL, cL, rfl⟩ := own_form ho.own
    have HO := Lib.hid ho
    clear ho
    by_cases hlt : k < l.length
    · have hlk : (k : Int) < (l.length : Int) := by omega
      have hk0 : (0 : Int) ≤ (k : Int) := by omega
      obtain ⟨U, hU, hAt⟩ := HT.out k hlt
      obtain ⟨ad, rfl, _, hcs⟩ := ((HR.out.below (HO.out.below.mono HB.out)).partAt (List.getElem?_eq_getElem hlt))
      have hpk : l[k]? = some l[k] := List.getElem?_eq_getElem hlt
      generalize l[k] = p at hcs hpk
      have HCS := Lib.hid hcs
      have HPK := Lib.hid hpk
      have HU := Lib.hid hU
      have HAt := Lib.hid hAt
      clear hcs hpk hU hAt
      have hxn : N (wr.heap.size + 1) = none := HO.out.mem.fresh (by omega)
      have HXN := Lib.hid hxn
      clear hxn
      cases U with
      | leaf pk pt =>
        obtain rfl : p = ⟨pk, 0, 0, 0, pt⟩ := (Option.some.inj (HPK.out.symm.trans HAt.out))
        have hpk : pk ≠ 11 ∧ pk ≠ 7 ∧ pk ≠ 9 ∧ pk ≠ 6 ∧ pk ≠ 8 := by have := HU.out; simp only [Ty.wf] at this; omega
        have f11 : (pk == 11) = false := beq_false_of_ne hpk.1
        have f7 : (pk == 7) = false := beq_false_of_ne hpk.2.1
        have f9 : (pk == 9) = false := beq_false_of_ne hpk.2.2.1
        have f6 : (pk == 6) = false := beq_false_of_ne hpk.2.2.2.1
        have f8 : (pk == 8) = false := beq_false_of_ne hpk.2.2.2.2
        have H11 := Lib.hid hpk.1
        clear hpk
        have HO1 : Hid (OfW W ((wr.alloc (.cells #[.int .i64 pk, .int .i64 0, .int .i64 0, .int .i64 0, strV pt] 29)).alloc (.cells #[.int .i64 pk, strV pt, .pointer none, .pointer none, .pointer none] 69)) l k W.heap.size (.slice AL k cL) (putN N (wr.heap.size + 1) ⟨pk, pt, none, none, none⟩) s LS V) := Lib.hid (((HO.out.alloc _).alloc _).node (by have h := Blk.new (wr.alloc (.cells #[.int .i64 pk, .int .i64 0, .int .i64 0, .int .i64 0, strV pt] 29)) 69 (Nd.mk pk pt none none none).cells; rw [World.size_alloc] at h; exact h) HXN.out (by have := HO.out.below.size; omega))
        have HNB := Lib.hid (reads_newN ((wr.alloc (.cells #[.int .i64 pk, .int .i64 0, .int .i64 0, .int .i64 0, strV pt] 29)).alloc (.cells #[.int .i64 pk, strV pt, .pointer none, .pointer none, .pointer none] 69)) (wr.heap.size + 1) (wr.heap.size + 1 + 1) (by rw [World.size_alloc, World.size_alloc]))
        have HBS := Lib.hid (show W.heap.size ≤ (((wr.alloc (.cells #[.int .i64 pk, .int .i64 0, .int .i64 0, .int .i64 0, strV pt] 29)).alloc (.cells #[.int .i64 pk, strV pt, .pointer none, .pointer none, .pointer none] 69)).alloc (.cells #[ptr (wr.heap.size + 1)] 51)).heap.size from Nat.le_trans HO1.out.below.size (by rw [World.size_alloc _ (.cells #[ptr (wr.heap.size + 1)] 51)]; exact Nat.le_succ _))
        go_wp2_with (first | (refine wpList_load_at rfl 29 (.tmp 15) rfl (ad.add (k * 5)) rfl [.int .i64 pk, .int .i64 0, .int .i64 0, .int .i64 0, strV pt] _ HCS.out Tryd.underlying29 rfl (by kernel_rfl) ?_) | (at_builtin; refine wpList_append_any _ rfl (.tmp 70) (.tmp 72) 67 rfl W.heap.size 51 i51 _ 1 8 Tryd.underlying67 fi51 hz0 hz1 hz2 rfl (by omega) (.slice AL k cL) k (LS.map ptr) rfl (own_next HO1.out.own (below_new _ _)) _ (some ⟨_, 0, none⟩) 1 1 [ptr (wr.heap.size + 1)] rfl HNB.out (by simp [Value.oneCell']) (by unfold maxLen; omega) (by omega) HBS.out ?_; intro v1 w7 oA gA _))
        have HA := Lib.hid oA
        have HG := Lib.hid gA
        clear oA gA
        go_roundw
        case rel =>
          refine ⟨k + 1, _, _, _, _, by omega, by go_num, HO1.out.push ?_ HA.out HG.out⟩
          intro U' wU' hU'
          have e := at_fun l U' _ k wU' HU.out hU' HAt.out
          rw [e]
          exact ⟨trivial, .leaf (nd := ⟨pk, pt, none, none, none⟩) (by unfold putN; rw [if_pos rfl]) rfl rfl rfl H11.out⟩
        case measure => simp [intOf]; omega
      | var pn =>
        obtain rfl : p = ⟨11, 0, 0, pn, []⟩ := (Option.some.inj (HPK.out.symm.trans HAt.out))
        obtain ⟨nm, hm⟩ := HO.out.map
        have hm3 := (hm.alloc (.cells #[.int .i64 11, .int .i64 0, .int .i64 0, .int .i64 pn, strV []] 29)).alloc (.cells #[.int .i64 11, strV [], .pointer none, .pointer none, .pointer none] 69)
        have hlk := look66 hm3 pn
        have HO3 := Lib.hid ((HO.out.alloc (.cells #[.int .i64 11, .int .i64 0, .int .i64 0, .int .i64 pn, strV []] 29)).alloc (.cells #[.int .i64 11, strV [], .pointer none, .pointer none, .pointer none] 69))
        cases hs : s pn with
        | some x =>
          rw [hs] at hlk
          replace hlk : (Instr.lookup 66 (.map (some W.heap.size)) (iK pn) true).run Tryd.prog ((wr.alloc (.cells #[.int .i64 11, .int .i64 0, .int .i64 0, .int .i64 pn, strV []] 29)).alloc (.cells #[.int .i64 11, strV [], .pointer none, .pointer none, .pointer none] 69)) = .ok (.tuple #[ptr x, .bool true]) ((wr.alloc (.cells #[.int .i64 11, .int .i64 0, .int .i64 0, .int .i64 pn, strV []] 29)).alloc (.cells #[.int .i64 11, strV [], .pointer none, .pointer none, .pointer none] 69)) := hlk
          obtain ⟨w4, hst, hm4, hg4⟩ := store66 hm3 pn (ptr x)
          have hsame : (fun i : Int => if i = pn then some (ptr x) else (s i).map ptr) = fun i => (s i).map ptr := by
            funext i
            by_cases e : i = pn
            · rw [if_pos e, e, hs]; rfl
            · rw [if_neg e]
          rw [hsame] at hm4
          have HO1 := Lib.hid (HO3.out.mapped hg4 hm4 HO3.out.mem HO.out.new HO.out.g)
          have HSX := Lib.hid hs
          clear hm hm3 hsame hm4 hg4 hs
          have HNB := Lib.hid (reads_newN w4 x w4.heap.size rfl)
          have HBS := Lib.hid (show W.heap.size ≤ (w4.alloc (.cells #[ptr x] 51)).heap.size from Nat.le_trans HO1.out.below.size (by rw [World.size_alloc _ (.cells #[ptr x] 51)]; exact Nat.le_succ _))
          go_wp2_with (first | (refine wpList_load_at rfl 29 (.tmp 15) rfl (ad.add (k * 5)) rfl [.int .i64 11, .int .i64 0, .int .i64 0, .int .i64 pn, strV []] _ HCS.out Tryd.underlying29 rfl (by kernel_rfl) ?_) | (at_builtin; refine wpList_append_any _ rfl (.tmp 70) (.tmp 72) 67 rfl W.heap.size 51 i51 _ 1 8 Tryd.underlying67 fi51 hz0 hz1 hz2 rfl (by omega) (.slice AL k cL) k (LS.map ptr) rfl (own_next HO1.out.own (below_new _ _)) _ (some ⟨_, 0, none⟩) 1 1 [ptr x] rfl HNB.out (by simp [Value.oneCell']) (by unfold maxLen; omega) (by omega) HBS.out ?_; intro v1 w7 oA gA _))
          have HA := Lib.hid oA
          have HG := Lib.hid gA
          clear oA gA
          go_roundw
          case rel =>
            refine ⟨k + 1, _, _, _, _, by omega, by go_num, HO1.out.push ?_ HA.out HG.out⟩
            intro U' wU' hU'
            have e := at_fun l U' _ k wU' HU.out hU' HAt.out
            rw [e]
            refine ⟨(HO.out.g.dom pn).1 (by rw [HSX.out]; rfl), ?_⟩
            have h := HO.out.g.var pn x HSX.out
            show Den N x (vs s pn)
            unfold vs
            rw [HSX.out]
            exact h
          case measure => simp [intOf]; omega
        | none =>
          rw [hs] at hlk
          replace hlk : (Instr.lookup 66 (.map (some W.heap.size)) (iK pn) true).run Tryd.prog ((wr.alloc (.cells #[.int .i64 11, .int .i64 0, .int .i64 0, .int .i64 pn, strV []] 29)).alloc (.cells #[.int .i64 11, strV [], .pointer none, .pointer none, .pointer none] 69)) = .ok (.tuple #[.pointer none, .bool false]) ((wr.alloc (.cells #[.int .i64 11, .int .i64 0, .int .i64 0, .int .i64 pn, strV []] 29)).alloc (.cells #[.int .i64 11, strV [], .pointer none, .pointer none, .pointer none] 69)) := hlk
          obtain ⟨w4, hst, hm4, hg4⟩ := store66 hm3 pn (ptr (wr.heap.size + 1))
          have hsame : (fun i : Int => if i = pn then some (ptr (wr.heap.size + 1)) else (s i).map ptr) = fun i => ((fun m => if m = pn then some (wr.heap.size + 1) else s m) i).map ptr := by
            funext i
            by_cases e : i = pn
            · simp only [if_pos e]; rfl
            · simp only [if_neg e]
          rw [hsame] at hm4
          have hO3n := HO3.out.node (nd := ⟨11, [], none, none, none⟩) (by have h := Blk.new (wr.alloc (.cells #[.int .i64 11, .int .i64 0, .int .i64 0, .int .i64 pn, strV []] 29)) 69 (Nd.mk 11 [] none none none).cells; rw [World.size_alloc] at h; exact h) HXN.out (by have := HO.out.below.size; omega)
          have HO1 := Lib.hid (HO3.out.mapped hg4 hm4 hO3n.mem hO3n.new (HO.out.g.newVar HXN.out hs))
          have HSX := Lib.hid hs
          clear hm hm3 hsame hm4 hg4 hs hO3n
          have HNB := Lib.hid (reads_newN w4 (wr.heap.size + 1) w4.heap.size rfl)
          have HBS := Lib.hid (show W.heap.size ≤ (w4.alloc (.cells #[ptr (wr.heap.size + 1)] 51)).heap.size from Nat.le_trans HO1.out.below.size (by rw [World.size_alloc _ (.cells #[ptr (wr.heap.size + 1)] 51)]; exact Nat.le_succ _))
          go_wp2_with (first | (refine wpList_load_at rfl 29 (.tmp 15) rfl (ad.add (k * 5)) rfl [.int .i64 11, .int .i64 0, .int .i64 0, .int .i64 pn, strV []] _ HCS.out Tryd.underlying29 rfl (by kernel_rfl) ?_) | (at_builtin; refine wpList_append_any _ rfl (.tmp 70) (.tmp 72) 67 rfl W.heap.size 51 i51 _ 1 8 Tryd.underlying67 fi51 hz0 hz1 hz2 rfl (by omega) (.slice AL k cL) k (LS.map ptr) rfl (own_next HO1.out.own (below_new _ _)) _ (some ⟨_, 0, none⟩) 1 1 [ptr (wr.heap.size + 1)] rfl HNB.out (by simp [Value.oneCell']) (by unfold maxLen; omega) (by omega) HBS.out ?_; intro v1 w7 oA gA _))
          have HA := Lib.hid oA
          have HG := Lib.hid gA
          clear oA gA
          go_roundw
          case rel =>
            refine ⟨k + 1, _, _, _, _, by omega, by go_num, HO1.out.push ?_ HA.out HG.out⟩
            intro U' wU' hU'
            have e := at_fun l U' _ k wU' HU.out hU' HAt.out
            rw [e]
            refine ⟨List.mem_append_right _ (List.mem_singleton.2 rfl), ?_⟩
            show Den _ _ (vs _ pn)
            unfold vs
            simp only [if_true]
            exact .var (nd := ⟨11, [], none, none, none⟩) (by unfold putN; rw [if_pos rfl]) rfl rfl rfl rfl rfl
          case measure => simp [intOf]; omega
      | one pk s' =>
        obtain ⟨j, rfl, hlj, hAs⟩ := HAt.out
        obtain rfl : p = ⟨pk, (j : Int), 0, 0, []⟩ := (Option.some.inj (HPK.out.symm.trans hlj))
        obtain ⟨ga, hga⟩ : ∃ ga, LS[j]? = some ga := ⟨_, List.getElem?_eq_getElem (by rw [HO.out.g.len]; omega)⟩
        obtain ⟨adL, rfl, hal, q0⟩ := (Reads.of_own HO.out.own).ptrAt hga
        have HAL := Lib.hid hal
        have HQ := Lib.hid q0
        have HDg := Lib.hid (HO.out.g.den j ga s' hga HU.out.2 hAs)
        have hj1 : (j : Int) < ((j + 1 : Nat) : Int) := by omega
        have hj2 : (j : Int) < (j : Int) + 1 := by omega
        have hj0 : (0 : Int) ≤ (j : Int) := by omega
        have hpk := HU.out.1
        clear hal q0 hga hAs hlj
        rcases hpk with rfl | rfl
        · have HO1 : Hid (OfW W ((wr.alloc (.cells #[.int .i64 7, .int .i64 (j : Int), .int .i64 0, .int .i64 0, strV []] 29)).alloc (.cells #[.int .i64 7, strV [], ptr ga, .pointer none, .pointer none] 69)) l (j + 1) W.heap.size (.slice (some adL) (j + 1) cL) (putN N (wr.heap.size + 1) ⟨7, [], some ga, none, none⟩) s LS V) := Lib.hid (((HO.out.alloc _).alloc _).node (by have h := Blk.new (wr.alloc (.cells #[.int .i64 7, .int .i64 (j : Int), .int .i64 0, .int .i64 0, strV []] 29)) 69 (Nd.mk 7 [] (some ga) none none).cells; rw [World.size_alloc] at h; exact h) HXN.out (by have := HO.out.below.size; omega))
          have HNB := Lib.hid (reads_newN ((wr.alloc (.cells #[.int .i64 7, .int .i64 (j : Int), .int .i64 0, .int .i64 0, strV []] 29)).alloc (.cells #[.int .i64 7, strV [], ptr ga, .pointer none, .pointer none] 69)) (wr.heap.size + 1) (wr.heap.size + 1 + 1) (by rw [World.size_alloc, World.size_alloc]))
          have HBS := Lib.hid (show W.heap.size ≤ (((wr.alloc (.cells #[.int .i64 7, .int .i64 (j : Int), .int .i64 0, .int .i64 0, strV []] 29)).alloc (.cells #[.int .i64 7, strV [], ptr ga, .pointer none, .pointer none] 69)).alloc (.cells #[ptr (wr.heap.size + 1)] 51)).heap.size from Nat.le_trans HO1.out.below.size (by rw [World.size_alloc _ (.cells #[ptr (wr.heap.size + 1)] 51)]; exact Nat.le_succ _))
          have q1 : ((wr.alloc (.cells #[.int .i64 7, .int .i64 (j : Int), .int .i64 0, .int .i64 0, strV []] 29)).alloc (.cells #[.int .i64 7, strV [], .pointer none, .pointer none, .pointer none] 69)).cell? (adL.add j) = some (ptr ga) := (World.cell?_alloc_lt _ _ _ (by rw [World.size_alloc, block_of_add]; have := HAL.out; omega)).trans ((World.cell?_alloc_lt _ _ _ (by rw [block_of_add]; exact HAL.out)).trans HQ.out)
          go_wp2_with (first | (refine wpList_load_at rfl 29 (.tmp 15) rfl (ad.add ((j + 1) * 5)) rfl [.int .i64 7, .int .i64 (j : Int), .int .i64 0, .int .i64 0, strV []] _ HCS.out Tryd.underlying29 rfl (by kernel_rfl) ?_) | (at_builtin; refine wpList_append_any _ rfl (.tmp 70) (.tmp 72) 67 rfl W.heap.size 51 i51 _ 1 8 Tryd.underlying67 fi51 hz0 hz1 hz2 rfl (by omega) (.slice (some adL) (j + 1) cL) (j + 1) (LS.map ptr) rfl (own_next HO1.out.own (below_new _ _)) _ (some ⟨_, 0, none⟩) 1 1 [ptr (wr.heap.size + 1)] rfl HNB.out (by simp [Value.oneCell']) (by unfold maxLen; omega) (by omega) HBS.out ?_; intro v1 w7 oA gA _))
          have HA := Lib.hid oA
          have HG := Lib.hid gA
          clear oA gA
          go_roundw
          case rel =>
            refine ⟨j + 1 + 1, _, _, _, _, by omega, by go_num, HO1.out.push ?_ HA.out HG.out⟩
            intro U' wU' hU'
            have e := at_fun l U' _ (j + 1) wU' HU.out hU' HAt.out
            rw [e]
            exact ⟨HDg.out.1, .one (nd := ⟨7, [], some ga, none, none⟩) (by unfold putN; rw [if_pos rfl]) rfl rfl rfl rfl (show (7 : Int) ≠ 11 by decide) (HDg.out.2.put HXN.out)⟩
          case measure => simp [intOf]; omega
        · have HO1 : Hid (OfW W ((wr.alloc (.cells #[.int .i64 9, .int .i64 (j : Int), .int .i64 0, .int .i64 0, strV []] 29)).alloc (.cells #[.int .i64 9, strV [], ptr ga, .pointer none, .pointer none] 69)) l (j + 1) W.heap.size (.slice (some adL) (j + 1) cL) (putN N (wr.heap.size + 1) ⟨9, [], some ga, none, none⟩) s LS V) := Lib.hid (((HO.out.alloc _).alloc _).node (by have h := Blk.new (wr.alloc (.cells #[.int .i64 9, .int .i64 (j : Int), .int .i64 0, .int .i64 0, strV []] 29)) 69 (Nd.mk 9 [] (some ga) none none).cells; rw [World.size_alloc] at h; exact h) HXN.out (by have := HO.out.below.size; omega))
          have HNB := Lib.hid (reads_newN ((wr.alloc (.cells #[.int .i64 9, .int .i64 (j : Int), .int .i64 0, .int .i64 0, strV []] 29)).alloc (.cells #[.int .i64 9, strV [], ptr ga, .pointer none, .pointer none] 69)) (wr.heap.size + 1) (wr.heap.size + 1 + 1) (by rw [World.size_alloc, World.size_alloc]))
          have HBS := Lib.hid (show W.heap.size ≤ (((wr.alloc (.cells #[.int .i64 9, .int .i64 (j : Int), .int .i64 0, .int .i64 0, strV []] 29)).alloc (.cells #[.int .i64 9, strV [], ptr ga, .pointer none, .pointer none] 69)).alloc (.cells #[ptr (wr.heap.size + 1)] 51)).heap.size from Nat.le_trans HO1.out.below.size (by rw [World.size_alloc _ (.cells #[ptr (wr.heap.size + 1)] 51)]; exact Nat.le_succ _))
          have q1 : ((wr.alloc (.cells #[.int .i64 9, .int .i64 (j : Int), .int .i64 0, .int .i64 0, strV []] 29)).alloc (.cells #[.int .i64 9, strV [], .pointer none, .pointer none, .pointer none] 69)).cell? (adL.add j) = some (ptr ga) := (World.cell?_alloc_lt _ _ _ (by rw [World.size_alloc, block_of_add]; have := HAL.out; omega)).trans ((World.cell?_alloc_lt _ _ _ (by rw [block_of_add]; exact HAL.out)).trans HQ.out)
          go_wp2_with (first | (refine wpList_load_at rfl 29 (.tmp 15) rfl (ad.add ((j + 1) * 5)) rfl [.int .i64 9, .int .i64 (j : Int), .int .i64 0, .int .i64 0, strV []] _ HCS.out Tryd.underlying29 rfl (by kernel_rfl) ?_) | (at_builtin; refine wpList_append_any _ rfl (.tmp 70) (.tmp 72) 67 rfl W.heap.size 51 i51 _ 1 8 Tryd.underlying67 fi51 hz0 hz1 hz2 rfl (by omega) (.slice (some adL) (j + 1) cL) (j + 1) (LS.map ptr) rfl (own_next HO1.out.own (below_new _ _)) _ (some ⟨_, 0, none⟩) 1 1 [ptr (wr.heap.size + 1)] rfl HNB.out (by simp [Value.oneCell']) (by unfold maxLen; omega) (by omega) HBS.out ?_; intro v1 w7 oA gA _))
          have HA := Lib.hid oA
          have HG := Lib.hid gA
          clear oA gA
          go_roundw
          case rel =>
            refine ⟨j + 1 + 1, _, _, _, _, by omega, by go_num, HO1.out.push ?_ HA.out HG.out⟩
            intro U' wU' hU'
            have e := at_fun l U' _ (j + 1) wU' HU.out hU' HAt.out
            rw [e]
            exact ⟨HDg.out.1, .one (nd := ⟨9, [], some ga, none, none⟩) (by unfold putN; rw [if_pos rfl]) rfl rfl rfl rfl (show (9 : Int) ≠ 11 by decide) (HDg.out.2.put HXN.out)⟩
          case measure => simp [intOf]; omega
      | two pk s' u' =>
        obtain ⟨j, h, rfl, hlj, hAs, hAu, hhj⟩ := HAt.out
        obtain rfl : p = ⟨pk, (h : Int), (j : Int), 0, []⟩ := (Option.some.inj (HPK.out.symm.trans hlj))
        have hup := u'.size_pos
        obtain ⟨ga, hga⟩ : ∃ ga, LS[h]? = some ga := ⟨_, List.getElem?_eq_getElem (by rw [HO.out.g.len]; omega)⟩
        obtain ⟨gb, hgb⟩ : ∃ gb, LS[j]? = some gb := ⟨_, List.getElem?_eq_getElem (by rw [HO.out.g.len]; omega)⟩
        obtain ⟨adL, rfl, hal, q0⟩ := (Reads.of_own HO.out.own).ptrAt hga
        obtain ⟨adM, hadm, _, r0⟩ := (Reads.of_own HO.out.own).ptrAt hgb
        obtain rfl : adL = adM := by injection hadm
        have HAL := Lib.hid hal
        have HQ := Lib.hid q0
        have HQ2 := Lib.hid r0
        have HDg := Lib.hid (HO.out.g.den h ga s' hga HU.out.2.1 hAs)
        have HDh := Lib.hid (HO.out.g.den j gb u' hgb HU.out.2.2 hAu)
        have hh1 : (h : Int) < ((j + 1 : Nat) : Int) := by omega
        have hh2 : (h : Int) < (j : Int) + 1 := by omega
        have hh0 : (0 : Int) ≤ (h : Int) := by omega
        have hj1 : (j : Int) < ((j + 1 : Nat) : Int) := by omega
        have hj2 : (j : Int) < (j : Int) + 1 := by omega
        have hj0 : (0 : Int) ≤ (j : Int) := by omega
        have hpk := HU.out.1
        clear hal q0 r0 hga hgb hAs hAu hlj hadm hhj hup
        rcases hpk with rfl | rfl
        · go_wp2_with (first | (refine wpList_load_at rfl 29 (.tmp 15) rfl (ad.add ((j + 1) * 5)) rfl [.int .i64 6, .int .i64 (h : Int), .int .i64 (j : Int), .int .i64 0, strV []] _ HCS.out Tryd.underlying29 rfl (by kernel_rfl) ?_))
          have DX : Hid (Blk ((wr.alloc (.cells #[.int .i64 6, .int .i64 (h : Int), .int .i64 (j : Int), .int .i64 0, strV []] 29)).alloc (.cells #[.int .i64 6, strV [], .pointer none, .pointer none, .pointer none] 69)).drew (wr.heap.size + 1) 69 (Nd.mk 6 [] none none none).cells) := Lib.hid (by have h := Blk.new (wr.alloc (.cells #[.int .i64 6, .int .i64 (h : Int), .int .i64 (j : Int), .int .i64 0, strV []] 29)) 69 (Nd.mk 6 [] none none none).cells; rw [World.size_alloc] at h; exact h.drew)
          have DP : Hid (Blk ((wr.alloc (.cells #[.int .i64 6, .int .i64 (h : Int), .int .i64 (j : Int), .int .i64 0, strV []] 29)).alloc (.cells #[.int .i64 6, strV [], .pointer none, .pointer none, .pointer none] 69)).drew wr.heap.size 29 #[.int .i64 6, .int .i64 (h : Int), .int .i64 (j : Int), .int .i64 0, strV []]) := Lib.hid (((Blk.new wr 29 #[.int .i64 6, .int .i64 (h : Int), .int .i64 (j : Int), .int .i64 0, strV []]).alloc _).drew)
          have DO : Hid (OfW W ((wr.alloc (.cells #[.int .i64 6, .int .i64 (h : Int), .int .i64 (j : Int), .int .i64 0, strV []] 29)).alloc (.cells #[.int .i64 6, strV [], .pointer none, .pointer none, .pointer none] 69)).drew l (j + 1) W.heap.size (.slice (some adL) (j + 1) cL) N s LS V) := Lib.hid (((HO.out.alloc _).alloc _).next (Below.drew (Below.refl _ _)))
          have q1 : ((wr.alloc (.cells #[.int .i64 6, .int .i64 (h : Int), .int .i64 (j : Int), .int .i64 0, strV []] 29)).alloc (.cells #[.int .i64 6, strV [], .pointer none, .pointer none, .pointer none] 69)).drew.cell? (adL.add h) = some (ptr ga) := (World.cell?_alloc_lt _ _ _ (by rw [World.size_alloc, block_of_add]; have := HAL.out; omega)).trans ((World.cell?_alloc_lt _ _ _ (by rw [block_of_add]; exact HAL.out)).trans HQ.out)
          have q2 : ((wr.alloc (.cells #[.int .i64 6, .int .i64 (h : Int), .int .i64 (j : Int), .int .i64 0, strV []] 29)).alloc (.cells #[.int .i64 6, strV [], .pointer none, .pointer none, .pointer none] 69)).drew.cell? (adL.add j) = some (ptr gb) := (World.cell?_alloc_lt _ _ _ (by rw [World.size_alloc, block_of_add]; have := HAL.out; omega)).trans ((World.cell?_alloc_lt _ _ _ (by rw [block_of_add]; exact HAL.out)).trans HQ2.out)
          have DC := Lib.hid (show ((wr.alloc (.cells #[.int .i64 6, .int .i64 (h : Int), .int .i64 (j : Int), .int .i64 0, strV []] 29)).alloc (.cells #[.int .i64 6, strV [], .pointer none, .pointer none, .pointer none] 69)).drew.cell? ⟨wr.heap.size, 1, none⟩ = some (.int .i64 (h : Int)) ∧ ((wr.alloc (.cells #[.int .i64 6, .int .i64 (h : Int), .int .i64 (j : Int), .int .i64 0, strV []] 29)).alloc (.cells #[.int .i64 6, strV [], .pointer none, .pointer none, .pointer none] 69)).drew.cell? ⟨wr.heap.size, 2, none⟩ = some (.int .i64 (j : Int)) ∧ ((wr.alloc (.cells #[.int .i64 6, .int .i64 (h : Int), .int .i64 (j : Int), .int .i64 0, strV []] 29)).alloc (.cells #[.int .i64 6, strV [], .pointer none, .pointer none, .pointer none] 69)).drew.cell? (adL.add h) = some (ptr ga) ∧ ((wr.alloc (.cells #[.int .i64 6, .int .i64 (h : Int), .int .i64 (j : Int), .int .i64 0, strV []] 29)).alloc (.cells #[.int .i64 6, strV [], .pointer none, .pointer none, .pointer none] 69)).drew.cell? (adL.add j) = some (ptr gb) from ⟨DP.out.cell 1, DP.out.cell 2, q1, q2⟩)
          have DZ := Lib.hid (show ((wr.alloc (.cells #[.int .i64 6, .int .i64 (h : Int), .int .i64 (j : Int), .int .i64 0, strV []] 29)).alloc (.cells #[.int .i64 6, strV [], .pointer none, .pointer none, .pointer none] 69)).drew.heap.size = wr.heap.size + 1 + 1 by show ((wr.alloc (.cells #[.int .i64 6, .int .i64 (h : Int), .int .i64 (j : Int), .int .i64 0, strV []] 29)).alloc (.cells #[.int .i64 6, strV [], .pointer none, .pointer none, .pointer none] 69)).heap.size = _; rw [World.size_alloc, World.size_alloc])
          clear q1 q2
          refine wp_region_last (S := fun X => X.cell? ⟨wr.heap.size, 1, none⟩ = some (.int .i64 (h : Int)) ∧ X.cell? ⟨wr.heap.size, 2, none⟩ = some (.int .i64 (j : Int)) ∧ X.cell? (adL.add h) = some (ptr ga) ∧ X.cell? (adL.add j) = some (ptr gb)) 17 (by kernel_rfl) (by kernel_rfl) (by kernel_rfl) (by kernel_rfl) DC.out (fun hHeld => ?_)
          generalize hd : ((wr.alloc (.cells #[.int .i64 6, .int .i64 (h : Int), .int .i64 (j : Int), .int .i64 0, strV []] 29)).alloc (.cells #[.int .i64 6, strV [], .pointer none, .pointer none, .pointer none] 69)).drew = d at DX DP DO DC DZ hHeld ⊢
          have b2 := DX.out.cell 2
          have b2f := DX.out.frozen 2
          refine wpAnyH_take (i := 0) (oi := ⟨some 54, _, _, _, _, _⟩) (v := ?_) rfl (by kernel_rfl) (by kernel_rfl) (by kernel_rfl) (fun _ _ _ h => h) (Or.inl ⟨by kernel_rfl, ?_⟩) (by assumption) ?_
          rotate_left
          · intro w hSw
            go_simp
            try with_reducible rfl
          try simp only [Act.put, List.setIfInBounds_toArray, List.set_cons_zero, List.set_cons_succ]
          refine wpAnyH_take (i := 1) (oi := ⟨some 55, _, _, _, _, _⟩) (v := ?_) rfl (by kernel_rfl) (by kernel_rfl) (by kernel_rfl) (fun _ _ _ h => h) (Or.inl ⟨by kernel_rfl, ?_⟩) (by assumption) ?_
          rotate_left
          · intro w hSw
            go_simp
            try with_reducible rfl
          try simp only [Act.put, List.setIfInBounds_toArray, List.set_cons_zero, List.set_cons_succ]
          refine wpAnyH_take (i := 2) (oi := ⟨some 56, _, _, _, _, _⟩) (v := ?_) rfl (by kernel_rfl) (by kernel_rfl) (by kernel_rfl) (fun _ _ _ h => h) (Or.inl ⟨by kernel_rfl, ?_⟩) (by assumption) ?_
          rotate_left
          · intro w hSw
            go_simp
            try with_reducible rfl
          try simp only [Act.put, List.setIfInBounds_toArray, List.set_cons_zero, List.set_cons_succ]
          refine wpAnyH_take (i := 3) (oi := ⟨some 57, _, _, _, _, _⟩) (v := ?_) rfl (by kernel_rfl) (by kernel_rfl) (by kernel_rfl) (fun _ _ _ h => h) (Or.inl ⟨by kernel_rfl, ?_⟩) (by assumption) ?_
          rotate_left
          · intro w hSw
            go_simp
            try with_reducible rfl
          try simp only [Act.put, List.setIfInBounds_toArray, List.set_cons_zero, List.set_cons_succ]
          refine wpAnyH_take (i := 4) (oi := ⟨some 58, _, _, _, _, _⟩) (v := ?_) rfl (by kernel_rfl) (by kernel_rfl) (by kernel_rfl) (fun _ _ _ h => h) (Or.inl ⟨by kernel_rfl, ?_⟩) (by assumption) ?_
          rotate_left
          · intro w hSw
            go_simp
            try with_reducible rfl
          try simp only [Act.put, List.setIfInBounds_toArray, List.set_cons_zero, List.set_cons_succ]
          refine wpAnyH_take (i := 5) (oi := ⟨some 59, _, _, _, _, _⟩) (v := ?_) rfl (by kernel_rfl) (by kernel_rfl) (by kernel_rfl) (fun _ _ _ h => h) (Or.inl ⟨by kernel_rfl, ?_⟩) (by assumption) ?_
          rotate_left
          · intro w hSw
            go_simp
            try with_reducible rfl
          try simp only [Act.put, List.setIfInBounds_toArray, List.set_cons_zero, List.set_cons_succ]
          refine wpAnyH_take (i := 6) (oi := ⟨some 60, _, _, _, _, _⟩) (v := ?_) rfl (by kernel_rfl) (by kernel_rfl) (by kernel_rfl) (fun _ _ _ h => h) (Or.inl ⟨by kernel_rfl, ?_⟩) (by assumption) ?_
          rotate_left
          · intro w hSw
            go_simp
            try with_reducible rfl
          try simp only [Act.put, List.setIfInBounds_toArray, List.set_cons_zero, List.set_cons_succ]
          refine wpAnyH_take (i := 7) (oi := ⟨some 61, _, _, _, _, _⟩) (v := ?_) rfl (by kernel_rfl) (by kernel_rfl) (by kernel_rfl) (fun _ _ _ h => h) (Or.inl ⟨by kernel_rfl, ?_⟩) (by assumption) ?_
          rotate_left
          · intro w hSw
            go_simp
            try with_reducible rfl
          try simp only [Act.put, List.setIfInBounds_toArray, List.set_cons_zero, List.set_cons_succ]
          refine wpAnyH_take (i := 8) (oi := ⟨some 62, _, _, _, _, _⟩) (v := ?_) rfl (by kernel_rfl) (by kernel_rfl) (by kernel_rfl) (fun _ _ _ h => h) (Or.inl ⟨by kernel_rfl, ?_⟩) (by assumption) ?_
          rotate_left
          · intro w hSw
            go_simp
            try with_reducible rfl
          try simp only [Act.put, List.setIfInBounds_toArray, List.set_cons_zero, List.set_cons_succ]
          refine wpAnyH_take (i := 9) (oi := ⟨some 63, _, _, _, _, _⟩) (v := ?_) rfl (by kernel_rfl) (by kernel_rfl) (by kernel_rfl) (fun _ _ _ h => h) (Or.inl ⟨by kernel_rfl, ?_⟩) (by assumption) ?_
          rotate_left
          · intro w hSw
            go_simp
            try with_reducible rfl
          try simp only [Act.put, List.setIfInBounds_toArray, List.set_cons_zero, List.set_cons_succ]
          refine wpAnyH_take (i := 10) (oi := ⟨some 64, _, _, _, _, _⟩) (v := ?_) rfl (by kernel_rfl) (by kernel_rfl) (by kernel_rfl) (fun _ _ _ h => h) (Or.inl ⟨by kernel_rfl, ?_⟩) (by assumption) ?_
          rotate_left
          · intro w hSw
            go_simp
            try with_reducible rfl
          try simp only [Act.put, List.setIfInBounds_toArray, List.set_cons_zero, List.set_cons_succ]
          refine wpAnyH_take (i := 11) (oi := ⟨some 65, _, _, _, _, _⟩) (v := ?_) rfl (by kernel_rfl) (by kernel_rfl) (by kernel_rfl) (fun _ _ _ h => h) (Or.inl ⟨by kernel_rfl, ?_⟩) (by assumption) ?_
          rotate_left
          · intro w hSw
            go_simp
            try with_reducible rfl
          try simp only [Act.put, List.setIfInBounds_toArray, List.set_cons_zero, List.set_cons_succ]
          refine wpAnyH_take (i := 12) (oi := ⟨some 66, _, _, _, _, _⟩) (v := ?_) rfl (by kernel_rfl) (by kernel_rfl) (by kernel_rfl) (fun _ _ _ h => h) (Or.inl ⟨by kernel_rfl, ?_⟩) (by assumption) ?_
          rotate_left
          · intro w hSw
            go_simp
            try with_reducible rfl
          try simp only [Act.put, List.setIfInBounds_toArray, List.set_cons_zero, List.set_cons_succ]
          refine wpAnyH_take (i := 13) (oi := ⟨some 67, _, _, _, _, _⟩) (v := ?_) rfl (by kernel_rfl) (by kernel_rfl) (by kernel_rfl) (fun _ _ _ h => h) (Or.inl ⟨by kernel_rfl, ?_⟩) (by assumption) ?_
          rotate_left
          · intro w hSw
            go_simp
            try with_reducible rfl
          try simp only [Act.put, List.setIfInBounds_toArray, List.set_cons_zero, List.set_cons_succ]
          refine wpAnyH_ready (rs := [14]) (by kernel_rfl) (by simp) ?_
          refine AllReadyH.cons (o := ⟨none, _, _, _, _, _⟩) rfl (fun K hK => ?_) AllReadyH.nil
          go_simp
          have hne : wr.heap.size + 1 ≠ adL.block := by have := HAL.out; omega
          have DS : (d.setCell ⟨wr.heap.size + 1, 2, none⟩ (ptr ga)).cell? ⟨wr.heap.size, 1, none⟩ = some (.int .i64 (h : Int)) ∧ (d.setCell ⟨wr.heap.size + 1, 2, none⟩ (ptr ga)).cell? ⟨wr.heap.size, 2, none⟩ = some (.int .i64 (j : Int)) ∧ (d.setCell ⟨wr.heap.size + 1, 2, none⟩ (ptr ga)).cell? (adL.add h) = some (ptr ga) ∧ (d.setCell ⟨wr.heap.size + 1, 2, none⟩ (ptr ga)).cell? (adL.add j) = some (ptr gb) := by
            refine ⟨?_, ?_, ?_, ?_⟩
            · rw [World.cell?_setCell_other _ _ _ _ (fun e => by injection e with e _ _; omega)]; exact DC.out.1
            · rw [World.cell?_setCell_other _ _ _ _ (fun e => by injection e with e _ _; omega)]; exact DC.out.2.1
            · rw [World.cell?_setCell_other _ _ _ _ (fun e => hne (by rw [← block_of_add adL h, ← e]))]; exact DC.out.2.2.1
            · rw [World.cell?_setCell_other _ _ _ _ (fun e => hne (by rw [← block_of_add adL j, ← e]))]; exact DC.out.2.2.2
          have B2 := Lib.hid (DX.out.set_ 2 (ptr ga))
          have b3 := B2.out.cell 3
          have b3f := B2.out.frozen 3
          refine hK.out _ _ ?_ (fun hHeld => ?_)
          · exact (by exact DS)
          clear hK K
          try simp only [Act.put, List.setIfInBounds_toArray, List.set_cons_zero, List.set_cons_succ]
          refine wpAnyH_take (i := 15) (oi := ⟨some 68, _, _, _, _, _⟩) (v := ?_) rfl (by kernel_rfl) (by kernel_rfl) (by kernel_rfl) (fun _ _ _ h => h) (Or.inl ⟨by kernel_rfl, ?_⟩) (by assumption) ?_
          rotate_left
          · intro w hSw
            go_simp
            try with_reducible rfl
          try simp only [Act.put, List.setIfInBounds_toArray, List.set_cons_zero, List.set_cons_succ]
          refine wpAnyH_take (i := 16) (oi := ⟨some 69, _, _, _, _, _⟩) (v := ?_) rfl (by kernel_rfl) (by kernel_rfl) (by kernel_rfl) (fun _ _ _ h => h) (Or.inl ⟨by kernel_rfl, ?_⟩) (by assumption) ?_
          rotate_left
          · intro w hSw
            go_simp
            try with_reducible rfl
          try simp only [Act.put, List.setIfInBounds_toArray, List.set_cons_zero, List.set_cons_succ]
          refine wpAnyH_done (by kernel_rfl) ?_ _
          refine lastPost_run (o := ⟨none, _, _, _, _, _⟩) rfl (fun K hK => ?_)
          go_simp
          refine hK.out _ _ ?_
          clear hK K
          have HO1 : Hid (OfW W ((d.setCell ⟨wr.heap.size + 1, 2, none⟩ (ptr ga)).setCell ⟨wr.heap.size + 1, 3, none⟩ (ptr gb)) l (j + 1) W.heap.size (.slice (some adL) (j + 1) cL) (putN N (wr.heap.size + 1) ⟨6, [], some ga, some gb, none⟩) s LS V) := Lib.hid (((DO.out.setx DX.out HXN.out (by have := HO.out.below.size; omega) 2 (ptr ga)).setx B2.out HXN.out (by have := HO.out.below.size; omega) 3 (ptr gb)).node (B2.out.set_ 3 (ptr gb)) HXN.out (by have := HO.out.below.size; omega))
          clear b2 b2f b3 b3f DS hne DX DP DO DC DZ B2 hHeld
          generalize (d.setCell ⟨wr.heap.size + 1, 2, none⟩ (ptr ga)).setCell ⟨wr.heap.size + 1, 3, none⟩ (ptr gb) = w5 at HO1 ⊢
          have HNB := Lib.hid (reads_newN w5 (wr.heap.size + 1) w5.heap.size rfl)
          have HBS := Lib.hid (show W.heap.size ≤ (w5.alloc (.cells #[ptr (wr.heap.size + 1)] 51)).heap.size from Nat.le_trans HO1.out.below.size (by rw [World.size_alloc _ (.cells #[ptr (wr.heap.size + 1)] 51)]; exact Nat.le_succ _))
          go_wp2_with ((at_builtin; refine wpList_append_any _ rfl (.tmp 70) (.tmp 72) 67 rfl W.heap.size 51 i51 _ 1 8 Tryd.underlying67 fi51 hz0 hz1 hz2 rfl (by omega) (.slice (some adL) (j + 1) cL) (j + 1) (LS.map ptr) rfl (own_next HO1.out.own (below_new _ _)) _ (some ⟨_, 0, none⟩) 1 1 [ptr (wr.heap.size + 1)] rfl HNB.out (by simp [Value.oneCell']) (by unfold maxLen; omega) (by omega) HBS.out ?_; intro v1 w7 oA gA _))
          have HA := Lib.hid oA
          have HG := Lib.hid gA
          clear oA gA
          go_roundw
          case rel =>
            refine ⟨j + 1 + 1, _, _, _, _, by omega, by go_num, HO1.out.push ?_ HA.out HG.out⟩
            intro U' wU' hU'
            have e := at_fun l U' _ (j + 1) wU' HU.out hU' HAt.out
            rw [e]
            exact ⟨⟨HDg.out.1, HDh.out.1⟩, .two (nd := ⟨6, [], some ga, some gb, none⟩) (by unfold putN; rw [if_pos rfl]) rfl rfl rfl rfl (show (6 : Int) ≠ 11 by decide) (HDg.out.2.put HXN.out) (HDh.out.2.put HXN.out)⟩
          case measure => simp [intOf]; omega
        · go_wp2_with (first | (refine wpList_load_at rfl 29 (.tmp 15) rfl (ad.add ((j + 1) * 5)) rfl [.int .i64 8, .int .i64 (h : Int), .int .i64 (j : Int), .int .i64 0, strV []] _ HCS.out Tryd.underlying29 rfl (by kernel_rfl) ?_))
          have DX : Hid (Blk ((wr.alloc (.cells #[.int .i64 8, .int .i64 (h : Int), .int .i64 (j : Int), .int .i64 0, strV []] 29)).alloc (.cells #[.int .i64 8, strV [], .pointer none, .pointer none, .pointer none] 69)).drew (wr.heap.size + 1) 69 (Nd.mk 8 [] none none none).cells) := Lib.hid (by have h := Blk.new (wr.alloc (.cells #[.int .i64 8, .int .i64 (h : Int), .int .i64 (j : Int), .int .i64 0, strV []] 29)) 69 (Nd.mk 8 [] none none none).cells; rw [World.size_alloc] at h; exact h.drew)
          have DP : Hid (Blk ((wr.alloc (.cells #[.int .i64 8, .int .i64 (h : Int), .int .i64 (j : Int), .int .i64 0, strV []] 29)).alloc (.cells #[.int .i64 8, strV [], .pointer none, .pointer none, .pointer none] 69)).drew wr.heap.size 29 #[.int .i64 8, .int .i64 (h : Int), .int .i64 (j : Int), .int .i64 0, strV []]) := Lib.hid (((Blk.new wr 29 #[.int .i64 8, .int .i64 (h : Int), .int .i64 (j : Int), .int .i64 0, strV []]).alloc _).drew)
          have DO : Hid (OfW W ((wr.alloc (.cells #[.int .i64 8, .int .i64 (h : Int), .int .i64 (j : Int), .int .i64 0, strV []] 29)).alloc (.cells #[.int .i64 8, strV [], .pointer none, .pointer none, .pointer none] 69)).drew l (j + 1) W.heap.size (.slice (some adL) (j + 1) cL) N s LS V) := Lib.hid (((HO.out.alloc _).alloc _).next (Below.drew (Below.refl _ _)))
          have q1 : ((wr.alloc (.cells #[.int .i64 8, .int .i64 (h : Int), .int .i64 (j : Int), .int .i64 0, strV []] 29)).alloc (.cells #[.int .i64 8, strV [], .pointer none, .pointer none, .pointer none] 69)).drew.cell? (adL.add h) = some (ptr ga) := (World.cell?_alloc_lt _ _ _ (by rw [World.size_alloc, block_of_add]; have := HAL.out; omega)).trans ((World.cell?_alloc_lt _ _ _ (by rw [block_of_add]; exact HAL.out)).trans HQ.out)
          have q2 : ((wr.alloc (.cells #[.int .i64 8, .int .i64 (h : Int), .int .i64 (j : Int), .int .i64 0, strV []] 29)).alloc (.cells #[.int .i64 8, strV [], .pointer none, .pointer none, .pointer none] 69)).drew.cell? (adL.add j) = some (ptr gb) := (World.cell?_alloc_lt _ _ _ (by rw [World.size_alloc, block_of_add]; have := HAL.out; omega)).trans ((World.cell?_alloc_lt _ _ _ (by rw [block_of_add]; exact HAL.out)).trans HQ2.out)
          have DC := Lib.hid (show ((wr.alloc (.cells #[.int .i64 8, .int .i64 (h : Int), .int .i64 (j : Int), .int .i64 0, strV []] 29)).alloc (.cells #[.int .i64 8, strV [], .pointer none, .pointer none, .pointer none] 69)).drew.cell? ⟨wr.heap.size, 1, none⟩ = some (.int .i64 (h : Int)) ∧ ((wr.alloc (.cells #[.int .i64 8, .int .i64 (h : Int), .int .i64 (j : Int), .int .i64 0, strV []] 29)).alloc (.cells #[.int .i64 8, strV [], .pointer none, .pointer none, .pointer none] 69)).drew.cell? ⟨wr.heap.size, 2, none⟩ = some (.int .i64 (j : Int)) ∧ ((wr.alloc (.cells #[.int .i64 8, .int .i64 (h : Int), .int .i64 (j : Int), .int .i64 0, strV []] 29)).alloc (.cells #[.int .i64 8, strV [], .pointer none, .pointer none, .pointer none] 69)).drew.cell? (adL.add h) = some (ptr ga) ∧ ((wr.alloc (.cells #[.int .i64 8, .int .i64 (h : Int), .int .i64 (j : Int), .int .i64 0, strV []] 29)).alloc (.cells #[.int .i64 8, strV [], .pointer none, .pointer none, .pointer none] 69)).drew.cell? (adL.add j) = some (ptr gb) from ⟨DP.out.cell 1, DP.out.cell 2, q1, q2⟩)
          have DZ := Lib.hid (show ((wr.alloc (.cells #[.int .i64 8, .int .i64 (h : Int), .int .i64 (j : Int), .int .i64 0, strV []] 29)).alloc (.cells #[.int .i64 8, strV [], .pointer none, .pointer none, .pointer none] 69)).drew.heap.size = wr.heap.size + 1 + 1 by show ((wr.alloc (.cells #[.int .i64 8, .int .i64 (h : Int), .int .i64 (j : Int), .int .i64 0, strV []] 29)).alloc (.cells #[.int .i64 8, strV [], .pointer none, .pointer none, .pointer none] 69)).heap.size = _; rw [World.size_alloc, World.size_alloc])
          clear q1 q2
          refine wp_region_last (S := fun X => X.cell? ⟨wr.heap.size, 1, none⟩ = some (.int .i64 (h : Int)) ∧ X.cell? ⟨wr.heap.size, 2, none⟩ = some (.int .i64 (j : Int)) ∧ X.cell? (adL.add h) = some (ptr ga) ∧ X.cell? (adL.add j) = some (ptr gb)) 17 (by kernel_rfl) (by kernel_rfl) (by kernel_rfl) (by kernel_rfl) DC.out (fun hHeld => ?_)
          generalize hd : ((wr.alloc (.cells #[.int .i64 8, .int .i64 (h : Int), .int .i64 (j : Int), .int .i64 0, strV []] 29)).alloc (.cells #[.int .i64 8, strV [], .pointer none, .pointer none, .pointer none] 69)).drew = d at DX DP DO DC DZ hHeld ⊢
          have b2 := DX.out.cell 2
          have b2f := DX.out.frozen 2
          refine wpAnyH_take (i := 0) (oi := ⟨some 54, _, _, _, _, _⟩) (v := ?_) rfl (by kernel_rfl) (by kernel_rfl) (by kernel_rfl) (fun _ _ _ h => h) (Or.inl ⟨by kernel_rfl, ?_⟩) (by assumption) ?_
          rotate_left
          · intro w hSw
            go_simp
            try with_reducible rfl
          try simp only [Act.put, List.setIfInBounds_toArray, List.set_cons_zero, List.set_cons_succ]
          refine wpAnyH_take (i := 1) (oi := ⟨some 55, _, _, _, _, _⟩) (v := ?_) rfl (by kernel_rfl) (by kernel_rfl) (by kernel_rfl) (fun _ _ _ h => h) (Or.inl ⟨by kernel_rfl, ?_⟩) (by assumption) ?_
          rotate_left
          · intro w hSw
            go_simp
            try with_reducible rfl
          try simp only [Act.put, List.setIfInBounds_toArray, List.set_cons_zero, List.set_cons_succ]
          refine wpAnyH_take (i := 2) (oi := ⟨some 56, _, _, _, _, _⟩) (v := ?_) rfl (by kernel_rfl) (by kernel_rfl) (by kernel_rfl) (fun _ _ _ h => h) (Or.inl ⟨by kernel_rfl, ?_⟩) (by assumption) ?_
          rotate_left
          · intro w hSw
            go_simp
            try with_reducible rfl
          try simp only [Act.put, List.setIfInBounds_toArray, List.set_cons_zero, List.set_cons_succ]
          refine wpAnyH_take (i := 3) (oi := ⟨some 57, _, _, _, _, _⟩) (v := ?_) rfl (by kernel_rfl) (by kernel_rfl) (by kernel_rfl) (fun _ _ _ h => h) (Or.inl ⟨by kernel_rfl, ?_⟩) (by assumption) ?_
          rotate_left
          · intro w hSw
            go_simp
            try with_reducible rfl
          try simp only [Act.put, List.setIfInBounds_toArray, List.set_cons_zero, List.set_cons_succ]
          refine wpAnyH_take (i := 4) (oi := ⟨some 58, _, _, _, _, _⟩) (v := ?_) rfl (by kernel_rfl) (by kernel_rfl) (by kernel_rfl) (fun _ _ _ h => h) (Or.inl ⟨by kernel_rfl, ?_⟩) (by assumption) ?_
          rotate_left
          · intro w hSw
            go_simp
            try with_reducible rfl
          try simp only [Act.put, List.setIfInBounds_toArray, List.set_cons_zero, List.set_cons_succ]
          refine wpAnyH_take (i := 5) (oi := ⟨some 59, _, _, _, _, _⟩) (v := ?_) rfl (by kernel_rfl) (by kernel_rfl) (by kernel_rfl) (fun _ _ _ h => h) (Or.inl ⟨by kernel_rfl, ?_⟩) (by assumption) ?_
          rotate_left
          · intro w hSw
            go_simp
            try with_reducible rfl
          try simp only [Act.put, List.setIfInBounds_toArray, List.set_cons_zero, List.set_cons_succ]
          refine wpAnyH_take (i := 6) (oi := ⟨some 60, _, _, _, _, _⟩) (v := ?_) rfl (by kernel_rfl) (by kernel_rfl) (by kernel_rfl) (fun _ _ _ h => h) (Or.inl ⟨by kernel_rfl, ?_⟩) (by assumption) ?_
          rotate_left
          · intro w hSw
            go_simp
            try with_reducible rfl
          try simp only [Act.put, List.setIfInBounds_toArray, List.set_cons_zero, List.set_cons_succ]
          refine wpAnyH_take (i := 7) (oi := ⟨some 61, _, _, _, _, _⟩) (v := ?_) rfl (by kernel_rfl) (by kernel_rfl) (by kernel_rfl) (fun _ _ _ h => h) (Or.inl ⟨by kernel_rfl, ?_⟩) (by assumption) ?_
          rotate_left
          · intro w hSw
            go_simp
            try with_reducible rfl
          try simp only [Act.put, List.setIfInBounds_toArray, List.set_cons_zero, List.set_cons_succ]
          refine wpAnyH_take (i := 8) (oi := ⟨some 62, _, _, _, _, _⟩) (v := ?_) rfl (by kernel_rfl) (by kernel_rfl) (by kernel_rfl) (fun _ _ _ h => h) (Or.inl ⟨by kernel_rfl, ?_⟩) (by assumption) ?_
          rotate_left
          · intro w hSw
            go_simp
            try with_reducible rfl
          try simp only [Act.put, List.setIfInBounds_toArray, List.set_cons_zero, List.set_cons_succ]
          refine wpAnyH_take (i := 9) (oi := ⟨some 63, _, _, _, _, _⟩) (v := ?_) rfl (by kernel_rfl) (by kernel_rfl) (by kernel_rfl) (fun _ _ _ h => h) (Or.inl ⟨by kernel_rfl, ?_⟩) (by assumption) ?_
          rotate_left
          · intro w hSw
            go_simp
            try with_reducible rfl
          try simp only [Act.put, List.setIfInBounds_toArray, List.set_cons_zero, List.set_cons_succ]
          refine wpAnyH_take (i := 10) (oi := ⟨some 64, _, _, _, _, _⟩) (v := ?_) rfl (by kernel_rfl) (by kernel_rfl) (by kernel_rfl) (fun _ _ _ h => h) (Or.inl ⟨by kernel_rfl, ?_⟩) (by assumption) ?_
          rotate_left
          · intro w hSw
            go_simp
            try with_reducible rfl
          try simp only [Act.put, List.setIfInBounds_toArray, List.set_cons_zero, List.set_cons_succ]
          refine wpAnyH_take (i := 11) (oi := ⟨some 65, _, _, _, _, _⟩) (v := ?_) rfl (by kernel_rfl) (by kernel_rfl) (by kernel_rfl) (fun _ _ _ h => h) (Or.inl ⟨by kernel_rfl, ?_⟩) (by assumption) ?_
          rotate_left
          · intro w hSw
            go_simp
            try with_reducible rfl
          try simp only [Act.put, List.setIfInBounds_toArray, List.set_cons_zero, List.set_cons_succ]
          refine wpAnyH_take (i := 12) (oi := ⟨some 66, _, _, _, _, _⟩) (v := ?_) rfl (by kernel_rfl) (by kernel_rfl) (by kernel_rfl) (fun _ _ _ h => h) (Or.inl ⟨by kernel_rfl, ?_⟩) (by assumption) ?_
          rotate_left
          · intro w hSw
            go_simp
            try with_reducible rfl
          try simp only [Act.put, List.setIfInBounds_toArray, List.set_cons_zero, List.set_cons_succ]
          refine wpAnyH_take (i := 13) (oi := ⟨some 67, _, _, _, _, _⟩) (v := ?_) rfl (by kernel_rfl) (by kernel_rfl) (by kernel_rfl) (fun _ _ _ h => h) (Or.inl ⟨by kernel_rfl, ?_⟩) (by assumption) ?_
          rotate_left
          · intro w hSw
            go_simp
            try with_reducible rfl
          try simp only [Act.put, List.setIfInBounds_toArray, List.set_cons_zero, List.set_cons_succ]
          refine wpAnyH_ready (rs := [14]) (by kernel_rfl) (by simp) ?_
          refine AllReadyH.cons (o := ⟨none, _, _, _, _, _⟩) rfl (fun K hK => ?_) AllReadyH.nil
          go_simp
          have hne : wr.heap.size + 1 ≠ adL.block := by have := HAL.out; omega
          have DS : (d.setCell ⟨wr.heap.size + 1, 2, none⟩ (ptr ga)).cell? ⟨wr.heap.size, 1, none⟩ = some (.int .i64 (h : Int)) ∧ (d.setCell ⟨wr.heap.size + 1, 2, none⟩ (ptr ga)).cell? ⟨wr.heap.size, 2, none⟩ = some (.int .i64 (j : Int)) ∧ (d.setCell ⟨wr.heap.size + 1, 2, none⟩ (ptr ga)).cell? (adL.add h) = some (ptr ga) ∧ (d.setCell ⟨wr.heap.size + 1, 2, none⟩ (ptr ga)).cell? (adL.add j) = some (ptr gb) := by
            refine ⟨?_, ?_, ?_, ?_⟩
            · rw [World.cell?_setCell_other _ _ _ _ (fun e => by injection e with e _ _; omega)]; exact DC.out.1
            · rw [World.cell?_setCell_other _ _ _ _ (fun e => by injection e with e _ _; omega)]; exact DC.out.2.1
            · rw [World.cell?_setCell_other _ _ _ _ (fun e => hne (by rw [← block_of_add adL h, ← e]))]; exact DC.out.2.2.1
            · rw [World.cell?_setCell_other _ _ _ _ (fun e => hne (by rw [← block_of_add adL j, ← e]))]; exact DC.out.2.2.2
          have B2 := Lib.hid (DX.out.set_ 2 (ptr ga))
          have b3 := B2.out.cell 3
          have b3f := B2.out.frozen 3
          refine hK.out _ _ ?_ (fun hHeld => ?_)
          · exact (by exact DS)
          clear hK K
          try simp only [Act.put, List.setIfInBounds_toArray, List.set_cons_zero, List.set_cons_succ]
          refine wpAnyH_take (i := 15) (oi := ⟨some 68, _, _, _, _, _⟩) (v := ?_) rfl (by kernel_rfl) (by kernel_rfl) (by kernel_rfl) (fun _ _ _ h => h) (Or.inl ⟨by kernel_rfl, ?_⟩) (by assumption) ?_
          rotate_left
          · intro w hSw
            go_simp
            try with_reducible rfl
          try simp only [Act.put, List.setIfInBounds_toArray, List.set_cons_zero, List.set_cons_succ]
          refine wpAnyH_take (i := 16) (oi := ⟨some 69, _, _, _, _, _⟩) (v := ?_) rfl (by kernel_rfl) (by kernel_rfl) (by kernel_rfl) (fun _ _ _ h => h) (Or.inl ⟨by kernel_rfl, ?_⟩) (by assumption) ?_
          rotate_left
          · intro w hSw
            go_simp
            try with_reducible rfl
          try simp only [Act.put, List.setIfInBounds_toArray, List.set_cons_zero, List.set_cons_succ]
          refine wpAnyH_done (by kernel_rfl) ?_ _
          refine lastPost_run (o := ⟨none, _, _, _, _, _⟩) rfl (fun K hK => ?_)
          go_simp
          refine hK.out _ _ ?_
          clear hK K
          have HO1 : Hid (OfW W ((d.setCell ⟨wr.heap.size + 1, 2, none⟩ (ptr ga)).setCell ⟨wr.heap.size + 1, 3, none⟩ (ptr gb)) l (j + 1) W.heap.size (.slice (some adL) (j + 1) cL) (putN N (wr.heap.size + 1) ⟨8, [], some ga, some gb, none⟩) s LS V) := Lib.hid (((DO.out.setx DX.out HXN.out (by have := HO.out.below.size; omega) 2 (ptr ga)).setx B2.out HXN.out (by have := HO.out.below.size; omega) 3 (ptr gb)).node (B2.out.set_ 3 (ptr gb)) HXN.out (by have := HO.out.below.size; omega))
          clear b2 b2f b3 b3f DS hne DX DP DO DC DZ B2 hHeld
          generalize (d.setCell ⟨wr.heap.size + 1, 2, none⟩ (ptr ga)).setCell ⟨wr.heap.size + 1, 3, none⟩ (ptr gb) = w5 at HO1 ⊢
          have HNB := Lib.hid (reads_newN w5 (wr.heap.size + 1) w5.heap.size rfl)
          have HBS := Lib.hid (show W.heap.size ≤ (w5.alloc (.cells #[ptr (wr.heap.size + 1)] 51)).heap.size from Nat.le_trans HO1.out.below.size (by rw [World.size_alloc _ (.cells #[ptr (wr.heap.size + 1)] 51)]; exact Nat.le_succ _))
          go_wp2_with ((at_builtin; refine wpList_append_any _ rfl (.tmp 70) (.tmp 72) 67 rfl W.heap.size 51 i51 _ 1 8 Tryd.underlying67 fi51 hz0 hz1 hz2 rfl (by omega) (.slice (some adL) (j + 1) cL) (j + 1) (LS.map ptr) rfl (own_next HO1.out.own (below_new _ _)) _ (some ⟨_, 0, none⟩) 1 1 [ptr (wr.heap.size + 1)] rfl HNB.out (by simp [Value.oneCell']) (by unfold maxLen; omega) (by omega) HBS.out ?_; intro v1 w7 oA gA _))
          have HA := Lib.hid oA
          have HG := Lib.hid gA
          clear oA gA
          go_roundw
          case rel =>
            refine ⟨j + 1 + 1, _, _, _, _, by omega, by go_num, HO1.out.push ?_ HA.out HG.out⟩
            intro U' wU' hU'
            have e := at_fun l U' _ (j + 1) wU' HU.out hU' HAt.out
            rw [e]
            exact ⟨⟨HDg.out.1, HDh.out.1⟩, .two (nd := ⟨8, [], some ga, some gb, none⟩) (by unfold putN; rw [if_pos rfl]) rfl rfl rfl rfl (show (8 : Int) ≠ 11 by decide) (HDg.out.2.put HXN.out) (HDh.out.2.put HXN.out)⟩
          case measure => simp [intOf]; omega
    · have hkl : k = l.length := by omega
      subst hkl
      have hlk : ¬ ((l.length : Int) < (l.length : Int)) := by omega
      obtain ⟨j, hj⟩ : ∃ j, l.length = j + 1 := ⟨l.length - 1, by omega⟩
      obtain ⟨g, hg⟩ : ∃ g, LS[j]? = some g := ⟨_, List.getElem?_eq_getElem (by rw [HO.out.g.len]; omega)⟩
      obtain ⟨adL, rfl, _, q0⟩ := (Reads.of_own HO.out.own).ptrAt hg
      have HG := Lib.hid hg
      have HJ := Lib.hid hj
      clear hlt hk hg hj
      have hj1 : (j : Int) < (l.length : Int) := by have := HJ.out; omega
      have hj0 : (0 : Int) ≤ (j : Int) := by omega
      have hl0 : 0 ≤ (l.length : Int) := by omega
      have hlj : (l.length : Int) - 1 = (j : Int) := by have := HJ.out; omega
      go_wp2_with fail
      go_ret
      refine ⟨g, N, s, V, rfl, HO.out.mem, HO.out.new, HO.out.below, HO.out.g.dom, HO.out.g.inj, fun n x hx e => ?_, fun U wU hU => HO.out.g.den j g U HG.out wU (by rw [HJ.out] at hU; exact hU)⟩
      have h := HO.out.g.var n x hx
      cases h with
      | to f1 => rw [e] at f1; cases f1
      | var f1 => rw [e] at f1; cases f1
end Go.Proofs.YtcilodgpbdafeaaDoor
