/- The document's Pool as plain data: nodes in a row. -/
import Derived.Test.YtcilodgpbdafeaaDoorTOf
import Derived.Test.YtcilodgpbdafeaaDoorTMt
import Derived.Test.YtcilodgpbdafeaaDoorTRefW
import Derived.Test.YtcilodgpbdafeaaDoorTKeep
namespace Go.Proofs.YtcilodgpbdafeaaDoor
open Go.ChangeShapes Go.WideShapes Go.ChangeAt Go.RowKit
set_option linter.unusedVariables false
set_option linter.unusedSimpArgs false
/-- A node of a Pool, as its five fields. -/
structure Tm where
  k : Int
  a : Int
  b : Int
  t : List UInt8
  s : Int
def tmC (x : Tm) : List Value := [.int .i64 x.k, .int .i64 x.a, .int .i64 x.b, strV x.t, .int .i64 x.s]
def Tm.nd (x : Tm) : Nd := ⟨x.k, x.t, if 1 ≤ kids x.k then some x.a.toNat else none, if kids x.k = 2 then some x.b.toNat else none, if x.k = 11 ∧ 0 ≤ x.s then some x.s.toNat else none⟩
def nodes (L : List Tm) : Nat → Option Nd := fun i => (L[i]?).map Tm.nd
theorem nodes_inv {L : List Tm} {i : Nat} {d : Nd} (h : nodes L i = some d) : ∃ x, L[i]? = some x ∧ x.nd = d := by
  unfold nodes at h
  cases hx : L[i]? with
  | none => rw [hx] at h; cases h
  | some x => rw [hx] at h; exact ⟨x, rfl, Option.some.inj h⟩
theorem nodes_lt {L : List Tm} {i : Nat} {d : Nd} (h : nodes L i = some d) : i < L.length := by
  obtain ⟨x, hx, _⟩ := nodes_inv h
  exact (List.getElem?_eq_some_iff.1 hx).1
def kidsN : Ty → Int
  | .leaf _ _ => 0
  | .var _ => 0
  | .one _ _ => 1
  | .two _ _ _ => 2
theorem kids_kind {T : Ty} (h : T.wf) : kids T.kind = kidsN T := by
  cases T with
  | leaf k t =>
    show kids k = 0
    simp only [Ty.wf] at h
    unfold kids
    rw [if_pos (by omega)]
  | var n => rfl
  | one k s =>
    show kids k = 1
    have := h.1
    unfold kids
    rw [if_neg (by omega), if_pos this]
  | two k s u =>
    show kids k = 2
    have := h.1
    unfold kids
    rw [if_neg (by omega), if_neg (by omega), if_pos this]
/-- What the parts of a node are. -/
def TmKids (L : List Tm) (y : Tm) : Ty → Prop
  | .leaf _ _ => True
  | .var _ => True
  | .one _ s => ∃ h : Nat, y.a = h ∧ Den (nodes L) h s
  | .two _ s u => ∃ h i : Nat, y.a = h ∧ y.b = i ∧ Den (nodes L) h s ∧ Den (nodes L) i u
theorem Den.tm {L : List Tm} {r : Nat} {T : Ty} (hd : Den (nodes L) r T) (hr : Root (nodes L) r) (ok : ∀ x ∈ L, 0 ≤ x.a ∧ 0 ≤ x.b) :
    ∃ y, L[r]? = some y ∧ y.k = T.kind ∧ y.t = T.text ∧ ¬ (y.k = 11 ∧ 0 ≤ y.s) ∧ TmKids L y T := by
  obtain ⟨nd0, e1, e2⟩ := hr
  obtain ⟨y, hy, rfl⟩ := nodes_inv e1
  have hto : ¬ (y.k = 11 ∧ 0 ≤ y.s) := fun h => by
    have e : y.nd.to = some y.s.toNat := if_pos h
    rw [e2] at e; cases e
  have hok := ok y (List.mem_of_getElem? hy)
  refine ⟨y, hy, ?_⟩
  cases hd with
  | «to» f1 f2 _ => rw [e1] at f1; cases f1; rw [e2] at f2; cases f2
  | var f1 f2 f3 f4 f5 f6 => rw [e1] at f1; cases f1; exact ⟨f5, f6, hto, trivial⟩
  | leaf f1 f2 f3 f4 f5 => rw [e1] at f1; cases f1; exact ⟨rfl, rfl, hto, trivial⟩
  | one f1 f2 f3 f4 f5 f6 k =>
    rw [e1] at f1; cases f1
    refine ⟨rfl, f5, hto, _, ?_, k⟩
    have e : (if 1 ≤ kids y.k then some y.a.toNat else none) = some _ := f3
    split at e
    · injection e with e; omega
    · cases e
  | two f1 f2 f3 f4 f5 f6 k k' =>
    rw [e1] at f1; cases f1
    refine ⟨rfl, f5, hto, _, _, ?_, ?_, k, k'⟩
    · have e : (if 1 ≤ kids y.k then some y.a.toNat else none) = some _ := f3
      split at e
      · injection e with e; omega
      · cases e
    · have e : (if kids y.k = 2 then some y.b.toNat else none) = some _ := f4
      split at e
      · injection e with e; omega
      · cases e
/-- A tree within a tree. -/
inductive SubT : Ty → Ty → Prop where
  | refl (T : Ty) : SubT T T
  | one {U s : Ty} (k : Int) : SubT U s → SubT U (.one k s)
  | left {U s : Ty} (k : Int) (u : Ty) : SubT U s → SubT U (.two k s u)
  | right {U u : Ty} (k : Int) (s : Ty) : SubT U u → SubT U (.two k s u)
theorem SubT.size {U T : Ty} (h : SubT U T) : U.size ≤ T.size := by
  induction h with
  | refl => exact Nat.le_refl _
  | one k _ ih => simp only [Ty.size]; omega
  | left k u _ ih => simp only [Ty.size]; omega
  | right k s _ ih => simp only [Ty.size]; omega
theorem SubT.sub_ {U T : Ty} (θ : Int → Ty) (h : SubT U T) : SubT (sub θ U) (sub θ T) := by
  induction h with
  | refl => exact .refl _
  | one k _ ih => exact .one k ih
  | left k u _ ih => exact .left k _ ih
  | right k s _ ih => exact .right k _ ih
theorem SubT.trans {U T V : Ty} (h : SubT U T) (h' : SubT T V) : SubT U V := by
  induction h' with
  | refl => exact h
  | one k _ ih => exact .one k ih
  | left k u _ ih => exact .left k u ih
  | right k s _ ih => exact .right k s ih
/-- Numbers below n, each once: n at most. -/
theorem pigeon : ∀ (n : Nat) (l : List Nat), l.Nodup → (∀ x ∈ l, x < n) → l.length ≤ n := by
  intro n
  induction n with
  | zero =>
    intro l _ h
    cases l with
    | nil => exact Nat.le_refl _
    | cons x l => have := h x (List.mem_cons_self ..); omega
  | succ n ih =>
    intro l hn h
    by_cases hm : n ∈ l
    · have h1 := ih (l.erase n) (hn.erase n) (fun x hx => by
        have h2 := h x (List.mem_of_mem_erase hx)
        have h3 : x ≠ n := fun e => by
          subst e
          exact (List.Nodup.not_mem_erase hn) hx
        omega)
      rw [List.length_erase_of_mem hm] at h1
      omega
    · have h1 := ih l hn (fun x hx => by
        have h2 := h x hx
        have h3 : x ≠ n := fun e => hm (e ▸ hx)
        omega)
      omega
theorem pairs_few {n : Nat} {D : List (Nat × Nat)} (hd : D.Nodup) (hb : ∀ p ∈ D, p.1 < n ∧ p.2 < n) : D.length ≤ n * n := by
  have h := pigeon (n * n) (D.map fun p => p.1 * n + p.2) ?_ ?_
  · rwa [List.length_map] at h
  · rw [List.Nodup, List.pairwise_map]
    have hd' : D.Pairwise (· ≠ ·) := hd
    refine List.Pairwise.imp_of_mem (fun {a b} ha hb' hne e => hne ?_) hd'
    have h1 := hb a ha
    have h2 := hb b hb'
    have e1 : a.1 = b.1 := by
      have x1 : (a.1 * n + a.2) / n = a.1 := by rw [Nat.mul_comm, Nat.mul_add_div (by omega), Nat.div_eq_of_lt h1.2, Nat.add_zero]
      have x2 : (b.1 * n + b.2) / n = b.1 := by rw [Nat.mul_comm, Nat.mul_add_div (by omega), Nat.div_eq_of_lt h2.2, Nat.add_zero]
      rw [← x1, ← x2, e]
    have e2 : a.2 = b.2 := by rw [e1] at e; omega
    exact Prod.ext e1 e2
  · intro x hx
    obtain ⟨p, hp, rfl⟩ := List.mem_map.1 hx
    have h1 := hb p hp
    have h2 : (p.1 + 1) * n ≤ n * n := Nat.mul_le_mul_right n (by omega)
    have h3 : (p.1 + 1) * n = p.1 * n + n := Nat.succ_mul ..
    omega
/-- A variable is bound. -/
theorem nodes_set {L : List Tm} {i : Nat} {x : Tm} (hx : L[i]? = some x) (hk : x.k = 11) (j : Nat) : nodes (L.set i { x with s := (j : Int) }) = upd (nodes L) i j := by
  funext y
  have hlt := (List.getElem?_eq_some_iff.1 hx).1
  unfold nodes upd
  rw [List.getElem?_set]
  by_cases hy : y = i
  · subst hy
    rw [if_pos rfl, if_pos hlt, if_pos rfl]
    show _ = Option.map _ (Option.map Tm.nd L[y]?)
    rw [hx]
    show some (Tm.nd _) = some _
    unfold Tm.nd
    rw [if_pos (show x.k = 11 ∧ 0 ≤ (j : Int) from ⟨hk, by omega⟩)]
    rfl
  · rw [if_neg (fun e => hy e.symm), if_neg hy]
theorem tmC_set : ∀ (L : List Tm) (i : Nat) (x : Tm) (s : Int), L[i]? = some x → (L.flatMap tmC).set (i * 5 + 4) (.int .i64 s) = (L.set i { x with s := s }).flatMap tmC := by
  intro L
  induction L with
  | nil => intro i x s h; simp at h
  | cons y L ih =>
    intro i x s h
    cases i with
    | zero =>
      obtain rfl := Option.some.inj h
      rfl
    | succ i =>
      have h' : L[i]? = some x := h
      rw [List.flatMap_cons, List.set_append_right _ _ (by simp [tmC]; omega), List.set_cons_succ, List.flatMap_cons, ← ih i x s h']
      congr 2
      simp [tmC]
      omega
/-- Trees with unlike heads: no way makes them one. -/
theorem no_head {S T : Ty} (hS : ∀ n, S ≠ .var n) (hT : ∀ n, T ≠ .var n) (h : S.kind ≠ T.kind ∨ S.text ≠ T.text) (τ : Int → Ty) : sub τ S ≠ sub τ T := fun e => by
  have h1 := sub_kind τ hS
  have h2 := sub_kind τ hT
  rw [e] at h1
  rcases h with h | h
  · exact h (h1.1.symm.trans h2.1)
  · exact h (h1.2.symm.trans h2.2)
end Go.Proofs.YtcilodgpbdafeaaDoor
namespace Go.Proofs.YtcilodgpbdafeaaDoor
open Go.ChangeShapes Go.WideShapes Go.ChangeAt Go.RowKit
set_option linter.unusedVariables false
set_option linter.unusedSimpArgs false
/-- A Pool lies in memory. -/
structure PoolM (W : World) (base pb : Nat) (A : Option Addr) (c : Nat) (L : List Tm) : Prop where
  blk : Blk W pb 58 #[.slice A L.length c]
  own : W.ownsRow base 90 5 (.slice A L.length c) L.length (L.flatMap tmC)
  pbb : base ≤ pb
  ok : ∀ x ∈ L, 0 ≤ x.a ∧ 0 ≤ x.b
  few : L.length ≤ 1000
theorem own_ne58 {w : World} {base n pb : Nat} {v : Value} {xs : List Value} {cs : Array Value} (h : w.ownsRow base 90 5 v n xs) (hb : Blk w pb 58 cs) : v.ownBlock ≠ some pb := own_blk_ne h hb (by decide)
section
variable {W W' : World} {base pb : Nat} {A : Option Addr} {c : Nat} {L : List Tm}
theorem PoolM.next (h : PoolM W base pb A c L) (hb : Below W.heap.size W W') : PoolM W' base pb A c L := ⟨h.blk.next hb, own_next h.own hb, h.pbb, h.ok, h.few⟩
theorem PoolM.drewN (h : PoolM W base pb A c L) (n : Nat) : PoolM (W.drewN n) base pb A c L := ⟨h.blk, h.own, h.pbb, h.ok, h.few⟩
theorem PoolM.grown {row : Option Nat} (h : PoolM W base pb A c L) (hg : W.grownBy W' row) (h1 : row ≠ some pb) (h2 : row ≠ (Value.slice A L.length c).ownBlock ∨ row = none) : PoolM W' base pb A c L := by
  refine ⟨h.blk.grown hg (fun e => h1 e.symm), h.own.kept hg ?_, h.pbb, h.ok, h.few⟩
  rcases h2 with h2 | h2
  · exact .inr fun e => h2 e.symm
  · subst h2
    cases hv : (Value.slice A L.length c).ownBlock with
    | none => exact .inl rfl
    | some k => exact .inr (by simp)
theorem PoolM.at_ (h : PoolM W base pb A c L) {k : Nat} {x : Tm} (hk : L[k]? = some x) :
    ∃ ad, A = some ad ∧ W.cell? (ad.add (k * 5)) = some (.int .i64 x.k) ∧ W.cell? ⟨(ad.add (k * 5)).block, (ad.add (k * 5)).off + 1, none⟩ = some (.int .i64 x.a) ∧ W.cell? ⟨(ad.add (k * 5)).block, (ad.add (k * 5)).off + 2, none⟩ = some (.int .i64 x.b) ∧ W.cell? ⟨(ad.add (k * 5)).block, (ad.add (k * 5)).off + 3, none⟩ = some (strV x.t) ∧ W.cell? ⟨(ad.add (k * 5)).block, (ad.add (k * 5)).off + 4, none⟩ = some (.int .i64 x.s) := by
  obtain ⟨ad, e, _, hc⟩ := Reads.rowAt (f := tmC) (m := 5) (fun _ => rfl) (Reads.of_own h.own) (by decide) hk
  exact ⟨ad, e, hc 0 _ rfl, hc 1 _ rfl, hc 2 _ rfl, hc 3 _ rfl, hc 4 _ rfl⟩
theorem PoolM.cell (h : PoolM W base pb A c L) : W.cell? ⟨pb, 0, none⟩ = some (.slice A L.length c) := h.blk.cell 0
theorem PoolM.lt (h : PoolM W base pb A c L) : pb < W.heap.size := h.blk.lt
end
open Classical in
noncomputable def dstQ (N : Nat → Option Nd) (r : Nat) : Value → Nat
  | .int _ a => if h : ∃ m, Rep N a.toNat r m then h.choose else 0
  | _ => 0
open Classical in
theorem dstQ_eq {N : Nat → Option Nd} {x r m : Nat} (h : Rep N x r m) : dstQ N r (.int .i64 (x : Int)) = m := by
  have he : ∃ m, Rep N x r m := ⟨m, h⟩
  show (if h : ∃ m, Rep N x r m then h.choose else 0) = m
  rw [dif_pos he]
  exact (he.choose_spec.fn h).2
set_option maxRecDepth 100000 in
set_option maxHeartbeats 2000000 in
theorem c54 {W : World} {base pb : Nat} {A : Option Addr} {c : Nat} {L : List Tm} {g r n : Nat} (h : Rep (nodes L) g r n) (hP : PoolM W base pb A c L) :
    Calls Tryd.prog 54 #[ptr pb, .int .i64 (g : Int)] W fun e W' => e = .returned (.int .i64 (r : Int)) ∧ W = W' := by
  have HP := Lib.hid hP
  have HR := Lib.hid h
  have p0 := hP.cell
  have hn := hP.few
  clear hP h
  go_enter Tryd.func54, Tryd.ntmps54
  go_wp2_with fail
  go_loopw [1] (fun v wr => ∃ x m : Nat, v = .int .i64 (x : Int) ∧ Rep (nodes L) x r m ∧ wr = W) (fun v _ => dstQ (nodes L) r v)
  case atStart => exact ⟨g, n, rfl, HR.out, rfl⟩
  case round =>
    obtain ⟨x, m, rfl, hr, rfl⟩ := hrel
    cases hr with
    | here e1 e2 =>
      obtain ⟨y, hy, rfl⟩ := nodes_inv e1
      have hlt := (List.getElem?_eq_some_iff.1 hy).1
      obtain ⟨ad, rfl, a0, a1, a2, a3, a4⟩ := HP.out.at_ hy
      have hto : ¬ (y.k = 11 ∧ 0 ≤ y.s) := fun h => by
        have e : y.nd.to = some y.s.toNat := if_pos h
        rw [e2] at e; cases e
      have hlk : (r : Int) < (L.length : Int) := by omega
      have hk0 : (0 : Int) ≤ (r : Int) := by omega
      obtain ⟨yk, ya, yb, yt, ys⟩ := y
      simp only at a0 a1 a2 a3 a4 hto
      clear a1 a2 a3 e1 e2 hy
      by_cases h11 : yk = 11
      · subst h11
        have hs : ys < 0 := by omega
        clear hto
        go_wp2_with fail
        go_ret
        exact ⟨rfl, rfl⟩
      · have f11 : (yk == 11) = false := beq_false_of_ne h11
        clear hto h11
        go_wp2_with fail
        go_ret
        exact ⟨rfl, rfl⟩
    | step e1 e2 hr' =>
      rename_i hnx m' nd'
      obtain ⟨y, hy, rfl⟩ := nodes_inv e1
      have hlt := (List.getElem?_eq_some_iff.1 hy).1
      obtain ⟨ad, rfl, a0, a1, a2, a3, a4⟩ := HP.out.at_ hy
      have hto : y.k = 11 ∧ y.s = (hnx : Int) := by
        by_cases h : y.k = 11 ∧ 0 ≤ y.s
        · have e : y.nd.to = some y.s.toNat := if_pos h
          rw [e2] at e
          have e := Option.some.inj e
          exact ⟨h.1, by omega⟩
        · have e : y.nd.to = none := if_neg h
          rw [e2] at e; cases e
      have hlk : (x : Int) < (L.length : Int) := by omega
      have hk0 : (0 : Int) ≤ (x : Int) := by omega
      have hs0 : (0 : Int) ≤ (hnx : Int) := by omega
      have HRx := Lib.hid (Rep.step e1 e2 hr')
      have HRn := Lib.hid hr'
      obtain ⟨yk, ya, yb, yt, ys⟩ := y
      simp only at a0 a1 a2 a3 a4 hto
      obtain ⟨rfl, rfl⟩ := hto
      clear a1 a2 a3 e1 e2 hy hr'
      go_wp2_with fail
      go_roundw
      case rel => exact ⟨hnx, m', rfl, HRn.out, by trivial⟩
      case measure =>
        rw [dstQ_eq HRn.out, dstQ_eq HRx.out]
        omega
/-- The blocks of a Pool. -/
def PK (pb : Nat) (A : Option Addr) : Nat → Prop := fun k => k = pb ∨ A.map (·.block) = some k
theorem ownBlock_eq (A : Option Addr) (n c : Nat) : (Value.slice A n c).ownBlock = A.map (·.block) := by cases A <;> rfl
theorem tm_info : (Tryd.prog.info? 90).map (fun i => (i.zero, i.size, i.bytes)) = some (some (.agg #[.int .i64 0, .int .i64 0, .int .i64 0, .string ⟨#[]⟩, .int .i64 0]), 5, 48) := by kernel_rfl
theorem tm_one (x : Tm) : ∀ u ∈ tmC x, u.oneCell' = true := by simp [tmC, Value.oneCell']
theorem reads_tm (w : World) (x : Tm) (b : Nat) (hb : w.heap.size = b) : Reads (w.alloc (.cells (tmC x).toArray 90)) (b + 1) 5 (some ⟨b, 0, none⟩) 1 (tmC x) := by
  subst hb
  exact reads_blkN (Blk.new w 90 _) rfl
theorem PoolM.grew {W w7 : World} {base pb : Nat} {A : Option Addr} {c : Nat} {L : List Tm} (h : PoolM W base pb A c L) {o : Obj} (gA : (W.alloc o).grownBy w7 (Value.slice A L.length c).ownBlock) : w7.cell? ⟨pb, 0, none⟩ = some (.slice A L.length c) ∧ w7.frozen? ⟨pb, 0, none⟩ = false ∧ pb < w7.heap.size ∧ Blk w7 pb 58 #[.slice A L.length c] := by
  have h1 := h.next (below_new W o)
  have q7 : Blk w7 pb 58 #[.slice A L.length c] := h1.blk.grown gA (fun e => own_ne58 h1.own h1.blk e.symm)
  exact ⟨q7.cell 0, q7.frozen 0, q7.lt, q7⟩
theorem PoolM.push {W w7 : World} {base pb : Nat} {A A1 : Option Addr} {c c1 : Nat} {L : List Tm} (h : PoolM W base pb A c L) {o : Obj} {x : Tm} (hx : 0 ≤ x.a ∧ 0 ≤ x.b) (hf : L.length < 1000)
    (oA : w7.ownsRow base 90 5 (.slice A1 (L.length + 1) c1) (L.length + 1) (L.flatMap tmC ++ tmC x)) (gA : (W.alloc o).grownBy w7 (Value.slice A L.length c).ownBlock) :
    PoolM (w7.setCell ⟨pb, 0, none⟩ (.slice A1 (L.length + 1) c1)) base pb A1 c1 (L ++ [x]) ∧ Stays (PK pb A) W (w7.setCell ⟨pb, 0, none⟩ (.slice A1 (L.length + 1) c1)) := by
  obtain ⟨_, _, _, q7⟩ := h.grew gA
  have hl : (L ++ [x]).length = L.length + 1 := by simp
  refine ⟨⟨by rw [hl]; exact q7.set_ 0 _, ?_, h.pbb, fun y hy => ?_, by rw [hl]; omega⟩, ?_⟩
  · rw [hl, List.flatMap_append, show [x].flatMap tmC = tmC x by simp]
    exact own_set oA q7 (by decide)
  · rcases List.mem_append.1 hy with hy | hy
    · exact h.ok y hy
    · rw [List.mem_singleton.1 hy]; exact hx
  · refine Stays.set ?_ (.inr (.inl rfl)) _
    refine (Stays.of_below (below_new W o)).trans (Stays.of_grown (K := PK pb A) gA fun k hk => ?_) (fun k _ hk => hk)
    rw [ownBlock_eq] at hk
    exact .inr hk
/-- A node more. -/
def NewEnd (base pb : Nat) (A : Option Addr) (L : List Tm) (x : Tm) (W : World) (e : Ending) (W' : World) : Prop :=
  ∃ A' c', e = .returned (.int .i64 (L.length : Int)) ∧ PoolM W' base pb A' c' (L ++ [x]) ∧ Stays (PK pb A) W W' ∧ ∀ k, A'.map (·.block) = some k → A.map (·.block) = some k ∨ W.heap.size ≤ k
set_option maxRecDepth 100000 in
set_option maxHeartbeats 4000000 in
theorem c47 {W : World} {base pb : Nat} {A : Option Addr} {c : Nat} {L : List Tm} (k a b : Int) (t : List UInt8) (ha : 0 ≤ a) (hb : 0 ≤ b) (hf : L.length < 1000) (hP : PoolM W base pb A c L) :
    Calls Tryd.prog 47 #[ptr pb, .int .i64 k, .int .i64 a, .int .i64 b, strV t] W (NewEnd base pb A L ⟨k, a, b, t, -1⟩ W) := by
  have HP := Lib.hid hP
  have p0 := hP.cell
  have hlt := hP.lt
  have hpb := hP.pbb
  have hfz := hP.blk.frozen 0
  obtain ⟨i90, fi90, hz0, hz1, hz2⟩ := info_parts tm_info
  have H90 := Lib.hid (show i90.zero = some (.agg #[.int .i64 0, .int .i64 0, .int .i64 0, .string ⟨#[]⟩, .int .i64 0]) ∧ i90.size = 5 ∧ i90.bytes = 48 from ⟨hz0, hz1, hz2⟩)
  have HAB := Lib.hid (show 0 ≤ a ∧ 0 ≤ b from ⟨ha, hb⟩)
  clear hP hz0 hz1 hz2 ha hb
  go_enter Tryd.func47, Tryd.ntmps47
  go_upto_region 1 with fail
  go_wp2_with (at_builtin; refine wpList_append_any _ rfl (.tmp 15) (.tmp 21) 56 rfl base 90 i90 _ 5 48 Tryd.underlying56 fi90 H90.out.1 H90.out.2.1 H90.out.2.2 rfl (by omega) (.slice A L.length c) L.length (L.flatMap tmC) rfl (own_next HP.out.own (below_new _ _)) (W.heap.size + 1) (some ⟨W.heap.size, 0, none⟩) 1 1 (tmC ⟨k, a, b, t, -1⟩) rfl (reads_tm W ⟨k, a, b, t, -1⟩ W.heap.size rfl) (tm_one ⟨k, a, b, t, -1⟩) (by unfold maxLen; omega) (by omega) (by rw [World.size_alloc]; omega) ?_; intro v1 w7 oA gA nA; obtain ⟨A1, c1, rfl⟩ := own_form oA; obtain ⟨g0, g1, g2, g3⟩ := HP.out.grew gA)
  have HOA := Lib.hid oA
  have HGA := Lib.hid gA
  have HNA := Lib.hid nA
  clear oA gA nA g0 g1 g2 g3
  go_ret
  obtain ⟨h1, h2⟩ := HP.out.push (x := ⟨k, a, b, t, -1⟩) HAB.out hf HOA.out HGA.out
  refine ⟨A1, c1, by go_num, h1, h2, fun j hj => ?_⟩
  have h3 := HNA.out
  rw [ownBlock_eq, ownBlock_eq, World.size_alloc] at h3
  rcases h3 with h3 | h3
  · exact .inl (h3.symm.trans hj)
  · rw [h3] at hj
    injection hj with hj
    exact .inr (by omega)
set_option maxRecDepth 100000 in
set_option maxHeartbeats 4000000 in
theorem c46 {W : World} {base pb : Nat} {A : Option Addr} {c : Nat} {L : List Tm} (hf : L.length < 1000) (hP : PoolM W base pb A c L) :
    Calls Tryd.prog 46 #[ptr pb] W (NewEnd base pb A L ⟨11, 0, 0, [], -1⟩ W) := by
  have HP := Lib.hid hP
  clear hP
  go_enter Tryd.func46, Tryd.ntmps46
  go_wp2_with fail
  refine (c47 11 0 0 [] (by omega) (by omega) hf HP.out).mono ?_
  rintro e w1 ⟨A1, c1, rfl, h1, h2, h3⟩
  go_wp2_with fail
  go_ret
  exact ⟨A1, c1, rfl, h1, h2, h3⟩
end Go.Proofs.YtcilodgpbdafeaaDoor
namespace Go.Proofs.YtcilodgpbdafeaaDoor
open Go.ChangeShapes Go.WideShapes Go.ChangeAt Go.RowKit
set_option linter.unusedVariables false
set_option linter.unusedSimpArgs false
/-- What was asked. -/
structure SeenM (W : World) (sb sg sc : Nat) (S : List Bool) : Prop where
  own : W.ownsRow sb 4 1 (.slice (some ⟨sg, 0, none⟩) S.length sc) S.length (S.map .bool)
def seenD (S : List Bool) : Nat → Option Value := fun x => if S[x]? = some true then some (.bool true) else none
theorem seenD_set {S : List Bool} {r : Nat} (hr : r < S.length) : seenD (S.set r true) = fun x => if x = r then some (.bool true) else seenD S x := by
  funext x
  unfold seenD
  rw [List.getElem?_set]
  by_cases hx : x = r
  · subst hx; simp [hr]
  · have hrx : ¬ r = x := fun e => hx e.symm
    simp only [if_neg hx, if_neg hrx]
section
variable {W W' : World} {base pb : Nat} {A : Option Addr} {c : Nat} {L : List Tm} {sb sg sc : Nat} {S : List Bool}
theorem SeenM.lt (h : SeenM W sb sg sc S) : sg < W.heap.size := own_lt h.own sg rfl
theorem SeenM.pool (h : SeenM W sb sg sc S) (hP : PoolM W base pb A c L) (hg : W.grownBy W' (some sg)) : PoolM W' base pb A c L :=
  hP.grown hg (fun e => own_blk_ne h.own hP.blk (by decide) (by injection e with e; rw [e]; rfl)) (.inl fun e => by
    rcases own_own_ne h.own hP.own (by decide) with h1 | h1
    · cases h1
    · exact h1 e)
theorem SeenM.cell (h : SeenM W sb sg sc S) {r : Nat} {x : Bool} (hr : S[r]? = some x) : W.cell? ⟨sg, r, none⟩ = some (.bool x) ∧ W.frozen? ⟨sg, r, none⟩ = false := by
  have hlt := (List.getElem?_eq_some_iff.1 hr).1
  have h1 := h.own.cellAt r (by omega)
  rw [List.getElem?_map, hr] at h1
  exact ⟨h1, h.own.frozenAt r⟩
theorem SeenM.put (h : SeenM W sb sg sc S) (r : Nat) (x : Bool) : SeenM (W.setCell ⟨sg, r, none⟩ (.bool x)) sb sg sc (S.set r x) ∧ W.grownBy (W.setCell ⟨sg, r, none⟩ (.bool x)) (some sg) := by
  have h1 := h.own.stored r (.bool x)
  rw [← List.map_set] at h1
  exact ⟨⟨by rw [List.length_set]; exact h1.1⟩, h1.2⟩
end
/-- What becomes of what was asked. -/
def WthQ (L : List Tm) (v : Int) (T : Ty) (W : World) (sb sg sc : Nat) (S : List Bool) (W' : World) : Prop :=
  ∃ S', SeenM W' sb sg sc S' ∧ S'.length = S.length ∧ W.grownBy W' (some sg) ∧ (occ v T = false → Marked (nodes L) v (seenD S) (seenD S'))
set_option maxRecDepth 100000 in
set_option maxHeartbeats 8000000 in
theorem c55 {base pb : Nat} {A : Option Addr} {c : Nat} {L : List Tm} {v : Nat} (hv : Den (nodes L) v (.var v)) (rv : Root (nodes L) v) {sb sg sc : Nat} : ∀ (m : Nat) (T : Ty) (g : Nat) (W : World) (S : List Bool), T.size ≤ m → T.wf → PoolM W base pb A c L → Den (nodes L) g T → SeenM W sb sg sc S → S.length = L.length → Mark (nodes L) v T.size (seenD S) →
    Calls Tryd.prog 55 #[ptr pb, .int .i64 (v : Int), .int .i64 (g : Int), .slice (some ⟨sg, 0, none⟩) S.length sc] W fun e W' => e = .returned (.bool (occ v T)) ∧ WthQ L v T W sb sg sc S W' := by
  intro m
  induction m with
  | zero => intro T _ _ _ h; have := T.size_pos; omega
  | succ m ih =>
    intro T g W S hm hwf hP hd hS hSL hM
    obtain ⟨r, k, hr, hdr⟩ := hd.rep
    have hroot := hr.isRoot
    obtain ⟨y, hy, hyk, hyt, hys, hkid⟩ := hdr.tm hroot hP.ok
    have hkk := kids_kind hwf
    have HKK := Lib.hid hkk
    have HYK := Lib.hid hyk
    clear hkk hyk
    have hrl := (List.getElem?_eq_some_iff.1 hy).1
    have hlL := hP.few
    have IH := Lib.hid ih
    have HP := Lib.hid hP
    have HR := Lib.hid hr
    have HD := Lib.hid hdr
    have HO := Lib.hid hroot
    have HM := Lib.hid hM
    have HS := Lib.hid hS
    have HSL := Lib.hid hSL
    have HSz := Lib.hid hm
    have HV := Lib.hid hv
    have HW := Lib.hid rv
    have HWf := Lib.hid hwf
    have HKid := Lib.hid hkid
    have HY := Lib.hid hy
    clear hr hd hdr hroot hM ih hm hv rv hwf hkid hyt hys
    have hrs : r < S.length := by omega
    obtain ⟨sr, hsr⟩ : ∃ x, S[r]? = some x := ⟨_, List.getElem?_eq_getElem hrs⟩
    have hrI : (r : Int) < (S.length : Int) := by omega
    have hrL : (r : Int) < (L.length : Int) := by omega
    have hr0 : (0 : Int) ≤ (r : Int) := by omega
    obtain ⟨s0, s1⟩ := hS.cell hsr
    by_cases hrv : r = v
    · subst hrv
      have eT : T = .var r := HD.out.fn HV.out
      have fq : ((r : Int) == (r : Int)) = true := beq_self_eq_true _
      have ho : occ r T = true := by rw [eT]; exact fq
      have ho' := ho
      rw [ho]
      clear eT ho hP hS hSL  hy
      go_enter Tryd.func55, Tryd.ntmps55
      go_wp2_with fail
      refine (c54 HR.out HP.out).mono ?_
      rintro e _ ⟨rfl, rfl⟩
      go_wp2_with fail
      go_ret
      exact ⟨rfl, S, HS.out, rfl, World.grownBy.refl _ _, fun h => by rw [ho'] at h; cases h⟩
    · have fq : ((r : Int) == (v : Int)) = false := beq_false_of_ne (by omega)
      have hT : T ≠ .var v := fun e => hrv (HO.out.var (e ▸ HD.out))
      have HT := Lib.hid hT
      clear hrv hT hP hS hSL hy
      cases sr with
      | true =>
        obtain ⟨_, U, hU, ho⟩ := HM.out r (.bool true) (by unfold seenD; rw [if_pos hsr])
        have eU : U = T := hU.fn HD.out
        subst eU
        have ho : occ v U = false := ho.resolve_right (Nat.lt_irrefl _)
        rw [ho]
        clear hU ho
        go_enter Tryd.func55, Tryd.ntmps55
        go_wp2_with fail
        refine (c54 HR.out HP.out).mono ?_
        rintro e _ ⟨rfl, rfl⟩
        go_wp2_with fail
        go_ret
        exact ⟨rfl, S, HS.out, rfl, World.grownBy.refl _ _, fun _ x u h => .inl h⟩
      | false =>
        have hput := HS.out.put r true
        have HS1 := Lib.hid hput.1
        have HG1 := Lib.hid hput.2
        have HP1 := Lib.hid (HS.out.pool HP.out hput.2)
        have p0 := HP1.out.cell
        have HSD := Lib.hid (seenD_set hrs)
        obtain ⟨ad, hA, a0, a1, a2, a3, a4⟩ := HP1.out.at_ HY.out
        subst hA
        rw [HYK.out] at a0
        clear hput hsr a3 a4
        go_enter Tryd.func55, Tryd.ntmps55
        go_wp2_with fail
        refine (c54 HR.out HP.out).mono ?_
        rintro e _ ⟨rfl, rfl⟩
        go_wp2_with fail
        refine (c27 T.kind _).mono ?_
        rintro e w1 ⟨rfl, rfl⟩
        rw [HKK.out]
        clear s0 s1
        cases T with
        | leaf k t =>
          simp only [kidsN]
          go_wp2_with fail
          go_ret
          exact ⟨rfl, S.set r true, HS1.out, List.length_set .., HG1.out, fun ho => Marked.whole HD.out (by rw [HSD.out]; exact Marked.refl) ho⟩
        | var n =>
          have ho : occ v (.var n) = false := beq_false_of_ne fun e => HT.out (by rw [e])
          have HO0 := Lib.hid ho
          clear ho
          simp only [kidsN]
          go_wp2_with fail
          go_ret
          exact ⟨by rw [HO0.out]; rfl, S.set r true, HS1.out, List.length_set .., HG1.out, fun ho => Marked.whole HD.out (by rw [HSD.out]; exact Marked.refl) ho⟩
        | one k s =>
          obtain ⟨h, hya, hdh⟩ := HKid.out
          rw [hya] at a1
          have hc := IH.out s h _ _ (by have := HSz.out; simp only [Ty.size] at this; omega) HWf.out.2 HP1.out hdh HS1.out (by rw [List.length_set]; exact HSL.out) (HM.out.part HD.out (by rw [HSD.out]; exact Marked.refl) (Nat.lt_succ_self _))
          rw [List.length_set] at hc
          have HC := Lib.hid hc
          clear hc hya hdh
          simp only [kidsN]
          go_wp2_with fail
          refine HC.out.mono ?_
          rintro e w2 ⟨rfl, S2, hs2, hl2, hg2, hm2⟩
          have H2 := Lib.hid (show SeenM w2 sb sg sc S2 ∧ S2.length = S.length ∧ W.grownBy w2 (some sg) from ⟨hs2, hl2.trans (List.length_set ..), HG1.out.trans hg2⟩)
          have HM2 := Lib.hid hm2
          clear hs2 hl2 hg2 hm2
          have hoT : occ v (.one k s) = occ v s := rfl
          have HOT := Lib.hid hoT
          clear hoT
          cases ho : occ v s
          all_goals
            go_wp2_with fail
            go_ret
            exact ⟨by rw [HOT.out, ho]; rfl, S2, H2.out.1, H2.out.2.1, H2.out.2.2, fun ho' => Marked.whole HD.out (by rw [← HSD.out]; exact HM2.out (HOT.out.symm.trans ho')) ho'⟩
        | two k s u =>
          obtain ⟨h, i, hya, hyb, hdh, hdi⟩ := HKid.out
          rw [hya] at a1
          have HI := Lib.hid (show y.b = (i : Int) ∧ Den (nodes L) i u from ⟨hyb, hdi⟩)
          have hc := IH.out s h _ _ (by have := HSz.out; simp only [Ty.size] at this; omega) HWf.out.2.1 HP1.out hdh HS1.out (by rw [List.length_set]; exact HSL.out) (HM.out.part HD.out (by rw [HSD.out]; exact Marked.refl) (by simp only [Ty.size]; omega))
          rw [List.length_set] at hc
          have HC := Lib.hid hc
          clear hc hya hdh hyb hdi a2
          simp only [kidsN]
          go_wp2_with fail
          refine HC.out.mono ?_
          rintro e w2 ⟨rfl, S2, hs2, hl2, hg2, hm2⟩
          have H2 := Lib.hid (show SeenM w2 sb sg sc S2 ∧ S2.length = S.length ∧ W.grownBy w2 (some sg) from ⟨hs2, hl2.trans (List.length_set ..), HG1.out.trans hg2⟩)
          have HM2 := Lib.hid hm2
          have HP2 := Lib.hid (HS1.out.pool HP1.out hg2)
          clear hs2 hl2 hg2 hm2 a0 a1 p0
          have hoT : occ v (.two k s u) = (occ v s || occ v u) := rfl
          have HOT := Lib.hid hoT
          clear hoT
          cases ho : occ v s with
          | true =>
            go_wp2_with fail
            go_ret
            exact ⟨by rw [HOT.out, ho]; rfl, S2, H2.out.1, H2.out.2.1, H2.out.2.2, fun ho' => by rw [HOT.out, ho] at ho'; cases ho'⟩
          | false =>
            have hm2 := HM2.out ho
            have p0 := HP2.out.cell
            obtain ⟨ad', hA, _, _, b2, _, _⟩ := HP2.out.at_ HY.out
            obtain rfl := Option.some.inj hA
            rw [HI.out.1] at b2
            have hc := IH.out u i _ S2 (by have := HSz.out; simp only [Ty.size] at this; omega) HWf.out.2.2 HP2.out HI.out.2 H2.out.1 (H2.out.2.1.trans HSL.out) (HM.out.part HD.out (by rw [← HSD.out]; exact hm2) (by simp only [Ty.size]; omega))
            rw [H2.out.2.1] at hc
            have HC2 := Lib.hid hc
            have HM3 := Lib.hid hm2
            have HOs := Lib.hid ho
            clear hc hA hm2 ho
            go_wp2_with fail
            refine HC2.out.mono ?_
            rintro e w3 ⟨rfl, S3, hs3, hl3, hg3, hm3⟩
            have H3 := Lib.hid (show SeenM w3 sb sg sc S3 ∧ S3.length = S.length ∧ W.grownBy w3 (some sg) from ⟨hs3, hl3.trans H2.out.2.1, H2.out.2.2.trans hg3⟩)
            have HM4 := Lib.hid hm3
            clear hs3 hl3 hg3 hm3
            cases ho2 : occ v u
            all_goals
              go_wp2_with fail
              go_ret
              exact ⟨by rw [HOT.out, HOs.out, ho2]; rfl, S3, H3.out.1, H3.out.2.1, H3.out.2.2, fun ho' => Marked.whole HD.out (by rw [← HSD.out]; exact HM3.out.trans (HM4.out (by rw [HOT.out, HOs.out] at ho'; exact ho'))) ho'⟩
end Go.Proofs.YtcilodgpbdafeaaDoor
namespace Go.Proofs.YtcilodgpbdafeaaDoor
open Go.ChangeShapes Go.WideShapes Go.ChangeAt Go.RowKit
set_option linter.unusedVariables false
set_option linter.unusedSimpArgs false
theorem size3 (w : World) : (sizeOf 3).run Tryd.prog w = .ok 1 w := by
  obtain ⟨i3, fi3, hz0, hz1, hz2⟩ := info_parts int_info
  simp [sizeOf, typeInfo, fi3, hz1]
set_option maxRecDepth 100000 in
theorem run_equal63 (w : World) (a b c d : Int) : (Op.equalIn 10000 63 (.agg #[.int .i64 a, .int .i64 b]) (.agg #[.int .i64 c, .int .i64 d])).run Tryd.prog w = .ok (a == c && b == d) w := by
  rw [Op.equalIn]
  simp only [Sem.run_bind, run_underlying Tryd.underlying63, Result.andThen_ok, size3, Std.Legacy.Range.forIn_eq_forIn_range', Std.Legacy.Range.size, Nat.sub_zero, Nat.add_sub_cancel, Nat.div_one]
  have hp : ∀ (xs : Array Value) (o : Nat) (v : Value), xs[o]? = some v → (part 3 xs o).run Tryd.prog w = .ok v w := fun xs o v h => by simp [go_sem, part, h]
  have x0 := hp #[.int .i64 a, .int .i64 b] (0 * 1) (.int .i64 a) rfl
  have x1 := hp #[.int .i64 a, .int .i64 b] (1 * 1) (.int .i64 b) rfl
  have y0 := hp #[.int .i64 c, .int .i64 d] (0 * 1) (.int .i64 c) rfl
  have y1 := hp #[.int .i64 c, .int .i64 d] (1 * 1) (.int .i64 d) rfl
  have e3 : ∀ a b : Int, (Op.equalIn 9999 3 (.int .i64 a) (.int .i64 b)).run Tryd.prog w = .ok (a == b) w := fun a b => run_equalIn_int w 9998 3 .i64 .i64 a b Tryd.underlying3
  simp only [List.range', List.forIn_cons, Sem.run_bind, x0, y0, e3, Result.andThen_ok]
  cases h0 : (a == c)
  · simp
  · simp only [Bool.not_true, Bool.false_eq_true, if_false, Sem.run_pure, Result.andThen_ok, List.forIn_cons, Sem.run_bind, x1, y1, e3]
    cases h1 : (b == d) <;> simp
theorem eql63 (w : World) (a b c d : Int) : (binOp .eql 63 (.agg #[.int .i64 a, .int .i64 b]) (.agg #[.int .i64 c, .int .i64 d])).run Tryd.prog w = .ok (.bool (a == c && b == d)) w := by
  rw [run_eql_struct, run_equal63]
  rfl
/-- All but what a variable stands for. -/
def Tm.strip (x : Tm) : Tm := { x with s := 0 }
def Same (L L' : List Tm) : Prop := L'.map Tm.strip = L.map Tm.strip
theorem Same.refl (L : List Tm) : Same L L := rfl
theorem Same.trans {L L' L'' : List Tm} (h : Same L L') (h' : Same L' L'') : Same L L'' := Eq.trans h' h
theorem Same.len {L L' : List Tm} (h : Same L L') : L'.length = L.length := by
  have := congrArg List.length h
  simpa using this
theorem Same.get {L L' : List Tm} (h : Same L L') {i : Nat} {x : Tm} (hx : L[i]? = some x) : ∃ s, L'[i]? = some { x with s := s } := by
  have h1 := congrArg (fun l : List Tm => l[i]?) h
  simp only [List.getElem?_map, hx, Option.map_some] at h1
  cases hy : L'[i]? with
  | none => rw [hy] at h1; cases h1
  | some y =>
    rw [hy] at h1
    have h2 : Tm.strip y = Tm.strip x := Option.some.inj h1
    refine ⟨y.s, ?_⟩
    obtain ⟨yk, ya, yb, yt, ys⟩ := y
    obtain ⟨xk, xa, xb, xt, xs⟩ := x
    simp only [Tm.strip, Tm.mk.injEq] at h2
    obtain ⟨rfl, rfl, rfl, rfl, _⟩ := h2
    rfl
theorem Same.set {L : List Tm} {i : Nat} {x : Tm} (hx : L[i]? = some x) (s : Int) : Same L (L.set i { x with s := s }) := by
  unfold Same
  rw [List.map_set]
  have hlt := (List.getElem?_eq_some_iff.1 hx).1
  apply List.ext_getElem?
  intro j
  rw [List.getElem?_set]
  by_cases hj : i = j
  · subst hj
    rw [if_pos rfl, if_pos (by simpa using hlt), List.getElem?_map, hx]
    rfl
  · rw [if_neg hj]
def pairC (p : Nat × Nat) : List Value := [.int .i64 (p.1 : Int), .int .i64 (p.2 : Int)]
/-- A Pool and the pairs that are done. -/
structure UniM (W : World) (base pb db : Nat) (A : Option Addr) (c : Nat) (L : List Tm) (D : List (Nat × Nat)) : Prop where
  pool : PoolM W base pb A c L
  done : ∃ A' c', Blk W db 64 #[.slice A' D.length c'] ∧ W.ownsRow base 63 2 (.slice A' D.length c') D.length (D.flatMap pairC)
  dbb : base ≤ db
  nodup : D.Nodup
  ok : ∀ p ∈ D, ∃ U, Den (nodes L) p.1 U ∧ Den (nodes L) p.2 U
theorem Den.lt_ {L : List Tm} {g : Nat} {U : Ty} (h : Den (nodes L) g U) : g < L.length := by
  obtain ⟨r, n, hr, _⟩ := h.rep
  cases hr with
  | here e _ => exact nodes_lt e
  | step e _ _ => exact nodes_lt e
section
variable {W W' : World} {base pb db : Nat} {A : Option Addr} {c : Nat} {L : List Tm} {D : List (Nat × Nat)}
theorem UniM.few (h : UniM W base pb db A c L D) : D.length ≤ 1000000 := by
  have h1 := pairs_few h.nodup (n := L.length) fun p hp => by
    obtain ⟨U, h2, h3⟩ := h.ok p hp
    exact ⟨h2.lt_, h3.lt_⟩
  have h2 := h.pool.few
  have h3 : L.length * L.length ≤ 1000 * 1000 := Nat.mul_le_mul h2 h2
  omega
theorem UniM.next (h : UniM W base pb db A c L D) (hb : Below W.heap.size W W') : UniM W' base pb db A c L D := by
  obtain ⟨A', c', h1, h2⟩ := h.done
  exact ⟨h.pool.next hb, ⟨A', c', h1.next hb, own_next h2 hb⟩, h.dbb, h.nodup, h.ok⟩
theorem UniM.seen {sb sg sc : Nat} {S : List Bool} (h : UniM W base pb db A c L D) (hS : SeenM W sb sg sc S) (hg : W.grownBy W' (some sg)) : UniM W' base pb db A c L D := by
  obtain ⟨A', c', h1, h2⟩ := h.done
  refine ⟨hS.pool h.pool hg, ⟨A', c', h1.grown hg (fun e => own_blk_ne hS.own h1 (by decide) (by injection e with e; rw [e]; rfl)), h2.kept hg ?_⟩, h.dbb, h.nodup, h.ok⟩
  rcases own_own_ne h2 hS.own (by decide) with e | e
  · exact .inl e
  · exact .inr e
theorem UniM.cell (h : UniM W base pb db A c L D) : ∃ A' c', W.cell? ⟨db, 0, none⟩ = some (.slice A' D.length c') ∧ W.frozen? ⟨db, 0, none⟩ = false ∧ db < W.heap.size ∧ Blk W db 64 #[.slice A' D.length c'] ∧ W.ownsRow base 63 2 (.slice A' D.length c') D.length (D.flatMap pairC) := by
  obtain ⟨A', c', h1, h2⟩ := h.done
  exact ⟨A', c', h1.cell 0, h1.frozen 0, h1.lt, h1, h2⟩
end
/-- What a variable stands for is written down. -/
theorem PoolM.setS {W : World} {base pb : Nat} {ad : Addr} {c : Nat} {L : List Tm} (h : PoolM W base pb (some ad) c L) {k : Nat} {x : Tm} (hk : L[k]? = some x) (s : Int) :
    PoolM (W.setCell ⟨(ad.add (k * 5)).block, (ad.add (k * 5)).off + 4, none⟩ (.int .i64 s)) base pb (some ad) c (L.set k { x with s := s }) ∧ W.frozen? ⟨(ad.add (k * 5)).block, (ad.add (k * 5)).off + 4, none⟩ = false ∧ W.grownBy (W.setCell ⟨(ad.add (k * 5)).block, (ad.add (k * 5)).off + 4, none⟩ (.int .i64 s)) (some ad.block) := by
  have hlt := (List.getElem?_eq_some_iff.1 hk).1
  obtain ⟨g, cap, hv, _, _⟩ := h.own.form (by omega)
  have e : ad = ⟨g, 0, none⟩ := by injection hv with hv; injection hv
  have ea : (⟨(ad.add (k * 5)).block, (ad.add (k * 5)).off + 4, none⟩ : Addr) = ⟨g, k * 5 + 4, none⟩ := by
    rw [e]
    unfold Addr.add
    split
    · rename_i h0; simp [show k = 0 by omega]
    · simp
  rw [ea]
  subst e
  have hs := h.own.stored (k * 5 + 4) (.int .i64 s)
  rw [tmC_set L k x s hk] at hs
  refine ⟨⟨?_, by rw [List.length_set]; exact hs.1, h.pbb, fun y hy => ?_, by rw [List.length_set]; exact h.few⟩, h.own.frozenAt _, hs.2⟩
  · rw [List.length_set]
    exact h.blk.far (fun e => own_ne58 h.own h.blk (by rw [e]; rfl)) _
  · rcases List.mem_or_eq_of_mem_set hy with hy | hy
    · exact h.ok y hy
    · rw [hy]; exact h.ok x (List.mem_of_getElem? hk)
theorem UniM.bound {w : World} {base pb db : Nat} {ad : Addr} {c : Nat} {L : List Tm} {D : List (Nat × Nat)} (h : UniM w base pb db (some ad) c L D) {v r : Nat} {y : Tm} {T : Ty} (hy : L[v]? = some y) (hk : y.k = 11) (hv : Den (nodes L) v (.var v)) (rv : Root (nodes L) v) (hr : Den (nodes L) r T) (ho : occ v T = false) :
    UniM (w.setCell ⟨(ad.add (v * 5)).block, (ad.add (v * 5)).off + 4, none⟩ (.int .i64 (r : Int))) base pb db (some ad) c (L.set v { y with s := (r : Int) }) D ∧ Carries (nodes L) (nodes (L.set v { y with s := (r : Int) })) (bind1 v T) := by
  have hcar : Carries (nodes L) (nodes (L.set v { y with s := (r : Int) })) (bind1 v T) := fun g U hd => by
    rw [nodes_set hy hk r]
    exact Den.bound hv rv hr ho hd
  obtain ⟨h1, _, h3⟩ := h.pool.setS hy (r : Int)
  obtain ⟨A', c', q1, q2⟩ := h.done
  have eb : (some ad : Option Addr).map (·.block) = some ad.block := rfl
  refine ⟨⟨h1, ⟨A', c', q1.grown h3 (fun e => own_blk_ne h.pool.own q1 (by decide) (by rw [ownBlock_eq, eb, e])), q2.kept h3 ?_⟩, h.dbb, h.nodup, fun p hp => ?_⟩, hcar⟩
  · rcases own_own_ne q2 h.pool.own (by decide) with e | e
    · exact .inl e
    · exact .inr e
  · obtain ⟨U, u1, u2⟩ := h.ok p hp
    exact ⟨_, hcar _ _ u1, hcar _ _ u2⟩
/-- What becomes of two nodes that are made one. -/
def UniEnd (base pb db : Nat) (A : Option Addr) (c : Nat) (L : List Tm) (D : List (Nat × Nat)) (V : List Int) (S T : Ty) (W : World) (e : Ending) (W' : World) : Prop :=
  ∃ r L', e = .returned (.bool r) ∧ Below base W W' ∧ PoolM W' base pb A c L' ∧ Same L L' ∧ (r = false → ∀ τ, sub τ S ≠ sub τ T) ∧ (r = true → ∃ θ D', Mgu θ S T ∧ UniM W' base pb db A c L' D' ∧ Carries (nodes L) (nodes L') θ ∧ WfS θ ∧ Fewer V θ ∧ ∀ p ∈ D', p ∈ D ∨ ∃ U, Den (nodes L') p.1 U ∧ SubT U (sub θ S))
end Go.Proofs.YtcilodgpbdafeaaDoor
namespace Go.Proofs.YtcilodgpbdafeaaDoor
open Go.ChangeShapes Go.WideShapes Go.ChangeAt Go.RowKit
set_option linter.unusedVariables false
set_option linter.unusedSimpArgs false
theorem bool_info : (Tryd.prog.info? 4).map (fun i => (i.zero, i.size, i.bytes)) = some (some (.bool false), 1, 1) := by kernel_rfl
theorem made_bools (n : Nat) : (madeCells (Value.bool false).cells (n * 1)).toList = (List.replicate n false).map .bool := by
  rw [Nat.mul_one, List.map_replicate]
  exact toList_madeCells_one _ n
theorem mark_none {N : Nat → Option Nd} {v : Int} {s n : Nat} : Mark N v s (seenD (List.replicate n false)) := by
  intro x u hx
  unfold seenD at hx
  split at hx
  · rename_i h
    rw [List.getElem?_replicate] at h
    split at h
    · cases h
    · cases h
  · cases hx
theorem below_pool {base : Nat} {W W' : World} (h : W.grownBy W' none) (hb : base ≤ W.heap.size) : Below base W W' := (Below.refl base W).grown h hb (fun k e => by cases e)
theorem UniM.grownNone {W W' : World} {base pb db : Nat} {A : Option Addr} {c : Nat} {L : List Tm} {D : List (Nat × Nat)} (h : UniM W base pb db A c L D) (hg : W.grownBy W' none) : UniM W' base pb db A c L D := by
  obtain ⟨A', c', h1, h2⟩ := h.done
  refine ⟨h.pool.grown hg (by simp) (.inr rfl), ⟨A', c', h1.grown hg (by simp), h2.kept hg ?_⟩, h.dbb, h.nodup, h.ok⟩
  cases hv : (Value.slice A' D.length c').ownBlock with
  | none => exact .inl rfl
  | some k => exact .inr (by simp)
set_option maxRecDepth 100000 in
set_option maxHeartbeats 8000000 in
theorem c48v {base pb db : Nat} {A : Option Addr} {c : Nat} {L : List Tm} {D : List (Nat × Nat)} {V : List Int} {a b ra rb ka kb : Nat} {T : Ty} (ha : Rep (nodes L) a ra ka) (hb : Rep (nodes L) b rb kb) (da : Den (nodes L) ra (.var ra)) (db_ : Den (nodes L) rb T) (wO : T.wf) (vL : (ra : Int) ∈ V) (vO : vin V T) (W : World) (hM : UniM W base pb db A c L D) :
    Calls Tryd.prog 48 #[ptr pb, .int .i64 (a : Int), .int .i64 (b : Int), ptr db] W (UniEnd base pb db A c L D V (.var ra) T W) := by
  have rra := ha.isRoot
  have rrb := hb.isRoot
  obtain ⟨y, hy, hyk, _, _, _⟩ := da.tm rra hM.pool.ok
  have la := da.lt_
  have lb := db_.lt_
  have few := hM.pool.few
  have p0 := hM.pool.cell
  have hbase := hM.pool.pbb
  have hplt := hM.pool.lt
  obtain ⟨ad, hA, a0, _⟩ := hM.pool.at_ hy
  subst hA
  replace hyk : y.k = 11 := hyk
  rw [hyk] at a0
  have HA := Lib.hid ha
  have HB := Lib.hid hb
  have DA := Lib.hid da
  have DB := Lib.hid db_
  have RA := Lib.hid rra
  have RB := Lib.hid rrb
  have HM := Lib.hid hM
  have WO := Lib.hid wO
  have VL := Lib.hid vL
  have VO := Lib.hid vO
  have HY := Lib.hid hy
  have HYK := Lib.hid hyk
  clear ha hb da db_ rra rrb hM wO vL vO hy hyk
  have la0 : (0 : Int) ≤ (ra : Int) := by omega
  have laI : (ra : Int) < (L.length : Int) := by omega
  have lb0 : (0 : Int) ≤ (rb : Int) := by omega
  have lbI : (rb : Int) < (L.length : Int) := by omega
  by_cases hab : ra = rb
  · subst hab
    have ET := Lib.hid (show T = .var ra from DB.out.fn DA.out)
    have fq : ((ra : Int) == (ra : Int)) = true := beq_self_eq_true _
    go_enter Tryd.func48, Tryd.ntmps48
    go_wp2_with fail
    refine (c54 HA.out HM.out.pool).mono ?_
    rintro e _ ⟨rfl, rfl⟩
    go_wp2_with fail
    refine (c54 HB.out HM.out.pool).mono ?_
    rintro e _ ⟨rfl, rfl⟩
    go_wp2_with fail
    go_ret
    refine ⟨true, L, rfl, Below.refl _ _, HM.out.pool, Same.refl L, fun h => (by cases h), fun _ => ⟨.var, D, ?_, HM.out, Carries.refl, WfS.var, .inl fun _ => rfl, fun p hp => .inl hp⟩⟩
    rw [ET.out]
    exact Mgu.id _
  · have fq : ((ra : Int) == (rb : Int)) = false := beq_false_of_ne (by omega)
    have HAB := Lib.hid hab
    clear hab
    obtain ⟨i4, fi4, hz0, hz1, hz2⟩ := info_parts bool_info
    obtain ⟨w3, hmk, ho3, hg3⟩ := run_makeSlice_full (P := Tryd.prog) W base 92 4 i4 _ 1 Tryd.underlying92 fi4 hz0 hz1 .i64 .i64 L.length (by omega) (by rw [hz2]; omega) (by unfold maxLen; omega) (by omega)
    rw [made_bools] at ho3
    have HG3 := Lib.hid hg3
    have hs3 : SeenM w3 base W.heap.size L.length (List.replicate L.length false) := ⟨by rw [List.length_replicate]; exact ho3⟩
    have HS3 := Lib.hid hs3
    have HM3 := Lib.hid (HM.out.grownNone hg3)
    have hc := c55 (pb := pb) (A := some ad) (c := c) DA.out RA.out T.size T rb w3 (List.replicate L.length false) (Nat.le_refl _) WO.out HM3.out.pool DB.out hs3 List.length_replicate mark_none
    rw [List.length_replicate] at hc
    have HC := Lib.hid hc
    clear hg3 hs3 hc ho3 hz0 hz1 hz2 fi4
    go_enter Tryd.func48, Tryd.ntmps48
    go_wp2_with fail
    refine (c54 HA.out HM.out.pool).mono ?_
    rintro e _ ⟨rfl, rfl⟩
    go_wp2_with fail
    refine (c54 HB.out HM.out.pool).mono ?_
    rintro e _ ⟨rfl, rfl⟩
    go_wp2_with fail
    refine HC.out.mono ?_
    rintro e w4 ⟨rfl, S4, hs4, _, hg4, _⟩
    have HM4 := Lib.hid (HM3.out.seen HS3.out hg4)
    have HB4 := Lib.hid (show Below base W w4 from ((Below.refl base W).grown HG3.out (by omega) (fun k e => by cases e)).grown hg4 (by have := HG3.out.size; omega) (fun k e => by injection e with e; omega))
    clear hs4 hg4 hmk
    cases ho : occ ra T with
    | true =>
      have HO := Lib.hid ho
      clear ho
      go_wp2_with fail
      go_ret
      refine ⟨false, L, rfl, HB4.out, HM4.out.pool, Same.refl L, fun _ τ => ?_, fun h => (by cases h)⟩
      exact no_occ HO.out (fun e => HAB.out (RB.out.var (e ▸ DB.out)).symm) τ
    | false =>
      have HO := Lib.hid ho
      clear ho
      obtain ⟨h5, f5, g5⟩ := HM4.out.pool.setS HY.out (rb : Int)
      obtain ⟨m5, c5⟩ := HM4.out.bound HY.out HYK.out DA.out RA.out DB.out HO.out
      have H5 := Lib.hid h5
      have G5 := Lib.hid g5
      have M5 := Lib.hid m5
      have C5 := Lib.hid c5
      have p4 := HM4.out.pool.cell
      obtain ⟨ad5, hA5, _, _, _, _, a5⟩ := HM4.out.pool.at_ HY.out
      obtain rfl := Option.some.inj hA5
      clear h5 g5 m5 c5 hA5 p0 a0
      go_wp2_with fail
      go_ret
      refine ⟨true, _, rfl, ?_, H5.out, Same.set HY.out _, fun h => (by cases h), fun _ => ⟨bind1 ra T, D, Mgu.bind HO.out, M5.out, C5.out, WfS.bind WO.out, Fewer.bind VL.out VO.out HO.out, fun p hp => .inl hp⟩⟩
      exact HB4.out.grown G5.out (by have := HB4.out.size; omega) (fun k e => by
        injection e with e
        have := own_base HM4.out.pool.own k (by rw [ownBlock_eq]; show some ad.block = some k; rw [e])
        exact this)
set_option maxRecDepth 100000 in
set_option maxHeartbeats 8000000 in
theorem c48s {base pb db : Nat} {A : Option Addr} {c : Nat} {L : List Tm} {D : List (Nat × Nat)} {V : List Int} {a b ra rb ka kb : Nat} {S : Ty} (ha : Rep (nodes L) a ra ka) (hb : Rep (nodes L) b rb kb) (da : Den (nodes L) ra S) (db_ : Den (nodes L) rb (.var rb)) (hS : ∀ n, S ≠ .var n) (wO : S.wf) (vL : (rb : Int) ∈ V) (vO : vin V S) (W : World) (hM : UniM W base pb db A c L D) :
    Calls Tryd.prog 48 #[ptr pb, .int .i64 (a : Int), .int .i64 (b : Int), ptr db] W (UniEnd base pb db A c L D V S (.var rb) W) := by
  have rra := ha.isRoot
  have rrb := hb.isRoot
  obtain ⟨y, hy, hyk, _, _, _⟩ := db_.tm rrb hM.pool.ok
  obtain ⟨z, hz, hzk, _, _, _⟩ := da.tm rra hM.pool.ok
  have hS11 : S.kind ≠ 11 := by
    cases S with
    | var n => exact absurd rfl (hS n)
    | leaf k t => simp only [Ty.wf, Ty.kind] at wO ⊢; omega
    | one k s => simp only [Ty.wf, Ty.kind] at wO ⊢; omega
    | two k s u => simp only [Ty.wf, Ty.kind] at wO ⊢; omega
  have la := db_.lt_
  have lb := da.lt_
  have few := hM.pool.few
  have p0 := hM.pool.cell
  have hbase := hM.pool.pbb
  have hplt := hM.pool.lt
  obtain ⟨ad, hA, a0, _⟩ := hM.pool.at_ hy
  subst hA
  replace hyk : y.k = 11 := hyk
  rw [hyk] at a0
  obtain ⟨ad', hA', b0, _⟩ := hM.pool.at_ hz
  obtain rfl := Option.some.inj hA'
  rw [hzk] at b0
  have f11 : (S.kind == 11) = false := beq_false_of_ne hS11
  have f11b : (S.kind != 11) = true := bne_iff_ne.2 hS11
  have HS := Lib.hid hS
  clear hA' hzk hS11 hS hz
  have HA := Lib.hid ha
  have HB := Lib.hid hb
  have DA := Lib.hid da
  have DB := Lib.hid db_
  have RA := Lib.hid rra
  have RB := Lib.hid rrb
  have HM := Lib.hid hM
  have WO := Lib.hid wO
  have VL := Lib.hid vL
  have VO := Lib.hid vO
  have HY := Lib.hid hy
  have HYK := Lib.hid hyk
  clear ha hb da db_ rra rrb hM wO vL vO hy hyk
  have la0 : (0 : Int) ≤ (rb : Int) := by omega
  have laI : (rb : Int) < (L.length : Int) := by omega
  have lb0 : (0 : Int) ≤ (ra : Int) := by omega
  have lbI : (ra : Int) < (L.length : Int) := by omega
  by_cases hab : ra = rb
  · subst hab
    exact absurd (DA.out.fn DB.out) (HS.out _)
  · have fq : ((ra : Int) == (rb : Int)) = false := beq_false_of_ne (by omega)
    have HAB := Lib.hid hab
    clear hab
    obtain ⟨i4, fi4, hz0, hz1, hz2⟩ := info_parts bool_info
    obtain ⟨w3, hmk, ho3, hg3⟩ := run_makeSlice_full (P := Tryd.prog) W base 92 4 i4 _ 1 Tryd.underlying92 fi4 hz0 hz1 .i64 .i64 L.length (by omega) (by rw [hz2]; omega) (by unfold maxLen; omega) (by omega)
    rw [made_bools] at ho3
    have HG3 := Lib.hid hg3
    have hs3 : SeenM w3 base W.heap.size L.length (List.replicate L.length false) := ⟨by rw [List.length_replicate]; exact ho3⟩
    have HS3 := Lib.hid hs3
    have HM3 := Lib.hid (HM.out.grownNone hg3)
    have hc := c55 (pb := pb) (A := some ad) (c := c) DB.out RB.out S.size S ra w3 (List.replicate L.length false) (Nat.le_refl _) WO.out HM3.out.pool DA.out hs3 List.length_replicate mark_none
    rw [List.length_replicate] at hc
    have HC := Lib.hid hc
    clear hg3 hs3 hc ho3 hz0 hz1 hz2 fi4
    go_enter Tryd.func48, Tryd.ntmps48
    go_wp2_with fail
    refine (c54 HA.out HM.out.pool).mono ?_
    rintro e _ ⟨rfl, rfl⟩
    go_wp2_with fail
    refine (c54 HB.out HM.out.pool).mono ?_
    rintro e _ ⟨rfl, rfl⟩
    go_wp2_with fail
    refine HC.out.mono ?_
    rintro e w4 ⟨rfl, S4, hs4, _, hg4, _⟩
    have HM4 := Lib.hid (HM3.out.seen HS3.out hg4)
    have HB4 := Lib.hid (show Below base W w4 from ((Below.refl base W).grown HG3.out (by omega) (fun k e => by cases e)).grown hg4 (by have := HG3.out.size; omega) (fun k e => by injection e with e; omega))
    clear hs4 hg4 hmk
    cases ho : occ rb S with
    | true =>
      have HO := Lib.hid ho
      clear ho
      go_wp2_with fail
      go_ret
      refine ⟨false, L, rfl, HB4.out, HM4.out.pool, Same.refl L, fun _ τ => ?_, fun h => (by cases h)⟩
      exact fun e => no_occ HO.out (HS.out _) τ e.symm
    | false =>
      have HO := Lib.hid ho
      clear ho
      obtain ⟨h5, f5, g5⟩ := HM4.out.pool.setS HY.out (ra : Int)
      obtain ⟨m5, c5⟩ := HM4.out.bound HY.out HYK.out DB.out RB.out DA.out HO.out
      have H5 := Lib.hid h5
      have G5 := Lib.hid g5
      have M5 := Lib.hid m5
      have C5 := Lib.hid c5
      have p4 := HM4.out.pool.cell
      obtain ⟨ad5, hA5, _, _, _, _, a5⟩ := HM4.out.pool.at_ HY.out
      obtain rfl := Option.some.inj hA5
      clear h5 g5 m5 c5 hA5 p0 a0 b0
      go_wp2_with fail
      go_ret
      refine ⟨true, _, rfl, ?_, H5.out, Same.set HY.out _, fun h => (by cases h), fun _ => ⟨bind1 rb S, D, (Mgu.bind HO.out).symm, M5.out, C5.out, WfS.bind WO.out, Fewer.bind VL.out VO.out HO.out, fun p hp => .inl hp⟩⟩
      exact HB4.out.grown G5.out (by have := HB4.out.size; omega) (fun k e => by
        injection e with e
        have := own_base HM4.out.pool.own k (by rw [ownBlock_eq]; show some ad.block = some k; rw [e])
        exact this)
end Go.Proofs.YtcilodgpbdafeaaDoor
