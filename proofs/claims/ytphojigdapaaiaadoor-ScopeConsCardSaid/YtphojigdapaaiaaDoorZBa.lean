/- Trees as data, and what they are in memory; keep.LargeTree. -/
import Derived.Test.YtphojigdapaaiaaDoorGen
import Derived.Test.YtphojigdapaaiaaDoorRLast
import Derived.Deep.CutRange
import Derived.StillTailTactics
import Derived.Deep.QuietTactic
import Derived.BigQuiet
import Derived.Laws.ResultCell
import Derived.Laws.BytesArg
import Derived.ChangeKeysEq
import Derived.Test.YtphojigdapaaiaaDoorSHp
namespace Go.Proofs.YtphojigdapaaiaaDoor
open Go.ChangeShapes Go.WideShapes Go.ChangeAt Go.RowKit
set_option linter.unusedVariables false
set_option linter.unusedSimpArgs false
structure Nod where
  k : Int
  t : List UInt8
  t2 : List UInt8
  n : Int
  a : Int
  b : Int
  c : Int
  h : Int
def nodC (x : Nod) : List Value := [.int .i64 x.k, strV x.t, strV x.t2, .int .i64 x.n, .int .i64 x.a, .int .i64 x.b, .int .i64 x.c, .int .i64 x.h]
structure Tre where
  l : List Nod
  y : List Int
  r : Int
def intV (n : Int) : Value := .int .i64 n
structure TreIs (w : World) (A A' : Option Addr) (t : Tre) : Prop where
  nodes : Reads w w.heap.size 8 A t.l.length (t.l.flatMap nodC)
  types : Reads w w.heap.size 1 A' t.y.length (t.y.map intV)
abbrev treV (A : Option Addr) (c : Nat) (A' : Option Addr) (c' : Nat) (t : Tre) : Value := .agg #[.slice A t.l.length c, .slice A' t.y.length c', .int .i64 t.r]
theorem TreIs.next {w w' : World} {A A' : Option Addr} {t : Tre} (h : TreIs w A A' t) (hb : Below w.heap.size w w') : TreIs w' A A' t := by
  exact ⟨(Reads.below h.nodes hb).more hb.size, (Reads.below h.types hb).more hb.size⟩
theorem Reads.nodAt {w : World} {B n : Nat} {A : Option Addr} {l : List Nod} (h : Reads w B 8 A n (l.flatMap nodC)) {k : Nat} {p : Nod} (hk : l[k]? = some p) :
    ∃ ad, A = some ad ∧ ad.block < B ∧ ∀ j v, (nodC p)[j]? = some v → w.cell? ((ad.add (k * 8)).add j) = some v :=
  Reads.rowAt (f := nodC) (m := 8) (fun _ => rfl) h (by decide) hk
theorem strV_size (t : List UInt8) : (⟨t.toArray⟩ : ByteArray).size = t.length := by
  show t.toArray.size = _
  simp
def wgt (p : Nod) : Nat := 1 + min p.t.length 3000 + min p.t2.length 3000
def bulk (l : List Nod) : Nat := (l.map wgt).sum
theorem bulk_snoc (l : List Nod) (p : Nod) : bulk (l ++ [p]) = bulk l + wgt p := by
  unfold bulk
  rw [List.map_append, List.sum_append]
  simp
theorem bulk_mem {l : List Nod} {p : Nod} (hp : p ∈ l) : wgt p ≤ bulk l := by
  induction l with
  | nil => cases hp
  | cons q l ih =>
    have e : bulk (q :: l) = wgt q + bulk l := by unfold bulk; rw [List.map_cons, List.sum_cons]
    rw [e]
    rcases List.mem_cons.1 hp with rfl | hp
    · omega
    · have := ih hp; omega
structure Sml (t : Tre) : Prop where
  nodes : t.l.length ≤ 800
  types : t.y.length ≤ 800
  txt : ∀ p ∈ t.l, p.t.length ≤ 3000 ∧ p.t2.length ≤ 3000
theorem Sml.of {t : Tre} (h : bulk t.l ≤ 3000) (h1 : t.l.length ≤ 800) (h2 : t.y.length ≤ 800) : Sml t := ⟨h1, h2, fun p hp => by
  have := bulk_mem hp
  unfold wgt at this
  omega⟩
section
variable {P : Program}
theorem run_loadVar_at (w : World) (ad : Addr) (ty : TypeId) (cs : List Value) (d : TypeDesc) (hc : ∀ j v, cs[j]? = some v → w.cell? (ad.add j) = some v)
    (hu : P.underlying ty = some d) (hd : (match d with | .struct _ | .array _ _ => true | _ => false) = true) (hi : (P.info? ty).map (·.size) = some cs.length) :
    (loadVar ty ad).run P w = .ok (.agg cs.toArray) w := by
  have hl : (loadCells ad cs.length).run P w = .ok cs.toArray w := run_loadCells_list (P := P) w ad cs hc
  cases hq : P.info? ty with
  | none => simp [hq] at hi
  | some i =>
    have hs : i.size = cs.length := by simpa [hq] using hi
    have hagg : (isAgg ty).run P w = .ok true w := by
      unfold isAgg
      rw [Sem.run_bind, run_underlying hu w]
      cases d <;> simp_all
    simp [loadVar, Sem.run_bind, hagg, sizeOf, typeInfo, hq, hs, hl]
theorem wpList_load_at {ops : Array Oper} {rest : List Oper} {op : Oper} {a : Act} {w : World} {Q : Exit → Act → World → Prop} (hgd : op.guard = none) (ty : TypeId) (x : Operand) (ho : op.op = .load ty x)
    (ad : Addr) (hx : a.eval x = .pointer (some ad)) (cs : List Value) (d : TypeDesc) (hc : ∀ j v, cs[j]? = some v → w.cell? (ad.add j) = some v)
    (hu : P.underlying ty = some d) (hd : (match d with | .struct _ | .array _ _ => true | _ => false) = true) (hi : (P.info? ty).map (·.size) = some cs.length)
    (h : wpList P ops Q rest (a.put op.dst (.agg cs.toArray)) w) : wpList P ops Q (op :: rest) a w :=
  wpList_plain hgd fun K hK => by
    unfold Oper.wp execOp
    simp only [ho, hx, Instr.loadAt, Instr.sureAddr, Sem.run_bind, Sem.run_pure, Result.andThen_ok, run_loadVar_at w ad ty cs d hc hu hd hi]
    exact hK _ _ h
end
theorem own_new (w : World) {b n : Nat} {e : TypeId} {s : Nat} {xs : List Value} (hb : b ≤ w.heap.size) (hn : xs.length = n * s) (hm : n ≤ maxLen) :
    (w.alloc (.cells xs.toArray e)).ownsRow b e s (.slice (some ⟨w.heap.size, 0, none⟩) n n) n xs :=
  ⟨hn, .inr ⟨w.heap.size, n, xs.toArray, rfl, hb, heap_alloc_new w _, Nat.le_refl _, hm, by simpa using hn, by rw [List.take_of_length_le (by simp [hn])]⟩⟩
theorem bulk_step {l : List Nod} {k : Nat} {p : Nod} (h : l[k]? = some p) : bulk (l.take (k + 1)) = bulk (l.take k) + wgt p := by
  rw [List.take_add_one, h, show (some p).toList = [p] from rfl, bulk_snoc]
theorem wgt_le (p : Nod) : wgt p ≤ 6001 := by unfold wgt; omega
def LargeEnd (t : Tre) (W : World) (e : Ending) (W' : World) : Prop := ∃ r, e = .returned (.bool r) ∧ (r = false → Sml t) ∧ Below W.heap.size W W'
theorem LargeEnd.yes {t : Tre} {W W' : World} (hb : Below W.heap.size W W') : LargeEnd t W (.returned (.bool true)) W' := ⟨true, rfl, fun h => (by cases h), hb⟩
theorem LargeEnd.no {t : Tre} {W W' : World} (h : Sml t) (hb : Below W.heap.size W W') : LargeEnd t W (.returned (.bool false)) W' := ⟨false, rfl, fun _ => h, hb⟩
set_option maxRecDepth 100000 in
set_option maxHeartbeats 4000000 in
theorem c6 (t : Tre) (A A' : Option Addr) (c c' : Nat) (W : World) (ht : TreIs W A A' t) (hx : ∀ p ∈ t.l, p.t.length ≤ 281474976710656 ∧ p.t2.length ≤ 281474976710656) (hl : t.l.length ≤ 281474976710656) (hy : t.y.length ≤ 281474976710656) :
    Calls Tryd.prog 6 #[treV A c A' c' t] W (LargeEnd t W) := by
  have HT := Lib.hid ht
  have HX1 := Lib.hid hx
  clear ht hx
  show Calls Tryd.prog 6 #[.agg #[.slice A t.l.length c, .slice A' t.y.length c', .int .i64 t.r]] W _
  have HX0 := Lib.hid (Blk.new W 25 #[.slice A t.l.length c, .slice A' t.y.length c', .int .i64 t.r])
  have HB0 := Lib.hid (below_new W (.cells #[.slice A t.l.length c, .slice A' t.y.length c', .int .i64 t.r] 25))
  go_enter Tryd.func6, Tryd.ntmps6
  go_wp2_with fail
  generalize W.alloc (.cells #[.slice A t.l.length c, .slice A' t.y.length c', .int .i64 t.r] 25) = W0 at HX0 HB0 ⊢
  generalize hxb : W.heap.size = xb at HX0 ⊢
  have HXB := Lib.hid hxb
  clear hxb
  go_loopw [3, 4] (fun n i wr => ∃ k : Nat, k ≤ t.l.length ∧ i = .int .i64 k ∧ n = .int .i64 ((bulk (t.l.take k) : Nat) : Int) ∧ bulk (t.l.take k) ≤ 9002 ∧ Below W0.heap.size W0 wr) (fun _ i _ => t.l.length - (intOf i).toNat)
  case atStart => exact ⟨0, by omega, rfl, rfl, by simp [bulk], Below.refl _ _⟩
  case round =>
    obtain ⟨k, hk, rfl, rfl, hbk, hb⟩ := hrel
    generalize hq : bulk (t.l.take k) = q at hbk
    have HQ := Lib.hid hq
    have HB := Lib.hid hb
    have HX := Lib.hid (HX0.out.next hb)
    have x0 : wr.cell? ⟨xb, 0, none⟩ = some (.slice A t.l.length c) := HX.out.cell 0
    clear hq hb
    by_cases hlt : k < t.l.length
    · have hlk : (k : Int) < (t.l.length : Int) := by omega
      have hk0 : (0 : Int) ≤ (k : Int) := by omega
      by_cases hq3 : q ≤ 3000
      · have hq3' : (q : Int) ≤ 3000 := by omega
        have hpk : t.l[k]? = some t.l[k] := List.getElem?_eq_getElem hlt
        have HBW := Lib.hid (next_ HB0.out HB.out)
        obtain ⟨ad, rfl, _, hcs⟩ := (HT.out.next HBW.out).nodes.nodAt hpk
        have hpx := HX1.out _ (List.getElem_mem hlt)
        have hsn := bulk_step hpk
        rw [HQ.out] at hsn
        generalize t.l[k] = p at hcs hpx hsn
        have a1 : wr.cell? ⟨(ad.add (k * 8)).block, (ad.add (k * 8)).off + 1, none⟩ = some (strV p.t) := hcs 1 _ rfl
        have a2 : wr.cell? ⟨(ad.add (k * 8)).block, (ad.add (k * 8)).off + 2, none⟩ = some (strV p.t2) := hcs 2 _ rfl
        obtain ⟨t1, h1⟩ : ∃ n, n = p.t.length := ⟨_, rfl⟩
        obtain ⟨t2, h2⟩ : ∃ n, n = p.t2.length := ⟨_, rfl⟩
        have s1 := strV_size p.t
        have s2 := strV_size p.t2
        rw [← h1] at s1 hpx
        rw [← h2] at s2 hpx
        obtain ⟨hp1, hp2⟩ := hpx
        have hsn' : bulk (t.l.take (k + 1)) = q + (1 + min t1 3000 + min t2 3000) := by rw [hsn]; unfold wgt; rw [h1, h2]
        obtain ⟨m1, hm1⟩ : ∃ m, m = min t1 3000 := ⟨_, rfl⟩
        obtain ⟨m2, hm2⟩ : ∃ m, m = min t2 3000 := ⟨_, rfl⟩
        rw [← hm1, ← hm2] at hsn'
        have g1 : (if (3000 : Int) < (t1 : Int) then (3000 : Int) else (t1 : Int)) = (m1 : Int) := by split <;> omega
        have g2 : (if (3000 : Int) < (t2 : Int) then (3000 : Int) else (t2 : Int)) = (m2 : Int) := by split <;> omega
        have hm1' : m1 ≤ 3000 := by omega
        have hm2' : m2 ≤ 3000 := by omega
        have HSN := Lib.hid hsn'
        have HM := Lib.hid (show m1 ≤ 3000 ∧ m2 ≤ 3000 ∧ k < t.l.length ∧ q ≤ 3000 from ⟨hm1', hm2', hlt, hq3⟩)
        clear hsn hsn' hcs hpk h1 h2 hm1 hm2
        go_upto_region 5 with fail
        go_quiet (fail)
        have hb := below_drewN HB.out nq
        generalize wr.drewN nq = w3 at hb ⊢
        have HB := Lib.hid hb
        clear hb
        go_wp2_with fail
        go_roundw
        case rel =>
          have h1 := HSN.out
          have h2 := HM.out
          refine ⟨k + 1, by omega, by go_num, ?_, by rw [h1]; omega, HB.out⟩
          rw [h1]
          go_num
        case measure => have := HM.out; simp [intOf]; omega
      · have hq3' : ¬ ((q : Int) ≤ 3000) := by omega
        have hq4 : (3000 : Int) < (q : Int) := by omega
        go_wp2_with fail
        go_ret
        exact LargeEnd.yes (next_ HB0.out HB.out)
    · obtain rfl : k = t.l.length := by omega
      have hlk : ¬ ((t.l.length : Int) < (t.l.length : Int)) := by omega
      rw [List.take_length] at HQ
      have HBZ := Lib.hid (next_ HB0.out HB.out)
      have x1 : wr.cell? ⟨xb, 1, none⟩ = some (.slice A' t.y.length c') := HX.out.cell 1
      clear hlt hk
      by_cases h3 : 3000 < q
      · have h3' : (3000 : Int) < (q : Int) := by omega
        go_wp2_with fail
        go_ret
        exact LargeEnd.yes HBZ.out
      · have h3' : ¬ ((3000 : Int) < (q : Int)) := by omega
        by_cases h4 : 800 < t.l.length
        · have h4' : (800 : Int) < (t.l.length : Int) := by omega
          go_wp2_with fail
          go_ret
          exact LargeEnd.yes HBZ.out
        · have h4' : ¬ ((800 : Int) < (t.l.length : Int)) := by omega
          by_cases h5 : 800 < t.y.length
          · have h5' : (800 : Int) < (t.y.length : Int) := by omega
            go_wp2_with fail
            go_ret
            exact LargeEnd.yes HBZ.out
          · have h5' : ¬ ((800 : Int) < (t.y.length : Int)) := by omega
            have HS := Lib.hid (Sml.of (t := t) (by rw [HQ.out]; omega) (by omega) (by omega))
            go_wp2_with fail
            go_ret
            exact LargeEnd.no HS.out HBZ.out
def inB (a b v : Int) : Bool := decide (a ≤ v) && decide (v ≤ b)
set_option maxRecDepth 100000 in
set_option maxHeartbeats 4000000 in
theorem c87 (a b v : Int) (w : World) : Calls Tryd.prog 87 #[.agg #[.int .i64 a, .int .i64 b], .int .i64 v] w fun e w' => e = .returned (.bool (inB a b v)) ∧ Below w.heap.size w w' := by
  by_cases h1 : a ≤ v
  · by_cases h2 : v ≤ b
    · have H := Lib.hid (show inB a b v = true by simp [inB, h1, h2])
      go_enter Tryd.func87, Tryd.ntmps87
      go_wp2_with fail
      go_ret
      exact ⟨by rw [H.out]; rfl, below_new w _⟩
    · have H := Lib.hid (show inB a b v = false by simp [inB, h1, h2])
      go_enter Tryd.func87, Tryd.ntmps87
      go_wp2_with fail
      go_ret
      exact ⟨by rw [H.out]; rfl, below_new w _⟩
  · have H := Lib.hid (show inB a b v = false by simp [inB, h1])
    go_enter Tryd.func87, Tryd.ntmps87
    go_wp2_with fail
    go_ret
    exact ⟨by rw [H.out]; rfl, below_new w _⟩
def OpTab (w : World) : Prop := 1 < w.heap.size ∧ ∀ i : Nat, i < 38 → ∃ (nm : ByteArray) (a1 a2 b1 b2 tk lv : Int), ∀ j v, ([.string nm, .int .i64 a1, .int .i64 a2, .int .i64 b1, .int .i64 b2, .int .i64 tk, .int .i64 lv] : List Value)[j]? = some v → w.cell? (((⟨1, 0, none⟩ : Addr).add (i * 7)).add j) = some v
theorem OpTab.next {w w' : World} (h : OpTab w) (hb : Below w.heap.size w w') : OpTab w' := by
  refine ⟨Nat.lt_of_lt_of_le h.1 hb.size, fun i hi => ?_⟩
  obtain ⟨nm, a1, a2, b1, b2, tk, lv, hc⟩ := h.2 i hi
  exact ⟨nm, a1, a2, b1, b2, tk, lv, fun j v hj => (hb.cell (by rw [block_of_add, block_of_add]; exact h.1)).trans (hc j v hj)⟩
def BoolEnd (w : World) (e : Ending) (w' : World) : Prop := ∃ r, e = .returned (.bool r) ∧ Below w.heap.size w w'
set_option maxRecDepth 100000 in
set_option maxHeartbeats 4000000 in
theorem c80 (o : Nat) (h1 : o < 38) (h2 : o ≠ 36) (w : World) (ht : OpTab w) : Calls Tryd.prog 80 #[.agg #[.int .i64 (o : Int), .int .i64 0, .int .i64 0]] w (BoolEnd w) := by
  have HT := Lib.hid ht
  have f1 : ¬ ((o : Int) < 0) := by omega
  have f0 : (0 : Int) ≤ (o : Int) := by omega
  have f2 : ¬ (38 : Int) ≤ (o : Int) := by omega
  have f4 : (o : Int) < 38 := by omega
  have f3 : ((o : Int) == 36) = false := beq_false_of_ne (by omega)
  have hb := below_new w (.cells #[.int .i64 (o : Int), .int .i64 0, .int .i64 0] 103)
  obtain ⟨nm, a1, a2, b1, b2, tk, lv, hc⟩ := (ht.next hb).2 o h1
  rw [show (⟨1, 0, none⟩ : Addr).add (o * 7) = ⟨1, o * 7, none⟩ by simp [Addr.add]; try omega] at hc
  have HC := Lib.hid hc
  clear hc ht hb
  go_enter Tryd.func80, Tryd.ntmps80
  go_upto_region 4 with (first | (refine wpList_load_at rfl 130 (.tmp 14) rfl ⟨1, o * 7, none⟩ rfl [.string nm, .int .i64 a1, .int .i64 a2, .int .i64 b1, .int .i64 b2, .int .i64 tk, .int .i64 lv] _ HC.out Tryd.underlying130 rfl (by kernel_rfl) ?_))
  go_wp2_with fail
  have hX := (Blk.new w 103 #[.int .i64 (o : Int), .int .i64 0, .int .i64 0]).alloc (.cells #[.string nm, .int .i64 a1, .int .i64 a2, .int .i64 b1, .int .i64 b2, .int .i64 tk, .int .i64 lv] 130)
  have hR := Blk.new (w.alloc (.cells #[.int .i64 (o : Int), .int .i64 0, .int .i64 0] 103)) 130 #[.string nm, .int .i64 a1, .int .i64 a2, .int .i64 b1, .int .i64 b2, .int .i64 tk, .int .i64 lv]
  rw [World.size_alloc] at hR
  have hb := (below_new w (.cells #[.int .i64 (o : Int), .int .i64 0, .int .i64 0] 103)).alloc (by rw [World.size_alloc]; omega) (.cells #[.string nm, .int .i64 a1, .int .i64 a2, .int .i64 b1, .int .i64 b2, .int .i64 tk, .int .i64 lv] 130)
  refine (c87 _ _ _ _).mono ?_
  rintro e w2 ⟨rfl, hb2⟩
  have HX := Lib.hid (hX.next hb2)
  have HR := Lib.hid (hR.next hb2)
  have HB := Lib.hid (next_ hb hb2)
  clear hX hR hb hb2
  generalize w.heap.size + 1 = rb at HR ⊢
  generalize hxb : w.heap.size = xb at HX ⊢
  have HXB := Lib.hid hxb
  clear hxb
  have x1 : w2.cell? ⟨xb, 2, none⟩ = some (.int .i64 0) := HX.out.cell 2
  have r1 : w2.cell? ⟨rb, 3, none⟩ = some (.int .i64 b1) := HR.out.cell 3
  have r2 : w2.cell? ⟨rb, 4, none⟩ = some (.int .i64 b2) := HR.out.cell 4
  cases inB a1 a2 0 with
  | false =>
    go_wp2_with fail
    go_ret
    exact ⟨false, rfl, HB.out⟩
  | true =>
    go_wp2_with fail
    refine (c87 _ _ _ _).mono ?_
    rintro e w3 ⟨rfl, hb3⟩
    have HB3 := Lib.hid (next_ HB.out hb3)
    clear hb3
    generalize inB b1 b2 0 = ib
    go_wp2_with fail
    go_ret
    exact ⟨ib, rfl, HB3.out⟩
structure OpRow where
  nm : ByteArray
  a1 : Int
  a2 : Int
  b1 : Int
  b2 : Int
  tk : Int
  lv : Int
def opC (r : OpRow) : List Value := [.string r.nm, .int .i64 r.a1, .int .i64 r.a2, .int .i64 r.b1, .int .i64 r.b2, .int .i64 r.tk, .int .i64 r.lv]
def OpIs (tab : Nat → OpRow) (w : World) : Prop := 1 < w.heap.size ∧ ∀ i : Nat, i < 38 → ∀ j v, (opC (tab i))[j]? = some v → w.cell? (((⟨1, 0, none⟩ : Addr).add (i * 7)).add j) = some v
theorem OpIs.next {tab : Nat → OpRow} {w w' : World} (h : OpIs tab w) (hb : Below w.heap.size w w') : OpIs tab w' :=
  ⟨Nat.lt_of_lt_of_le h.1 hb.size, fun i hi j v hj => (hb.cell (by rw [block_of_add, block_of_add]; exact h.1)).trans (h.2 i hi j v hj)⟩
theorem OpTab.rows {w : World} (h : OpTab w) : ∃ tab, OpIs tab w := by
  have h2 : ∀ i : Nat, ∃ r : OpRow, i < 38 → ∀ j v, (opC r)[j]? = some v → w.cell? (((⟨1, 0, none⟩ : Addr).add (i * 7)).add j) = some v := fun i => by
    by_cases hi : i < 38
    · obtain ⟨nm, a1, a2, b1, b2, tk, lv, hc⟩ := h.2 i hi
      exact ⟨⟨nm, a1, a2, b1, b2, tk, lv⟩, fun _ => hc⟩
    · exact ⟨⟨⟨#[]⟩, 0, 0, 0, 0, 0, 0⟩, fun h => absurd h hi⟩
  exact ⟨fun i => (h2 i).choose, h.1, fun i hi => (h2 i).choose_spec hi⟩
def opGood (r : OpRow) : Bool := inB r.a1 r.a2 0 && inB r.b1 r.b2 0
def effT (tab : Nat → OpRow) (o : Nat) : Int := if opGood (tab o) then (tab o).tk else 0
set_option maxRecDepth 100000 in
set_option maxHeartbeats 4000000 in
theorem x80 {tab : Nat → OpRow} (o : Nat) (h1 : o < 38) (h2 : o ≠ 36) (w : World) (ht : OpIs tab w) : Calls Tryd.prog 80 #[.agg #[.int .i64 (o : Int), .int .i64 0, .int .i64 0]] w (fun e w' => e = .returned (.bool (opGood (tab o))) ∧ Below w.heap.size w w') := by
  have HT := Lib.hid ht
  have f1 : ¬ ((o : Int) < 0) := by omega
  have f0 : (0 : Int) ≤ (o : Int) := by omega
  have f2 : ¬ (38 : Int) ≤ (o : Int) := by omega
  have f4 : (o : Int) < 38 := by omega
  have f3 : ((o : Int) == 36) = false := beq_false_of_ne (by omega)
  have hb := below_new w (.cells #[.int .i64 (o : Int), .int .i64 0, .int .i64 0] 103)
  have hc := (ht.next hb).2 o h1
  have HOG := Lib.hid (show opGood (tab o) = (inB (tab o).a1 (tab o).a2 0 && inB (tab o).b1 (tab o).b2 0) from rfl)
  generalize tab o = ro at hc HOG ⊢
  obtain ⟨nm, a1, a2, b1, b2, tk, lv⟩ := ro
  replace HOG := Lib.hid (show opGood ⟨nm, a1, a2, b1, b2, tk, lv⟩ = (inB a1 a2 0 && inB b1 b2 0) from HOG.out)
  simp only [opC] at hc
  rw [show (⟨1, 0, none⟩ : Addr).add (o * 7) = ⟨1, o * 7, none⟩ by simp [Addr.add]; try omega] at hc
  have HC := Lib.hid hc
  clear hc ht hb
  go_enter Tryd.func80, Tryd.ntmps80
  go_upto_region 4 with (first | (refine wpList_load_at rfl 130 (.tmp 14) rfl ⟨1, o * 7, none⟩ rfl [.string nm, .int .i64 a1, .int .i64 a2, .int .i64 b1, .int .i64 b2, .int .i64 tk, .int .i64 lv] _ HC.out Tryd.underlying130 rfl (by kernel_rfl) ?_))
  go_wp2_with fail
  have hX := (Blk.new w 103 #[.int .i64 (o : Int), .int .i64 0, .int .i64 0]).alloc (.cells #[.string nm, .int .i64 a1, .int .i64 a2, .int .i64 b1, .int .i64 b2, .int .i64 tk, .int .i64 lv] 130)
  have hR := Blk.new (w.alloc (.cells #[.int .i64 (o : Int), .int .i64 0, .int .i64 0] 103)) 130 #[.string nm, .int .i64 a1, .int .i64 a2, .int .i64 b1, .int .i64 b2, .int .i64 tk, .int .i64 lv]
  rw [World.size_alloc] at hR
  have hb := (below_new w (.cells #[.int .i64 (o : Int), .int .i64 0, .int .i64 0] 103)).alloc (by rw [World.size_alloc]; omega) (.cells #[.string nm, .int .i64 a1, .int .i64 a2, .int .i64 b1, .int .i64 b2, .int .i64 tk, .int .i64 lv] 130)
  refine (c87 _ _ _ _).mono ?_
  rintro e w2 ⟨rfl, hb2⟩
  have HX := Lib.hid (hX.next hb2)
  have HR := Lib.hid (hR.next hb2)
  have HB := Lib.hid (next_ hb hb2)
  clear hX hR hb hb2
  generalize w.heap.size + 1 = rb at HR ⊢
  generalize hxb : w.heap.size = xb at HX ⊢
  have HXB := Lib.hid hxb
  clear hxb
  have x1 : w2.cell? ⟨xb, 2, none⟩ = some (.int .i64 0) := HX.out.cell 2
  have r1 : w2.cell? ⟨rb, 3, none⟩ = some (.int .i64 b1) := HR.out.cell 3
  have r2 : w2.cell? ⟨rb, 4, none⟩ = some (.int .i64 b2) := HR.out.cell 4
  cases hia : inB a1 a2 0 with
  | false =>
    replace HOG := Lib.hid (HOG.out.trans (show (inB a1 a2 0 && inB b1 b2 0) = false by rw [hia]; rfl))
    clear hia
    go_wp2_with fail
    go_ret
    exact ⟨by rw [HOG.out]; rfl, HB.out⟩
  | true =>
    replace HOG := Lib.hid (HOG.out.trans (show (inB a1 a2 0 && inB b1 b2 0) = inB b1 b2 0 by rw [hia]; rfl))
    clear hia
    go_wp2_with fail
    refine (c87 _ _ _ _).mono ?_
    rintro e w3 ⟨rfl, hb3⟩
    have HB3 := Lib.hid (next_ HB.out hb3)
    clear hb3
    generalize inB b1 b2 0 = ib at HOG ⊢
    go_wp2_with fail
    go_ret
    exact ⟨by rw [HOG.out]; rfl, HB3.out⟩
def EffX (tab : Nat → OpRow) (o : Nat) (w : World) (e : Ending) (w' : World) : Prop := ∃ (b : Int) (r : Bool), e = .returned (.tuple #[.int .i64 (effT tab o), .int .i64 b, .bool r]) ∧ Below w.heap.size w w'
set_option maxRecDepth 100000 in
set_option maxHeartbeats 4000000 in
theorem x73 {tab : Nat → OpRow} (o : Nat) (h1 : o < 38) (h2 : o ≠ 36) (h3 : o ≠ 6) (h4 : o ≠ 19) (w : World) (ht : OpIs tab w) : Calls Tryd.prog 73 #[.agg #[.int .i64 (o : Int), .int .i64 0, .int .i64 0]] w (EffX tab o w) := by
  have HT := Lib.hid ht
  have f0 : (0 : Int) ≤ (o : Int) := by omega
  have f4 : (o : Int) < 38 := by omega
  have f3 : ((o : Int) == 36) = false := beq_false_of_ne (by omega)
  have f6 : ((o : Int) == 6) = false := beq_false_of_ne (by omega)
  have f9 : ((o : Int) == 19) = false := beq_false_of_ne (by omega)
  have hb := below_new w (.cells #[.int .i64 (o : Int), .int .i64 0, .int .i64 0] 103)
  have HC := Lib.hid (x80 o h1 h2 _ (ht.next hb))
  have HX := Lib.hid (Blk.new w 103 #[.int .i64 (o : Int), .int .i64 0, .int .i64 0])
  have HB := Lib.hid hb
  have H1 := Lib.hid h1
  clear ht hb h1 h2 h3 h4
  go_enter Tryd.func73, Tryd.ntmps73
  go_wp2_with fail
  refine HC.out.mono ?_
  rintro e w2 ⟨rfl, hb2⟩
  have HB2 := Lib.hid (next_ HB.out hb2)
  have HX2 := Lib.hid (HX.out.next hb2)
  clear hb2 HC HX
  generalize hxb : w.heap.size = xb at HX2 ⊢
  have x0 : w2.cell? ⟨xb, 0, none⟩ = some (.int .i64 (o : Int)) := HX2.out.cell 0
  cases hg : opGood (tab o) with
  | false =>
    have HE := Lib.hid (show effT tab o = 0 by unfold effT; rw [hg]; rfl)
    clear hg
    go_wp2_with fail
    go_ret3
    exact ⟨0, false, by rw [HE.out]; rfl, HB2.out⟩
  | true =>
    have HE := Lib.hid (show effT tab o = (tab o).tk by unfold effT; rw [hg]; rfl)
    clear hg
    go_upto_region 3 with fail
    have hc := (HT.out.next HB2.out).2 o H1.out
    generalize hro : tab o = ro at hc
    obtain ⟨nm, a1, a2, b1, b2, tk, lv⟩ := ro
    replace HE := Lib.hid (show effT tab o = tk by rw [HE.out, hro])
    clear hro
    simp only [opC] at hc
    rw [show (⟨1, 0, none⟩ : Addr).add (o * 7) = ⟨1, o * 7, none⟩ by simp [Addr.add]; try omega] at hc
    have HC := Lib.hid hc
    have HR := Lib.hid (Blk.new w2 130 #[.string nm, .int .i64 a1, .int .i64 a2, .int .i64 b1, .int .i64 b2, .int .i64 tk, .int .i64 lv])
    have HX3 := Lib.hid (HX2.out.next (below_new w2 (.cells #[.string nm, .int .i64 a1, .int .i64 a2, .int .i64 b1, .int .i64 b2, .int .i64 tk, .int .i64 lv] 130)))
    have HB3 := Lib.hid (next_ HB2.out (below_new w2 (.cells #[.string nm, .int .i64 a1, .int .i64 a2, .int .i64 b1, .int .i64 b2, .int .i64 tk, .int .i64 lv] 130)))
    clear hc
    go_upto_region 4 with (first | (refine wpList_load_at rfl 130 (.tmp 11) rfl ⟨1, o * 7, none⟩ rfl [.string nm, .int .i64 a1, .int .i64 a2, .int .i64 b1, .int .i64 b2, .int .i64 tk, .int .i64 lv] _ HC.out Tryd.underlying130 rfl (by kernel_rfl) ?_))
    clear x0
    generalize w2.alloc (.cells #[.string nm, .int .i64 a1, .int .i64 a2, .int .i64 b1, .int .i64 b2, .int .i64 tk, .int .i64 lv] 130) = w3 at HR HX3 HB3 ⊢
    generalize w2.heap.size = rb at HR ⊢
    have x0 : w3.cell? ⟨xb, 0, none⟩ = some (.int .i64 (o : Int)) := HX3.out.cell 0
    have r3 : w3.cell? ⟨rb, 5, none⟩ = some (.int .i64 tk) := HR.out.cell 5
    have r4 : w3.cell? ⟨rb, 6, none⟩ = some (.int .i64 lv) := HR.out.cell 6
    go_wp2_with fail
    go_quiet (fail)
    have hb := below_drewN HB3.out nq
    have HB4 := Lib.hid hb
    clear hb
    go_wp2_with fail
    go_ret3
    exact ⟨lv, true, by rw [HE.out]; rfl, HB4.out⟩
structure RowA where
  is_ : Int
  a : Int
  b : Int
  c : Int
  text : Int
  second : Int
  lo : Int
  hi : Int
def rowC (r : RowA) : List Value := [.int .u8 r.is_, .int .u8 r.a, .int .u8 r.b, .int .u8 r.c, .int .i64 r.text, .int .i64 r.second, .int .i64 r.lo, .int .i64 r.hi]
def rowsL : List RowA := [
  ⟨0, 0, 0, 0, 0, 0, 0, 0⟩,
  ⟨101, 0, 0, 0, 0, 0, 0, 4611686018427387903⟩,
  ⟨101, 0, 0, 0, 0, 0, 0, 1⟩,
  ⟨101, 0, 0, 0, 0, 0, 0, 0⟩,
  ⟨101, 0, 0, 0, 4, 0, 0, 0⟩,
  ⟨101, 0, 0, 0, 1, 0, 0, 0⟩,
  ⟨101, 69, 0, 0, 3, 0, 0, 0⟩,
  ⟨101, 0, 0, 0, 0, 0, 0, 0⟩,
  ⟨101, 101, 101, 0, 0, 0, 0, 0⟩,
  ⟨101, 101, 101, 0, 0, 0, 0, 0⟩,
  ⟨101, 101, 0, 0, 2, 0, 0, 0⟩,
  ⟨101, 101, 101, 0, 0, 0, 0, 0⟩,
  ⟨101, 101, 101, 0, 2, 0, 0, 0⟩,
  ⟨101, 101, 101, 0, 1, 1, 0, 0⟩,
  ⟨101, 101, 101, 101, 0, 0, 0, 0⟩,
  ⟨101, 101, 101, 0, 0, 0, 0, 38⟩,
  ⟨101, 101, 101, 0, 0, 0, 0, 0⟩,
  ⟨101, 101, 101, 0, 0, 0, 0, 0⟩,
  ⟨101, 101, 99, 0, 0, 0, 0, 0⟩,
  ⟨99, 112, 101, 67, 0, 0, 0, 0⟩,
  ⟨101, 101, 0, 0, 0, 0, 0, 0⟩,
  ⟨101, 101, 101, 0, 1, 0, 0, 0⟩,
  ⟨101, 101, 0, 0, 0, 0, 0, 0⟩,
  ⟨101, 101, 0, 0, 0, 0, 0, 0⟩,
  ⟨101, 101, 69, 69, 0, 0, 0, 38⟩,
  ⟨101, 69, 69, 0, 0, 0, 0, 3⟩,
  ⟨112, 0, 0, 0, 0, 0, 0, 0⟩,
  ⟨112, 0, 0, 0, 1, 0, 0, 0⟩,
  ⟨112, 0, 0, 0, 0, 0, -4611686018427387903, 4611686018427387903⟩,
  ⟨112, 0, 0, 0, 0, 0, 0, 1⟩,
  ⟨112, 0, 0, 0, 0, 0, 0, 0⟩,
  ⟨112, 0, 0, 0, 0, 0, 0, 0⟩,
  ⟨112, 112, 112, 0, 0, 0, 0, 0⟩,
  ⟨112, 112, 112, 0, 0, 0, 0, 0⟩,
  ⟨112, 80, 0, 0, 3, 0, 0, 0⟩,
  ⟨116, 0, 0, 0, 0, 0, 0, 0⟩,
  ⟨116, 0, 0, 0, 0, 0, 0, 0⟩,
  ⟨116, 0, 0, 0, 0, 0, 0, 0⟩,
  ⟨116, 0, 0, 0, 0, 0, 0, 0⟩,
  ⟨116, 0, 0, 0, 1, 0, 0, 0⟩,
  ⟨116, 116, 0, 0, 0, 0, 0, 0⟩,
  ⟨116, 116, 116, 0, 0, 0, 0, 0⟩,
  ⟨0, 107, 0, 0, 1, 0, 0, 0⟩,
  ⟨107, 84, 75, 0, 3, 0, 0, 0⟩]
def AstTab (w : World) : Prop := 0 < w.heap.size ∧ ∃ t, w.heap[0]? = some (.cells (rowsL.flatMap rowC).toArray t (0, 0))
theorem AstTab.next {w w' : World} (h : AstTab w) (hb : Below w.heap.size w w') : AstTab w' := by
  obtain ⟨h0, t, h1⟩ := h
  exact ⟨Nat.lt_of_lt_of_le h0 hb.size, t, (hb.block 0 h0).trans h1⟩
theorem AstTab.at_ {w : World} (h : AstTab w) {k : Nat} {r : RowA} (hk : rowsL[k]? = some r) : ∀ j v, (rowC r)[j]? = some v → w.cell? ((⟨0, k * 8, none⟩ : Addr).add j) = some v := by
  obtain ⟨h0, t, h1⟩ := h
  have hr : Reads w w.heap.size 8 (some ⟨0, 0, none⟩) rowsL.length (rowsL.flatMap rowC) := by
    refine ⟨by simp [List.length_flatMap, rowC]; rw [List.map_const']; simp, fun _ => ⟨_, rfl, h0, fun j u hj => ?_⟩⟩
    rw [show (⟨0, 0, none⟩ : Addr).add j = ⟨0, j, none⟩ by simp [Addr.add]; try omega, cell_of_row w 0 j _ t (0, 0) h1]
    simpa using hj
  obtain ⟨ad, e, _, hc⟩ := Reads.rowAt (f := rowC) (m := 8) (fun _ => rfl) hr (by decide) hk
  obtain rfl := Option.some.inj e
  intro j v hj
  have := hc j v hj
  rw [show (⟨0, 0, none⟩ : Addr).add (k * 8) = ⟨0, k * 8, none⟩ by simp [Addr.add]; try omega] at this
  exact this
theorem results_row_tmp {P : Program} {fn : Func} {p u : Tmp} {ty : TypeId} (h : fn.results = #[.cell p ty, .tmp u]) (tmps : Array Value) (w : World) (g : Nat) (t : TypeId) (cs : Array Value) (fr : Nat × Nat) (d : TypeDesc)
    (hp : tmps.getD p undef = .pointer (some ⟨g, 0, none⟩)) (hg : w.heap[g]? = some (.cells cs t fr))
    (hu : P.underlying ty = some d) (hd : (match d with | .struct _ | .array _ _ => true | _ => false) = true) (hi : (P.info? ty).map (·.size) = some cs.size) :
    (results fn tmps).run P w = .ok (.tuple #[.agg cs, tmps.getD u undef]) w := by
  rw [results_cell_tmp h, hp]
  simp [asAddr, run_loadVar_row w g t ty cs fr d hg hu hd hi]
def zeroR : RowA := ⟨0, 0, 0, 0, 0, 0, 0, 0⟩
def ofL (x : Nod) : RowA × Bool :=
  if 1 ≤ x.k ∧ x.k < 44 then (if x.k = 25 ∧ x.n = 3 then { rowsL.getD x.k.toNat zeroR with c := 116 } else rowsL.getD x.k.toNat zeroR, true) else (zeroR, false)
def OfEnd (x : Nod) (w : World) (e : Ending) (w' : World) : Prop := e = .returned (.tuple #[.agg (rowC (ofL x).1).toArray, .bool (ofL x).2]) ∧ Below w.heap.size w w'
theorem row8 {w : World} {b : Nat} {t : TypeId} {u0 u1 u2 u3 u4 u5 u6 u7 v0 v1 v2 v3 v4 v5 v6 v7 : Value} (h : Blk w b t #[u0, u1, u2, u3, u4, u5, u6, u7]) :
    Blk ((((((((w.setCell ⟨b, 0, none⟩ v0).setCell ⟨b, 1, none⟩ v1).setCell ⟨b, 2, none⟩ v2).setCell ⟨b, 3, none⟩ v3).setCell ⟨b, 4, none⟩ v4).setCell ⟨b, 5, none⟩ v5).setCell ⟨b, 6, none⟩ v6).setCell ⟨b, 7, none⟩ v7) b t #[v0, v1, v2, v3, v4, v5, v6, v7] := by
  have h1 := (((((((h.set_ 0 v0).set_ 1 v1).set_ 2 v2).set_ 3 v3).set_ 4 v4).set_ 5 v5).set_ 6 v6).set_ 7 v7
  simpa only [List.setIfInBounds_toArray, List.set_cons_zero, List.set_cons_succ] using h1
theorem low8 {w a : World} {B b : Nat} {v0 v1 v2 v3 v4 v5 v6 v7 : Value} (hB : B ≤ b) (h : Below B a w) :
    Below B a ((((((((w.setCell ⟨b, 0, none⟩ v0).setCell ⟨b, 1, none⟩ v1).setCell ⟨b, 2, none⟩ v2).setCell ⟨b, 3, none⟩ v3).setCell ⟨b, 4, none⟩ v4).setCell ⟨b, 5, none⟩ v5).setCell ⟨b, 6, none⟩ v6).setCell ⟨b, 7, none⟩ v7) :=
  (((((((h.setCell (p := ⟨b, 0, none⟩) hB v0).setCell (p := ⟨b, 1, none⟩) hB v1).setCell (p := ⟨b, 2, none⟩) hB v2).setCell (p := ⟨b, 3, none⟩) hB v3).setCell (p := ⟨b, 4, none⟩) hB v4).setCell (p := ⟨b, 5, none⟩) hB v5).setCell (p := ⟨b, 6, none⟩) hB v6).setCell (p := ⟨b, 7, none⟩) hB v7
theorem rows_at {k : Nat} (h : k < 44) : ∃ r, rowsL[k]? = some r := ⟨rowsL[k]'(by rw [show rowsL.length = 44 from rfl]; exact h), List.getElem?_eq_getElem _⟩
set_option maxRecDepth 100000 in
set_option maxHeartbeats 4000000 in
theorem c34 (x : Nod) (w : World) (ht : AstTab w) : Calls Tryd.prog 34 #[.agg (nodC x).toArray] w (OfEnd x w) := by
  have HT := Lib.hid ht
  clear ht
  show Calls Tryd.prog 34 #[.agg #[.int .i64 x.k, strV x.t, strV x.t2, .int .i64 x.n, .int .i64 x.a, .int .i64 x.b, .int .i64 x.c, .int .i64 x.h]] w _
  have hN := Blk.new w 30 #[.int .i64 x.k, strV x.t, strV x.t2, .int .i64 x.n, .int .i64 x.a, .int .i64 x.b, .int .i64 x.c, .int .i64 x.h]
  have hs : (w.alloc (.cells #[.int .i64 x.k, strV x.t, strV x.t2, .int .i64 x.n, .int .i64 x.a, .int .i64 x.b, .int .i64 x.c, .int .i64 x.h] 30)).heap.size = w.heap.size + 1 := by rw [World.size_alloc]
  have hR := (Blk.new (w.alloc (.cells #[.int .i64 x.k, strV x.t, strV x.t2, .int .i64 x.n, .int .i64 x.a, .int .i64 x.b, .int .i64 x.c, .int .i64 x.h] 30)) 59 (rowC zeroR).toArray)
  have hB0 := below_new w (.cells #[.int .i64 x.k, strV x.t, strV x.t2, .int .i64 x.n, .int .i64 x.a, .int .i64 x.b, .int .i64 x.c, .int .i64 x.h] 30)
  have hB := hB0.alloc hB0.size (.cells (rowC zeroR).toArray 59)
  have hN1 := hN.alloc (.cells (rowC zeroR).toArray 59)
  rw [hs] at hR
  clear hN hB0
  go_enter Tryd.func34, Tryd.ntmps34
  go_upto_region 1 with fail
  have hr0 : (rowC zeroR).toArray = #[.int .u8 0, .int .u8 0, .int .u8 0, .int .u8 0, .int .i64 0, .int .i64 0, .int .i64 0, .int .i64 0] := rfl
  rw [hr0] at hR hN1 hB
  clear hs
  generalize (w.alloc (.cells #[.int .i64 x.k, strV x.t, strV x.t2, .int .i64 x.n, .int .i64 x.a, .int .i64 x.b, .int .i64 x.c, .int .i64 x.h] 30)).alloc (.cells #[.int .u8 0, .int .u8 0, .int .u8 0, .int .u8 0, .int .i64 0, .int .i64 0, .int .i64 0, .int .i64 0] 59) = w1 at hR hN1 hB ⊢
  have HB := Lib.hid hB
  have HLE := Lib.hid (show w.heap.size ≤ w.heap.size + 1 by omega)
  have HR := Lib.hid hR
  have HN := Lib.hid hN1
  generalize w.heap.size + 1 = rb at HR HLE ⊢
  generalize hxb : w.heap.size = xb at HN ⊢
  have HXB := Lib.hid hxb
  have x0 : w1.cell? ⟨xb, 0, none⟩ = some (.int .i64 x.k) := HN.out.cell 0
  have x3 : w1.cell? ⟨xb, 3, none⟩ = some (.int .i64 x.n) := HN.out.cell 3
  clear hR hN1 hB hxb hr0
  have HKR := HR
  have r0 : w1.cell? ⟨rb, 0, none⟩ = some (.int .u8 0) := HR.out.cell 0
  have f0 := HR.out.frozen 0
  have f1 := HR.out.frozen 1
  have f2 := HR.out.frozen 2
  have f3 := HR.out.frozen 3
  have f4 := HR.out.frozen 4
  have f5 := HR.out.frozen 5
  have f6 := HR.out.frozen 6
  have f7 := HR.out.frozen 7
  have r1 : w1.cell? ⟨rb, 1, none⟩ = some (.int .u8 0) := HR.out.cell 1
  have r2 : w1.cell? ⟨rb, 2, none⟩ = some (.int .u8 0) := HR.out.cell 2
  have r3 : w1.cell? ⟨rb, 3, none⟩ = some (.int .u8 0) := HR.out.cell 3
  have r4 : w1.cell? ⟨rb, 4, none⟩ = some (.int .i64 0) := HR.out.cell 4
  have r5 : w1.cell? ⟨rb, 5, none⟩ = some (.int .i64 0) := HR.out.cell 5
  have r6 : w1.cell? ⟨rb, 6, none⟩ = some (.int .i64 0) := HR.out.cell 6
  have r7 : w1.cell? ⟨rb, 7, none⟩ = some (.int .i64 0) := HR.out.cell 7
  by_cases h1 : x.k < 1
  · have H := Lib.hid (show ofL x = (zeroR, false) by unfold ofL; rw [if_neg (by omega)])
    go_wp2_with fail
    exact bodyPost_ret (results_row_tmp rfl _ _ _ 59 _ (0,0) _ rfl (row8 HR.out) Tryd.underlying59 rfl (by kernel_rfl)) rfl ⟨by rw [H.out]; rfl, low8 HLE.out HB.out⟩
  by_cases h2 : 44 ≤ x.k
  · have H := Lib.hid (show ofL x = (zeroR, false) by unfold ofL; rw [if_neg (by omega)])
    go_wp2_with fail
    exact bodyPost_ret (results_row_tmp rfl _ _ _ 59 _ (0,0) _ rfl (row8 HR.out) Tryd.underlying59 rfl (by kernel_rfl)) rfl ⟨by rw [H.out]; rfl, low8 HLE.out HB.out⟩
  obtain ⟨k, hk⟩ : ∃ k : Nat, x.k = (k : Int) := ⟨x.k.toNat, by omega⟩
  have hk1 : k < 44 := by omega
  obtain ⟨r, hr⟩ := rows_at hk1
  have HD := Lib.hid (show ofL x = (if x.k = 25 ∧ x.n = 3 then { r with c := 116 } else r, true) by
    unfold ofL; rw [if_pos (by omega), show x.k.toNat = k by omega, List.getD_eq_getElem?_getD, hr]; rfl)
  have hc := (HT.out.next HB.out).at_ hr
  have HC := Lib.hid hc
  have HP := Lib.hid (Blk.new w1 59 #[.int .u8 r.is_, .int .u8 r.a, .int .u8 r.b, .int .u8 r.c, .int .i64 r.text, .int .i64 r.second, .int .i64 r.lo, .int .i64 r.hi])
  have hb2 := below_new w1 (.cells #[.int .u8 r.is_, .int .u8 r.a, .int .u8 r.b, .int .u8 r.c, .int .i64 r.text, .int .i64 r.second, .int .i64 r.lo, .int .i64 r.hi] 59)
  have HB2 := Lib.hid (next_ HB.out hb2)
  have HR2 := Lib.hid (HR.out.next hb2)
  have HN2 := Lib.hid (HN.out.next hb2)
  have HLT := Lib.hid (show rb < w1.heap.size from HR.out.lt)
  clear hb2 hc r0 r1 r2 r3 r4 r5 r6 r7 f0 f1 f2 f3 f4 f5 f6 f7 HKR
  clear x3
  rw [hk] at x0 h1 h2
  go_upto_region 3 with fail
  go_upto_region 4 with (first | (refine wpList_load_at rfl 59 (.tmp 16) rfl ⟨0, k * 8, none⟩ rfl [.int .u8 r.is_, .int .u8 r.a, .int .u8 r.b, .int .u8 r.c, .int .i64 r.text, .int .i64 r.second, .int .i64 r.lo, .int .i64 r.hi] _ HC.out Tryd.underlying59 rfl (by kernel_rfl) ?_))
  clear x0
  generalize w1.alloc (.cells #[.int .u8 r.is_, .int .u8 r.a, .int .u8 r.b, .int .u8 r.c, .int .i64 r.text, .int .i64 r.second, .int .i64 r.lo, .int .i64 r.hi] 59) = w3 at HP HB2 HR2 HN2 ⊢
  generalize w1.heap.size = pb at HP HLT ⊢
  have x0 : w3.cell? ⟨xb, 0, none⟩ = some (.int .i64 (k : Int)) := by rw [← hk]; exact HN2.out.cell 0
  have x3 : w3.cell? ⟨xb, 3, none⟩ = some (.int .i64 x.n) := HN2.out.cell 3
  by_cases hA : k = 25
  · by_cases hn : x.n = 3
    · rw [if_pos ⟨by omega, hn⟩] at HD
      have e1 : ((k : Int) == 25) = true := beq_iff_eq.2 (by omega)
      rw [hn] at x3
      have q3 : w3.cell? ⟨pb, 3, none⟩ = some (.int .u8 r.c) := HP.out.cell 3
      have g3 := HP.out.frozen 3
      have hs := HP.out.set_ 3 (.int .u8 116)
      simp only [sLA, sL0, sL1] at hs
      have HP3 := Lib.hid hs
      have HR3 := Lib.hid (HR2.out.far (p := ⟨pb, 3, none⟩) (by show rb ≠ pb; have := HLT.out; omega) (.int .u8 116))
      have HB3 := Lib.hid (HB2.out.setCell (p := ⟨pb, 3, none⟩) (by show w.heap.size ≤ pb; have := HLT.out; have := HLE.out; omega) (.int .u8 116))
      clear hs
      go_upto_region 6 with fail
      clear x0 x3 q3 g3
      generalize w3.setCell ⟨pb, 3, none⟩ (.int .u8 116) = w4 at HP3 HR3 HB3 ⊢
      have p0 : w4.cell? ⟨pb, 0, none⟩ = some (.int .u8 r.is_) := HP3.out.cell 0
      have p1 : w4.cell? ⟨pb, 1, none⟩ = some (.int .u8 r.a) := HP3.out.cell 1
      have p2 : w4.cell? ⟨pb, 2, none⟩ = some (.int .u8 r.b) := HP3.out.cell 2
      have p3 : w4.cell? ⟨pb, 3, none⟩ = some (.int .u8 116) := HP3.out.cell 3
      have p4 : w4.cell? ⟨pb, 4, none⟩ = some (.int .i64 r.text) := HP3.out.cell 4
      have p5 : w4.cell? ⟨pb, 5, none⟩ = some (.int .i64 r.second) := HP3.out.cell 5
      have p6 : w4.cell? ⟨pb, 6, none⟩ = some (.int .i64 r.lo) := HP3.out.cell 6
      have p7 : w4.cell? ⟨pb, 7, none⟩ = some (.int .i64 r.hi) := HP3.out.cell 7
      have r0 : w4.cell? ⟨rb, 0, none⟩ = some (.int .u8 0) := HR3.out.cell 0
      have f0 := HR3.out.frozen 0
      have r1 : w4.cell? ⟨rb, 1, none⟩ = some (.int .u8 0) := HR3.out.cell 1
      have f1 := HR3.out.frozen 1
      have r2 : w4.cell? ⟨rb, 2, none⟩ = some (.int .u8 0) := HR3.out.cell 2
      have f2 := HR3.out.frozen 2
      have r3 : w4.cell? ⟨rb, 3, none⟩ = some (.int .u8 0) := HR3.out.cell 3
      have f3 := HR3.out.frozen 3
      have r4 : w4.cell? ⟨rb, 4, none⟩ = some (.int .i64 0) := HR3.out.cell 4
      have f4 := HR3.out.frozen 4
      have r5 : w4.cell? ⟨rb, 5, none⟩ = some (.int .i64 0) := HR3.out.cell 5
      have f5 := HR3.out.frozen 5
      have r6 : w4.cell? ⟨rb, 6, none⟩ = some (.int .i64 0) := HR3.out.cell 6
      have f6 := HR3.out.frozen 6
      have r7 : w4.cell? ⟨rb, 7, none⟩ = some (.int .i64 0) := HR3.out.cell 7
      have f7 := HR3.out.frozen 7
      go_wp2_with fail
      exact bodyPost_ret (results_row_tmp rfl _ _ _ 59 _ (0,0) _ rfl (row8 HR3.out) Tryd.underlying59 rfl (by kernel_rfl)) rfl ⟨by rw [HD.out]; rfl, low8 HLE.out HB3.out⟩
    · rw [if_neg (by rintro ⟨_, h⟩; exact hn h)] at HD
      have e1 : ((k : Int) == 25) = true := beq_iff_eq.2 (by omega)
      have e2 : (x.n == 3) = false := beq_false_of_ne hn
      have p0 : w3.cell? ⟨pb, 0, none⟩ = some (.int .u8 r.is_) := HP.out.cell 0
      have p1 : w3.cell? ⟨pb, 1, none⟩ = some (.int .u8 r.a) := HP.out.cell 1
      have p2 : w3.cell? ⟨pb, 2, none⟩ = some (.int .u8 r.b) := HP.out.cell 2
      have p3 : w3.cell? ⟨pb, 3, none⟩ = some (.int .u8 r.c) := HP.out.cell 3
      have p4 : w3.cell? ⟨pb, 4, none⟩ = some (.int .i64 r.text) := HP.out.cell 4
      have p5 : w3.cell? ⟨pb, 5, none⟩ = some (.int .i64 r.second) := HP.out.cell 5
      have p6 : w3.cell? ⟨pb, 6, none⟩ = some (.int .i64 r.lo) := HP.out.cell 6
      have p7 : w3.cell? ⟨pb, 7, none⟩ = some (.int .i64 r.hi) := HP.out.cell 7
      have r0 : w3.cell? ⟨rb, 0, none⟩ = some (.int .u8 0) := HR2.out.cell 0
      have f0 := HR2.out.frozen 0
      have r1 : w3.cell? ⟨rb, 1, none⟩ = some (.int .u8 0) := HR2.out.cell 1
      have f1 := HR2.out.frozen 1
      have r2 : w3.cell? ⟨rb, 2, none⟩ = some (.int .u8 0) := HR2.out.cell 2
      have f2 := HR2.out.frozen 2
      have r3 : w3.cell? ⟨rb, 3, none⟩ = some (.int .u8 0) := HR2.out.cell 3
      have f3 := HR2.out.frozen 3
      have r4 : w3.cell? ⟨rb, 4, none⟩ = some (.int .i64 0) := HR2.out.cell 4
      have f4 := HR2.out.frozen 4
      have r5 : w3.cell? ⟨rb, 5, none⟩ = some (.int .i64 0) := HR2.out.cell 5
      have f5 := HR2.out.frozen 5
      have r6 : w3.cell? ⟨rb, 6, none⟩ = some (.int .i64 0) := HR2.out.cell 6
      have f6 := HR2.out.frozen 6
      have r7 : w3.cell? ⟨rb, 7, none⟩ = some (.int .i64 0) := HR2.out.cell 7
      have f7 := HR2.out.frozen 7
      go_wp2_with fail
      exact bodyPost_ret (results_row_tmp rfl _ _ _ 59 _ (0,0) _ rfl (row8 HR2.out) Tryd.underlying59 rfl (by kernel_rfl)) rfl ⟨by rw [HD.out]; rfl, low8 HLE.out HB2.out⟩
  · rw [if_neg (by rintro ⟨h, _⟩; omega)] at HD
    have e1 : ((k : Int) == 25) = false := beq_false_of_ne (by omega)
    have p0 : w3.cell? ⟨pb, 0, none⟩ = some (.int .u8 r.is_) := HP.out.cell 0
    have p1 : w3.cell? ⟨pb, 1, none⟩ = some (.int .u8 r.a) := HP.out.cell 1
    have p2 : w3.cell? ⟨pb, 2, none⟩ = some (.int .u8 r.b) := HP.out.cell 2
    have p3 : w3.cell? ⟨pb, 3, none⟩ = some (.int .u8 r.c) := HP.out.cell 3
    have p4 : w3.cell? ⟨pb, 4, none⟩ = some (.int .i64 r.text) := HP.out.cell 4
    have p5 : w3.cell? ⟨pb, 5, none⟩ = some (.int .i64 r.second) := HP.out.cell 5
    have p6 : w3.cell? ⟨pb, 6, none⟩ = some (.int .i64 r.lo) := HP.out.cell 6
    have p7 : w3.cell? ⟨pb, 7, none⟩ = some (.int .i64 r.hi) := HP.out.cell 7
    have r0 : w3.cell? ⟨rb, 0, none⟩ = some (.int .u8 0) := HR2.out.cell 0
    have f0 := HR2.out.frozen 0
    have r1 : w3.cell? ⟨rb, 1, none⟩ = some (.int .u8 0) := HR2.out.cell 1
    have f1 := HR2.out.frozen 1
    have r2 : w3.cell? ⟨rb, 2, none⟩ = some (.int .u8 0) := HR2.out.cell 2
    have f2 := HR2.out.frozen 2
    have r3 : w3.cell? ⟨rb, 3, none⟩ = some (.int .u8 0) := HR2.out.cell 3
    have f3 := HR2.out.frozen 3
    have r4 : w3.cell? ⟨rb, 4, none⟩ = some (.int .i64 0) := HR2.out.cell 4
    have f4 := HR2.out.frozen 4
    have r5 : w3.cell? ⟨rb, 5, none⟩ = some (.int .i64 0) := HR2.out.cell 5
    have f5 := HR2.out.frozen 5
    have r6 : w3.cell? ⟨rb, 6, none⟩ = some (.int .i64 0) := HR2.out.cell 6
    have f6 := HR2.out.frozen 6
    have r7 : w3.cell? ⟨rb, 7, none⟩ = some (.int .i64 0) := HR2.out.cell 7
    have f7 := HR2.out.frozen 7
    go_wp2_with fail
    exact bodyPost_ret (results_row_tmp rfl _ _ _ 59 _ (0,0) _ rfl (row8 HR2.out) Tryd.underlying59 rfl (by kernel_rfl)) rfl ⟨by rw [HD.out]; rfl, low8 HLE.out HB2.out⟩
theorem u8_info : (Tryd.prog.info? 5).map (fun i => (i.zero, i.size, i.bytes)) = some (some (.int .u8 0), 1, 1) := by kernel_rfl
theorem cellsB_one (l : List UInt8) : ∀ u ∈ cellsB l, u.oneCell' = true := fun u hu => by
  obtain ⟨p, _, rfl⟩ := List.mem_map.1 hu
  rfl
theorem cellsB_snoc (l m : List UInt8) : cellsB (l ++ m) = cellsB l ++ cellsB m := List.map_append ..
theorem run_conv {w : World} {B n : Nat} {A : Option Addr} {c : Nat} {l : List UInt8} (hn : l.length = n) (hr : Reads w B 1 A n (cellsB l)) : (convert 40 9 (.slice A n c)).run Tryd.prog w = .ok (.string ⟨l.toArray⟩) w := by
  subst hn
  cases A with
  | none =>
    have hl : l = [] := by
      cases l with
      | nil => rfl
      | cons x l => obtain ⟨ad, e, _⟩ := hr.2 (by simp); cases e
    subst hl
    exact run_convert_bytes_nil _ 40 5 Tryd.underlying40 Tryd.underlying5 _ _ 9 Tryd.underlying9
  | some ad =>
    refine run_convert_bytes_back w 40 9 5 ad c l Tryd.underlying40 Tryd.underlying5 Tryd.underlying9 (fun j hj => ?_)
    obtain ⟨ad', e, _, hc⟩ := hr.2 (by omega)
    cases e
    refine hc j _ ?_
    unfold cellsB
    rw [List.getElem?_map, List.getElem?_eq_getElem hj]
    rfl
def QuoteEnd (w : World) (e : Ending) (w' : World) : Prop := ∃ (s : ByteArray) (r : Bool), e = .returned (.tuple #[.string s, .bool r]) ∧ Below w.heap.size w w'
structure BRow (w0 w : World) (A : Option Addr) (c : Nat) (L : List UInt8) : Prop where
  own : w.ownsRow w0.heap.size 5 1 (.slice A L.length c) L.length (cellsB L)
  low : Below w0.heap.size w0 w
theorem BRow.push {w0 w w' : World} {A : Option Addr} {c : Nat} {L : List UInt8} (h : BRow w0 w A c L) {M : List UInt8} {v' : Value} (o : w'.ownsRow w0.heap.size 5 1 v' (L.length + M.length) (cellsB L ++ cellsB M))
    (g : (w.alloc (.cells (cellsB M).toArray 5)).grownBy w' (Value.ownBlock (.slice A L.length c))) : ∃ A' c', v' = .slice A' (L ++ M).length c' ∧ BRow w0 w' A' c' (L ++ M) := by
  have o' : w'.ownsRow w0.heap.size 5 1 v' (L ++ M).length (cellsB (L ++ M)) := by rw [cellsB_snoc, List.length_append]; exact o
  obtain ⟨A', c', rfl⟩ := own_form o'
  refine ⟨A', c', rfl, o', ?_⟩
  exact (h.low.alloc h.low.size _).grown g (by rw [World.size_alloc]; have := h.low.size; omega) (fun k hk => (h.own.lt k hk).1)
theorem newB (w : World) (M : List UInt8) : Reads (w.alloc (.cells (cellsB M).toArray 5)) (w.heap.size + 1) 1 (some ⟨w.heap.size, 0, none⟩) M.length (cellsB M) :=
  reads_blkN (Blk.new w 5 (cellsB M).toArray) (by rw [show (cellsB M).length = M.length from List.length_map ..]; omega)
set_option maxRecDepth 100000 in
set_option maxHeartbeats 4000000 in
theorem c53 (s : List UInt8) (hs : s.length ≤ 281474976710656) (w : World) : Calls Tryd.prog 53 #[strV s] w (QuoteEnd w) := by
  have hz := strV_size s
  show Calls Tryd.prog 53 #[.string ⟨s.toArray⟩] w _
  obtain ⟨i5, fi5, hz0, hz1, hz2⟩ := info_parts u8_info
  have H5 := Lib.hid (show i5.zero = some (.int .u8 0) ∧ i5.size = 1 ∧ i5.bytes = 1 from ⟨hz0, hz1, hz2⟩)
  clear hz0 hz1 hz2
  by_cases hl : s.length ≤ 60
  · have hl' : (s.length : Int) ≤ 60 := by omega
    have hB0 : BRow w (w.alloc (.cells #[.int .u8 34] 5)) (some ⟨w.heap.size, 0, none⟩) 1 [34] := ⟨own_new w (Nat.le_refl _) rfl (by unfold maxLen; decide), below_new w _⟩
    have HB0 := Lib.hid hB0
    clear hB0
    go_enter Tryd.func53, Tryd.ntmps53
    go_wp2_with fail
    generalize w.alloc (.cells #[.int .u8 34] 5) = w0 at HB0 ⊢
    generalize w.heap.size = xb at HB0 ⊢
    go_loopw [4, 13] (fun b i wr => ∃ (k : Nat) (L : List UInt8) (A : Option Addr) (c : Nat), k ≤ s.length ∧ i = .int .i64 k ∧ b = .slice A L.length c ∧ BRow w wr A c L ∧ L.length ≤ 2 * k + 1) (fun _ i _ => s.length - (intOf i).toNat)
    case atStart => exact ⟨0, [34], _, 1, by omega, rfl, rfl, HB0.out, by simp⟩
    case round =>
      obtain ⟨k, L, A, c, hk, rfl, rfl, hb, hL⟩ := hrel
      have HB := Lib.hid hb
      have HL := Lib.hid (show L.length ≤ 121 by omega)
      have HL2 := Lib.hid hL
      clear hb hL
      by_cases hlt : k < s.length
      · have hlk : (k : Int) < (s.length : Int) := by omega
        have hk0 : (0 : Int) ≤ (k : Int) := by omega
        go_upto_region 9 with fail
        generalize hq : (ByteArray.mk s.toArray)[k]'(by rw [hz]; exact hlt) = q
        clear hq
        by_cases h10 : (q.toNat : Int) = 10
        · have e1 : ((q.toNat : Int) == 10) = true := beq_iff_eq.2 h10
          go_wp2_with (at_builtin; refine wpList_append_any _ rfl (.tmp 26) (.tmp 27) 40 rfl w.heap.size 5 i5 _ 1 1 Tryd.underlying40 fi5 H5.out.1 H5.out.2.1 H5.out.2.2 rfl (by omega) (.slice A L.length c) L.length (cellsB L) rfl (own_next HB.out.own (below_new _ _)) (wr.heap.size + 1) (some ⟨wr.heap.size, 0, none⟩) 2 2 (cellsB [92, 110]) rfl (newB wr [92, 110]) (cellsB_one _) (by unfold maxLen; have := HL.out; omega) (by have := HL.out; omega) (by rw [World.size_alloc]; have := HB.out.low.size; omega) ?_; intro v1 w7 oA gA nA; obtain ⟨A1, c1, rfl, hB1⟩ := HB.out.push oA gA; have HB1 := Lib.hid hB1; clear oA gA nA hB1)
          go_roundw
          case rel => exact ⟨k + 1, _, A1, c1, by omega, by go_num, by rw [List.length_append]; rfl, HB1.out, by have := HL2.out; rw [List.length_append]; simp only [List.length_cons, List.length_nil]; omega⟩
          case measure => simp [intOf]; omega
        have e1 : ((q.toNat : Int) == 10) = false := beq_false_of_ne h10
        by_cases h31 : (q.toNat : Int) < 32
        · go_wp2_with fail
          go_ret2
          exact ⟨_, _, rfl, HB.out.low⟩
        by_cases h126 : (126 : Int) < (q.toNat : Int)
        · go_wp2_with fail
          go_ret2
          exact ⟨_, _, rfl, HB.out.low⟩
        by_cases h34 : (q.toNat : Int) = 34
        · have e2 : ((q.toNat : Int) == 34) = true := beq_iff_eq.2 h34
          go_wp2_with (at_builtin; refine wpList_append_any _ rfl (.tmp 43) (.tmp 45) 40 rfl w.heap.size 5 i5 _ 1 1 Tryd.underlying40 fi5 H5.out.1 H5.out.2.1 H5.out.2.2 rfl (by omega) (.slice A L.length c) L.length (cellsB L) rfl (own_next HB.out.own (below_new _ _)) (wr.heap.size + 1) (some ⟨wr.heap.size, 0, none⟩) 2 2 (cellsB [92, 34]) rfl (newB wr [92, 34]) (cellsB_one _) (by unfold maxLen; have := HL.out; omega) (by have := HL.out; omega) (by rw [World.size_alloc]; have := HB.out.low.size; omega) ?_; intro v1 w7 oA gA nA; obtain ⟨A1, c1, rfl, hB1⟩ := HB.out.push oA gA; have HB1 := Lib.hid hB1; clear oA gA nA hB1)
          go_roundw
          case rel => exact ⟨k + 1, _, A1, c1, by omega, by go_num, by rw [List.length_append]; rfl, HB1.out, by have := HL2.out; rw [List.length_append]; simp only [List.length_cons, List.length_nil]; omega⟩
          case measure => simp [intOf]; omega
        have e2 : ((q.toNat : Int) == 34) = false := beq_false_of_ne h34
        by_cases h92 : (q.toNat : Int) = 92
        · have e3 : ((q.toNat : Int) == 92) = true := beq_iff_eq.2 h92
          go_wp2_with (at_builtin; refine wpList_append_any _ rfl (.tmp 43) (.tmp 45) 40 rfl w.heap.size 5 i5 _ 1 1 Tryd.underlying40 fi5 H5.out.1 H5.out.2.1 H5.out.2.2 rfl (by omega) (.slice A L.length c) L.length (cellsB L) rfl (own_next HB.out.own (below_new _ _)) (wr.heap.size + 1) (some ⟨wr.heap.size, 0, none⟩) 2 2 (cellsB [92, 92]) rfl (newB wr [92, 92]) (cellsB_one _) (by unfold maxLen; have := HL.out; omega) (by have := HL.out; omega) (by rw [World.size_alloc]; have := HB.out.low.size; omega) ?_; intro v1 w7 oA gA nA; obtain ⟨A1, c1, rfl, hB1⟩ := HB.out.push oA gA; have HB1 := Lib.hid hB1; clear oA gA nA hB1)
          go_roundw
          case rel => exact ⟨k + 1, _, A1, c1, by omega, by go_num, by rw [List.length_append]; rfl, HB1.out, by have := HL2.out; rw [List.length_append]; simp only [List.length_cons, List.length_nil]; omega⟩
          case measure => simp [intOf]; omega
        have e3 : ((q.toNat : Int) == 92) = false := beq_false_of_ne h92
        go_wp2_with (at_builtin; refine wpList_append_any _ rfl (.tmp 19) (.tmp 21) 40 rfl w.heap.size 5 i5 _ 1 1 Tryd.underlying40 fi5 H5.out.1 H5.out.2.1 H5.out.2.2 rfl (by omega) (.slice A L.length c) L.length (cellsB L) rfl (own_next HB.out.own (below_new _ _)) (wr.heap.size + 1) (some ⟨wr.heap.size, 0, none⟩) 1 1 (cellsB [q]) rfl (newB wr [q]) (cellsB_one _) (by unfold maxLen; have := HL.out; omega) (by have := HL.out; omega) (by rw [World.size_alloc]; have := HB.out.low.size; omega) ?_; intro v1 w7 oA gA nA; obtain ⟨A1, c1, rfl, hB1⟩ := HB.out.push oA gA; have HB1 := Lib.hid hB1; clear oA gA nA hB1)
        go_roundw
        case rel => exact ⟨k + 1, _, A1, c1, by omega, by go_num, by rw [List.length_append]; rfl, HB1.out, by have := HL2.out; rw [List.length_append]; simp only [List.length_cons, List.length_nil]; omega⟩
        case measure => simp [intOf]; omega
      · obtain rfl : k = s.length := by omega
        have hlk : ¬ ((s.length : Int) < (s.length : Int)) := by omega
        go_upto_region 16 with fail
        go_wp2_with (at_builtin; refine wpList_append_any _ rfl (.tmp 48) (.tmp 49) 40 rfl w.heap.size 5 i5 _ 1 1 Tryd.underlying40 fi5 H5.out.1 H5.out.2.1 H5.out.2.2 rfl (by omega) (.slice A L.length c) L.length (cellsB L) rfl (own_next HB.out.own (below_new _ _)) (wr.heap.size + 1) (some ⟨wr.heap.size, 0, none⟩) 1 1 (cellsB [34]) rfl (newB wr [34]) (cellsB_one _) (by unfold maxLen; have := HL.out; omega) (by have := HL.out; omega) (by rw [World.size_alloc]; have := HB.out.low.size; omega) ?_; intro v1 w7 oA gA nA; obtain ⟨A1, c1, rfl, hB1⟩ := HB.out.push oA gA; have HB1 := Lib.hid hB1; have hcv : (convert 40 9 (.slice A1 (L.length + 1) c1)).run Tryd.prog w7 = .ok (.string ⟨(L ++ [34]).toArray⟩) w7 := run_conv (by rw [List.length_append]; rfl) (by have h9 := Reads.of_own hB1.own; rw [List.length_append] at h9; exact h9); clear oA gA nA hB1)
        go_ret2
        exact ⟨_, _, rfl, HB1.out.low⟩
  · have hl' : (60 : Int) < (s.length : Int) := by omega
    go_enter Tryd.func53, Tryd.ntmps53
    go_wp2_with fail
    go_ret2
    exact ⟨_, _, rfl, Below.refl _ _⟩
def gB (x : Int) : Bool := decide (65 ≤ x) && decide (x ≤ 90)
def dB (x : Int) : Bool := decide (48 ≤ x) && decide (x ≤ 57)
def lB (x : Int) : Bool := (decide (97 ≤ x) && decide (x ≤ 122)) || gB x || x == 95
def wB (x : Int) : Bool := lB x || dB x
set_option maxRecDepth 100000 in
set_option maxHeartbeats 4000000 in
theorem c82 (x : Int) (w : World) : Calls Tryd.prog 82 #[.int .u8 x] w fun e w' => e = .returned (.bool (gB x)) ∧ w = w' := by
  by_cases h1 : 65 ≤ x
  · by_cases h2 : x ≤ 90
    · have H := Lib.hid (show gB x = true by simp [gB, h1, h2])
      go_enter Tryd.func82, Tryd.ntmps82
      go_wp2_with fail
      go_ret
      exact ⟨by rw [H.out]; rfl, rfl⟩
    · have H := Lib.hid (show gB x = false by simp [gB, h1, h2])
      go_enter Tryd.func82, Tryd.ntmps82
      go_wp2_with fail
      go_ret
      exact ⟨by rw [H.out]; rfl, rfl⟩
  · have H := Lib.hid (show gB x = false by simp [gB, h1])
    go_enter Tryd.func82, Tryd.ntmps82
    go_wp2_with fail
    go_ret
    exact ⟨by rw [H.out]; rfl, rfl⟩
set_option maxRecDepth 100000 in
set_option maxHeartbeats 4000000 in
theorem c85 (x : Int) (w : World) : Calls Tryd.prog 85 #[.int .u8 x] w fun e w' => e = .returned (.bool (dB x)) ∧ w = w' := by
  by_cases h1 : 48 ≤ x
  · by_cases h2 : x ≤ 57
    · have H := Lib.hid (show dB x = true by simp [dB, h1, h2])
      go_enter Tryd.func85, Tryd.ntmps85
      go_wp2_with fail
      go_ret
      exact ⟨by rw [H.out]; rfl, rfl⟩
    · have H := Lib.hid (show dB x = false by simp [dB, h1, h2])
      go_enter Tryd.func85, Tryd.ntmps85
      go_wp2_with fail
      go_ret
      exact ⟨by rw [H.out]; rfl, rfl⟩
  · have H := Lib.hid (show dB x = false by simp [dB, h1])
    go_enter Tryd.func85, Tryd.ntmps85
    go_wp2_with fail
    go_ret
    exact ⟨by rw [H.out]; rfl, rfl⟩
set_option maxRecDepth 100000 in
set_option maxHeartbeats 4000000 in
theorem c77 (x : Int) (w : World) : Calls Tryd.prog 77 #[.int .u8 x] w fun e w' => e = .returned (.bool (lB x)) ∧ w = w' := by
  have tail : ∀ (h : (decide (97 ≤ x) && decide (x ≤ 122)) = false), (gB x = true → lB x = true) ∧ (gB x = false → lB x = (x == 95)) := fun h =>
    ⟨fun h1 => by unfold lB; rw [h, h1]; rfl, fun h1 => by unfold lB; rw [h, h1]; rfl⟩
  have go : (decide (97 ≤ x) && decide (x ≤ 122)) = false → (¬ 97 ≤ x ∨ (97 ≤ x ∧ ¬ x ≤ 122)) := fun h => by
    by_cases h1 : 97 ≤ x
    · right; refine ⟨h1, fun h2 => ?_⟩; simp [h1, h2] at h
    · exact .inl h1
  cases hd : (decide (97 ≤ x) && decide (x ≤ 122)) with
  | true =>
    rw [Bool.and_eq_true] at hd
    have h1 := of_decide_eq_true hd.1
    have h2 := of_decide_eq_true hd.2
    have H := Lib.hid (show lB x = true by simp [lB, h1, h2])
    clear hd tail go
    go_enter Tryd.func77, Tryd.ntmps77
    go_wp2_with fail
    go_ret
    exact ⟨by rw [H.out]; rfl, rfl⟩
  | false =>
    have T := Lib.hid (tail hd)
    have h := go hd
    clear tail go hd
    rcases h with h1 | ⟨h1, h2⟩
    all_goals
      go_enter Tryd.func77, Tryd.ntmps77
      go_wp2_with fail
      refine (c82 x w).mono ?_
      rintro e _ ⟨rfl, rfl⟩
      cases hg : gB x with
      | true =>
        have H := Lib.hid (T.out.1 hg)
        clear hg
        go_wp2_with fail
        go_ret
        exact ⟨by rw [H.out]; rfl, rfl⟩
      | false =>
        have H := Lib.hid (T.out.2 hg)
        clear hg
        go_wp2_with fail
        go_ret
        exact ⟨by rw [H.out]; rfl, rfl⟩
set_option maxRecDepth 100000 in
set_option maxHeartbeats 4000000 in
theorem c84 (x : Int) (w : World) : Calls Tryd.prog 84 #[.int .u8 x] w fun e w' => e = .returned (.bool (wB x)) ∧ w = w' := by
  go_enter Tryd.func84, Tryd.ntmps84
  go_wp2_with fail
  refine (c77 x w).mono ?_
  rintro e _ ⟨rfl, rfl⟩
  cases hl : lB x with
  | true =>
    have H := Lib.hid (show wB x = true by unfold wB; rw [hl]; rfl)
    clear hl
    go_wp2_with fail
    go_ret
    exact ⟨by rw [H.out]; rfl, rfl⟩
  | false =>
    have H := Lib.hid (show wB x = dB x by unfold wB; rw [hl]; rfl)
    clear hl
    go_wp2_with fail
    refine (c85 x w).mono ?_
    rintro e _ ⟨rfl, rfl⟩
    go_wp2_with fail
    go_ret
    exact ⟨by rw [H.out]; rfl, rfl⟩
def byteI (b : UInt8) : Int := (b.toNat : Int)
def runL (s : List UInt8) : Nat := (s.takeWhile fun b => wB (byteI b)).length
set_option maxRecDepth 100000 in
set_option maxHeartbeats 4000000 in
theorem c83 (s : List UInt8) (hs : s.length ≤ 281474976710656) (w : World) : Calls Tryd.prog 83 #[strV s, .func (.func 84) #[] #[]] w fun e w' => e = .returned (.int .i64 (runL s : Int)) ∧ w = w' := by
  have hz := strV_size s
  show Calls Tryd.prog 83 #[.string ⟨s.toArray⟩, .func (.func 84) #[] #[]] w _
  go_enter Tryd.func83, Tryd.ntmps83
  go_wp2_with fail
  go_loopw [5] (fun i wr => ∃ k : Nat, k ≤ s.length ∧ i = .int .i64 k ∧ wr = w ∧ runL s = k + runL (s.drop k)) (fun i _ => s.length - (intOf i).toNat)
  case atStart => exact ⟨0, by omega, rfl, rfl, by simp⟩
  case round =>
    obtain ⟨k, hk, rfl, rfl, hr⟩ := hrel
    have HR := Lib.hid hr
    clear hr
    by_cases hlt : k < s.length
    · have hlk : (k : Int) < (s.length : Int) := by omega
      have hk0 : (0 : Int) ≤ (k : Int) := by omega
      go_wp2_with fail
      refine (c84 _ wr).mono ?_
      rintro e w' ⟨he, hw⟩
      replace he : e = .returned (.bool (wB (byteI s[k]))) := he
      subst he hw
      have hd : s.drop k = s[k] :: s.drop (k + 1) := List.drop_eq_getElem_cons hlt
      have HD := Lib.hid hd
      clear hd
      cases hwb : wB (byteI s[k]) with
      | true =>
        have HN := Lib.hid (show runL s = (k + 1) + runL (s.drop (k + 1)) by
          rw [HR.out, HD.out]
          unfold runL
          rw [List.takeWhile_cons, hwb]
          simp
          omega)
        clear hwb
        go_wp2_with fail
        go_roundw
        case rel => exact ⟨k + 1, by omega, by go_num, by first | rfl | trivial, HN.out⟩
        case measure => simp [intOf]; omega
      | false =>
        have HN := Lib.hid (show runL s = k by
          rw [HR.out, HD.out]
          unfold runL
          rw [List.takeWhile_cons, hwb]
          simp)
        clear hwb
        go_wp2_with fail
        go_ret
        exact ⟨by rw [HN.out]; rfl, by first | rfl | trivial⟩
    · obtain rfl : k = s.length := by omega
      have hlk : ¬ ((s.length : Int) < (s.length : Int)) := by omega
      have HN := Lib.hid (show runL s = s.length by
        rw [HR.out, List.drop_length]
        simp [runL])
      go_wp2_with fail
      go_ret
      exact ⟨by rw [HN.out]; rfl, by first | rfl | trivial⟩
theorem runL_le (s : List UInt8) : runL s ≤ s.length := (List.takeWhile_sublist _).length_le
set_option maxRecDepth 100000 in
set_option maxHeartbeats 4000000 in
theorem c78 (s : List UInt8) (hs : s.length ≤ 281474976710656) (w : World) : Calls Tryd.prog 78 #[strV s] w fun e w' => e = .returned (.int .i64 (runL s : Int)) ∧ w = w' := by
  show Calls Tryd.prog 78 #[.string ⟨s.toArray⟩] w _
  go_enter Tryd.func78, Tryd.ntmps78
  go_wp2_with fail
  refine (c83 s hs w).mono ?_
  rintro e _ ⟨rfl, rfl⟩
  go_wp2_with fail
  go_ret
  exact ⟨rfl, rfl⟩
theorem Reads.at_ {w : World} {B n : Nat} {A : Option Addr} {xs : List Value} {k : Nat} (h : Reads w B 1 A n xs) (hk : k < n) : ∃ ad u, A = some ad ∧ ad.block < B ∧ xs[k]? = some u ∧ w.cell? (ad.add k) = some u := by
  obtain ⟨hl, hr⟩ := h
  obtain ⟨ad, e, hb, hc⟩ := hr (by omega)
  have hk' : k < xs.length := by omega
  exact ⟨ad, xs[k], e, hb, List.getElem?_eq_getElem hk', hc k _ (List.getElem?_eq_getElem hk')⟩
def IdxEnd (xs : List (List UInt8)) (s : List UInt8) (w : World) (e : Ending) (w' : World) : Prop := ∃ r : Int, e = .returned (.int .i64 r) ∧ (0 ≤ r ↔ s ∈ xs) ∧ w = w'
set_option maxRecDepth 100000 in
set_option maxHeartbeats 4000000 in
theorem c90 (xs : List (List UInt8)) (s : List UInt8) (A : Option Addr) (c : Nat) (w : World) (hr : Reads w w.heap.size 1 A xs.length (xs.map strV)) (hl : xs.length ≤ 3000) : Calls Tryd.prog 90 #[.slice A xs.length c, strV s] w (IdxEnd xs s w) := by
  have HR := Lib.hid hr
  clear hr
  show Calls Tryd.prog 90 #[.slice A xs.length c, .string ⟨s.toArray⟩] w _
  go_enter Tryd.func90, Tryd.ntmps90
  go_wp2_with fail
  go_loopw [8] (fun i wr => ∃ k : Nat, k ≤ xs.length ∧ i = .int .i64 k ∧ wr = w ∧ s ∉ xs.take k) (fun i _ => xs.length - (intOf i).toNat)
  case atStart => exact ⟨0, by omega, rfl, rfl, by simp⟩
  case round =>
    obtain ⟨k, hk, rfl, rfl, hn⟩ := hrel
    have HN := Lib.hid hn
    clear hn
    by_cases hlt : k < xs.length
    · have hlk : (k : Int) < (xs.length : Int) := by omega
      have hk0 : (0 : Int) ≤ (k : Int) := by omega
      obtain ⟨ad, u, rfl, _, hu, hc⟩ := HR.out.at_ hlt
      have hpk : xs[k]? = some xs[k] := List.getElem?_eq_getElem hlt
      rw [List.getElem?_map, hpk] at hu
      obtain rfl := Option.some.inj hu
      have hm := List.mem_of_getElem? hpk
      have ht : xs.take (k + 1) = xs.take k ++ [xs[k]] := by rw [List.take_add_one, hpk]; rfl
      generalize xs[k] = x at hc hm ht hu hpk
      have HM := Lib.hid hm
      have HTk := Lib.hid ht
      clear hm ht hu hpk
      by_cases hx : s = x
      · have ff : (s == x) = true := beq_iff_eq.2 hx
        have HX := Lib.hid hx
        clear hx
        go_wp2_with fail
        go_ret
        exact ⟨(k : Int), rfl, ⟨fun _ => by rw [HX.out]; exact HM.out, fun _ => hk0⟩, by first | rfl | trivial⟩
      · have ff : (s == x) = false := beq_false_of_ne hx
        have HX := Lib.hid (show s ∉ xs.take (k + 1) by
          rw [HTk.out]
          intro h
          rcases List.mem_append.1 h with h | h
          · exact HN.out h
          · exact hx (List.mem_singleton.1 h))
        clear hx
        go_wp2_with fail
        go_roundw
        case rel => exact ⟨k + 1, by omega, by go_num, by first | rfl | trivial, HX.out⟩
        case measure => simp [intOf]; omega
    · obtain rfl : k = xs.length := by omega
      have hlk : ¬ ((xs.length : Int) < (xs.length : Int)) := by omega
      rw [List.take_length] at HN
      go_wp2_with fail
      go_ret
      exact ⟨-1, rfl, ⟨fun h => absurd h (by decide), fun h => (HN.out h).elim⟩, by first | rfl | trivial⟩
set_option maxRecDepth 100000 in
set_option maxHeartbeats 4000000 in
theorem c86 (xs : List (List UInt8)) (s : List UInt8) (A : Option Addr) (c : Nat) (w : World) (hr : Reads w w.heap.size 1 A xs.length (xs.map strV)) (hl : xs.length ≤ 3000) : Calls Tryd.prog 86 #[.slice A xs.length c, strV s] w fun e w' => e = .returned (.bool (decide (s ∈ xs))) ∧ w = w' := by
  have HC := Lib.hid (c90 xs s A c w hr hl)
  clear hr
  show Calls Tryd.prog 86 #[.slice A xs.length c, .string ⟨s.toArray⟩] w _
  go_enter Tryd.func86, Tryd.ntmps86
  go_wp2_with fail
  refine HC.out.mono ?_
  rintro e _ ⟨r, rfl, hi, rfl⟩
  by_cases h : s ∈ xs
  · have h0 : 0 ≤ r := hi.2 h
    have H := Lib.hid (decide_eq_true h)
    clear hi h HC
    go_wp2_with fail
    go_ret
    exact ⟨by rw [H.out]; rfl, by first | rfl | trivial⟩
  · have h0 : ¬ (0 ≤ r) := fun h1 => h (hi.1 h1)
    have H := Lib.hid (decide_eq_false h)
    clear hi h HC
    go_wp2_with fail
    go_ret
    exact ⟨by rw [H.out]; first | rfl | (show Ending.returned (.bool (decide (0 ≤ r))) = _; rw [decide_eq_false (by omega : ¬ (0 ≤ r))]), by first | rfl | trivial⟩
def wordsL : List (List UInt8) := [
  [108, 101, 116],
  [114, 101, 99],
  [105, 110],
  [102, 117, 110],
  [105, 102],
  [116, 104, 101, 110],
  [101, 108, 115, 101],
  [109, 97, 116, 99, 104],
  [119, 105, 116, 104],
  [101, 110, 100],
  [116, 114, 121],
  [114, 97, 105, 115, 101],
  [116, 121, 112, 101],
  [111, 102],
  [116, 114, 117, 101],
  [102, 97, 108, 115, 101],
  [114, 101, 102],
  [101, 109, 105, 116],
  [108, 111, 103],
  [115, 101, 110, 100],
  [114, 101, 99, 118],
  [115, 105, 122, 101],
  [98, 121, 116, 101],
  [116, 101, 120, 116],
  [115, 97, 109, 101],
  [97, 114, 114, 97, 121],
  [103, 101, 116],
  [112, 117, 116],
  [108, 101, 110],
  [105, 110, 116],
  [98, 111, 111, 108],
  [117, 110, 105, 116],
  [115, 116, 114, 105, 110, 103],
  [108, 105, 115, 116]]
def WordsTab (w : World) : Prop := 2 < w.heap.size ∧ ∃ t, w.heap[2]? = some (.cells (wordsL.map strV).toArray t (0, 0))
theorem WordsTab.next {w w' : World} (h : WordsTab w) (hb : Below w.heap.size w w') : WordsTab w' := by
  obtain ⟨h0, t, h1⟩ := h
  exact ⟨Nat.lt_of_lt_of_le h0 hb.size, t, (hb.block 2 h0).trans h1⟩
theorem WordsTab.reads {w : World} (h : WordsTab w) : Reads w w.heap.size 1 (some ⟨2, 0, none⟩) wordsL.length (wordsL.map strV) := by
  obtain ⟨h0, t, h1⟩ := h
  refine ⟨by simp, fun _ => ⟨_, rfl, h0, fun j u hj => ?_⟩⟩
  rw [show (⟨2, 0, none⟩ : Addr).add j = ⟨2, j, none⟩ by simp [Addr.add]; try omega, cell_of_row w 2 j _ t (0, 0) h1]
  simpa using hj
def kindL (s : List UInt8) : Int := if s = [95] then 6 else if s ∈ wordsL then 5 else if gB (byteI (s.headD 0)) then 2 else 1
set_option maxRecDepth 100000 in
set_option maxHeartbeats 4000000 in
theorem c79 (s : List UInt8) (hs : s ≠ []) (hl : s.length ≤ 281474976710656) (w : World) (hw : WordsTab w) : Calls Tryd.prog 79 #[strV s] w fun e w' => e = .returned (.int .i64 (kindL s)) ∧ Below w.heap.size w w' := by
  have HW := Lib.hid hw
  clear hw
  show Calls Tryd.prog 79 #[.string ⟨s.toArray⟩] w _
  by_cases h1 : s = [95]
  · have ff : (s == [95]) = true := beq_iff_eq.2 h1
    have H := Lib.hid (show kindL s = 6 by unfold kindL; rw [if_pos h1])
    clear h1
    go_enter Tryd.func79, Tryd.ntmps79
    go_wp2_with fail
    go_ret
    exact ⟨by rw [H.out]; rfl, Below.refl _ _⟩
  · have ff : (s == [95]) = false := beq_false_of_ne h1
    have H1 := Lib.hid h1
    clear h1
    have HC := Lib.hid (show Calls Tryd.prog 86 #[.slice (some ⟨2, 0, none⟩) 34 34, strV s] w (fun e w' => e = .returned (.bool (decide (s ∈ wordsL))) ∧ w = w') from c86 wordsL s (some ⟨2, 0, none⟩) 34 w HW.out.reads (by decide))
    have hz := strV_size s
    have hp : 0 < s.length := List.length_pos_iff.2 hs
    have hp1 : (0 : Int) < (s.length : Int) := by omega
    have HP := Lib.hid hp
    have HE := Lib.hid hs
    clear hs
    go_enter Tryd.func79, Tryd.ntmps79
    go_wp2_with fail
    refine HC.out.mono ?_
    rintro e _ ⟨rfl, rfl⟩
    by_cases hm : s ∈ wordsL
    · rw [decide_eq_true hm]
      have H := Lib.hid (show kindL s = 5 by unfold kindL; rw [if_neg H1.out, if_pos hm])
      clear hm HC
      go_wp2_with fail
      go_ret
      exact ⟨by rw [H.out]; rfl, Below.refl _ _⟩
    · rw [decide_eq_false hm]
      have H := Lib.hid (show kindL s = if gB (byteI (s.headD 0)) then 2 else 1 by unfold kindL; rw [if_neg H1.out, if_neg hm])
      clear hm HC
      go_wp2_with fail
      refine (c82 _ w).mono ?_
      rintro e w' ⟨he, hw⟩
      have hb : s[0] = s.headD 0 := by
        cases s with
        | nil => exact absurd rfl HE.out
        | cons b r => rfl
      replace he : e = .returned (.bool (gB (byteI s[0]))) := he
      rw [hb] at he
      subst he hw
      clear hb
      cases hg : gB (byteI (s.headD 0)) with
      | true =>
        rw [hg] at H
        clear hg
        go_wp2_with fail
        go_ret
        exact ⟨by rw [H.out]; rfl, Below.refl _ _⟩
      | false =>
        rw [hg] at H
        clear hg
        go_wp2_with fail
        go_ret
        exact ⟨by rw [H.out]; rfl, Below.refl _ _⟩
def isL (s : List UInt8) (k : Int) : Bool := !(s == []) && decide (s.length ≤ 12) && lB (byteI (s.headD 0)) && decide (runL s = s.length) && (kindL s == k)
set_option maxRecDepth 100000 in
set_option maxHeartbeats 4000000 in
theorem c72 (s : List UInt8) (k : Int) (hl : s.length ≤ 281474976710656) (w : World) (hw : WordsTab w) : Calls Tryd.prog 72 #[strV s, .int .i64 k] w fun e w' => e = .returned (.bool (isL s k)) ∧ Below w.heap.size w w' := by
  have HW := Lib.hid hw
  have hz := strV_size s
  clear hw
  show Calls Tryd.prog 72 #[.string ⟨s.toArray⟩, .int .i64 k] w _
  cases s with
  | nil =>
    have H := Lib.hid (show isL [] k = false from rfl)
    go_enter Tryd.func72, Tryd.ntmps72
    go_wp2_with fail
    go_ret
    exact ⟨by rw [H.out]; rfl, Below.refl _ _⟩
  | cons b r =>
  obtain ⟨s, hs⟩ : ∃ s, s = b :: r := ⟨_, rfl⟩
  have hne : s ≠ [] := by rw [hs]; exact List.cons_ne_nil _ _
  have hhd : s.headD 0 = b := by rw [hs]; rfl
  rw [← hs] at hl hz ⊢
  have hp : 0 < s.length := List.length_pos_iff.2 hne
  have HNE := Lib.hid hne
  have HHD := Lib.hid hhd
  have ff : (s == []) = false := beq_false_of_ne hne
  have HFF := Lib.hid ff
  have hp1 : (0 : Int) < (s.length : Int) := by omega
  have h0 : s[0] = s.headD 0 := by subst hs; rfl
  have H0 := Lib.hid h0
  clear hne hhd hs h0
  by_cases h12 : s.length ≤ 12
  · have hi12 : (s.length : Int) ≤ 12 := by omega
    have H12 := Lib.hid h12
    go_enter Tryd.func72, Tryd.ntmps72
    go_wp2_with fail
    refine (c77 _ w).mono ?_
    rintro e w' ⟨he, hw⟩
    replace he : e = .returned (.bool (lB (byteI s[0]))) := he
    rw [H0.out] at he
    subst he hw
    cases hlb : lB (byteI (s.headD 0)) with
    | false =>
      have H := Lib.hid (show isL s k = false by unfold isL; rw [hlb]; simp)
      clear hlb
      go_wp2_with fail
      go_ret
      exact ⟨by rw [H.out]; rfl, Below.refl _ _⟩
    | true =>
      have HLB := Lib.hid hlb
      clear hlb
      go_wp2_with fail
      refine (c78 s hl w).mono ?_
      rintro e _ ⟨rfl, rfl⟩
      by_cases hr : runL s = s.length
      · have HR := Lib.hid hr
        have fr : ((s.length : Int) == (s.length : Int)) = true := beq_self_eq_true _
        rw [hr]
        clear hr
        go_wp2_with fail
        refine (c79 s HNE.out hl w HW.out).mono ?_
        rintro e w3 ⟨rfl, hb3⟩
        have HB3 := Lib.hid hb3
        clear hb3 fr
        have H := Lib.hid (show isL s k = (kindL s == k) by unfold isL; rw [HFF.out, decide_eq_true H12.out, HLB.out, decide_eq_true HR.out]; rfl)
        go_wp2_with fail
        go_ret
        exact ⟨by rw [H.out]; rfl, HB3.out⟩
      · have H := Lib.hid (show isL s k = false by unfold isL; rw [decide_eq_false hr]; simp)
        have fr : ((runL s : Int) == (s.length : Int)) = false := beq_false_of_ne (by omega)
        clear hr
        go_wp2_with fail
        go_ret
        exact ⟨by rw [H.out]; rfl, Below.refl _ _⟩
  · have hi12 : ¬ ((s.length : Int) ≤ 12) := by omega
    have H := Lib.hid (show isL s k = false by unfold isL; rw [decide_eq_false h12]; simp)
    have hi13 : (12 : Int) < (s.length : Int) := by omega
    go_enter Tryd.func72, Tryd.ntmps72
    go_wp2_with fail
    go_ret
    exact ⟨by rw [H.out]; rfl, Below.refl _ _⟩
set_option maxRecDepth 100000 in
set_option maxHeartbeats 4000000 in
theorem c51 (s : List UInt8) (hl : s.length ≤ 281474976710656) (w : World) (hw : WordsTab w) : Calls Tryd.prog 51 #[strV s] w fun e w' => e = .returned (.bool (isL s 1)) ∧ Below w.heap.size w w' := by
  have HC := Lib.hid (c72 s 1 hl w hw)
  clear hw
  show Calls Tryd.prog 51 #[.string ⟨s.toArray⟩] w _
  go_enter Tryd.func51, Tryd.ntmps51
  go_wp2_with fail
  refine HC.out.mono ?_
  rintro e w1 ⟨rfl, hb⟩
  have HB := Lib.hid hb
  clear hb
  go_wp2_with fail
  go_ret
  exact ⟨rfl, HB.out⟩
set_option maxRecDepth 100000 in
set_option maxHeartbeats 4000000 in
theorem c52 (s : List UInt8) (hl : s.length ≤ 281474976710656) (w : World) (hw : WordsTab w) : Calls Tryd.prog 52 #[strV s] w fun e w' => e = .returned (.bool (isL s 2)) ∧ Below w.heap.size w w' := by
  have HC := Lib.hid (c72 s 2 hl w hw)
  clear hw
  show Calls Tryd.prog 52 #[.string ⟨s.toArray⟩] w _
  go_enter Tryd.func52, Tryd.ntmps52
  go_wp2_with fail
  refine HC.out.mono ?_
  rintro e w1 ⟨rfl, hb⟩
  have HB := Lib.hid hb
  clear hb
  go_wp2_with fail
  go_ret
  exact ⟨rfl, HB.out⟩
def textL (s : List UInt8) (k : Int) : Bool := if k = 1 then isL s 1 else if k = 2 then (s == [95] || isL s 1) else if k = 3 then isL s 2 else s == []
def TextEnd (s : List UInt8) (k : Int) (w : World) (e : Ending) (w' : World) : Prop := ∃ r, e = .returned (.bool r) ∧ (k ≠ 4 → r = textL s k) ∧ Below w.heap.size w w'
set_option maxRecDepth 100000 in
set_option maxHeartbeats 4000000 in
theorem c35 (s : List UInt8) (k : Int) (hl : s.length ≤ 281474976710656) (w : World) (hw : WordsTab w) : Calls Tryd.prog 35 #[strV s, .int .i64 k] w (TextEnd s k w) := by
  have H1 := Lib.hid (c51 s hl w hw)
  have H2 := Lib.hid (c52 s hl w hw)
  have H4 := Lib.hid (c53 s hl w)
  clear hw
  show Calls Tryd.prog 35 #[.string ⟨s.toArray⟩, .int .i64 k] w _
  by_cases k1 : k = 1
  · subst k1
    go_enter Tryd.func35, Tryd.ntmps35
    go_wp2_with fail
    refine H1.out.mono ?_
    rintro e w1 ⟨rfl, hb⟩
    have HB := Lib.hid hb
    clear hb
    go_wp2_with fail
    go_ret
    exact ⟨_, rfl, fun _ => rfl, HB.out⟩
  by_cases k2 : k = 2
  · subst k2
    by_cases h5 : s = [95]
    · have ff : (s == [95]) = true := beq_iff_eq.2 h5
      have F := Lib.hid ff
      clear h5
      go_enter Tryd.func35, Tryd.ntmps35
      go_wp2_with fail
      go_ret
      exact ⟨_, rfl, fun _ => by unfold textL; rw [if_neg (by omega), if_pos rfl, F.out]; rfl, Below.refl _ _⟩
    · have ff : (s == [95]) = false := beq_false_of_ne h5
      have F := Lib.hid ff
      clear h5
      go_enter Tryd.func35, Tryd.ntmps35
      go_wp2_with fail
      refine H1.out.mono ?_
      rintro e w1 ⟨rfl, hb⟩
      have HB := Lib.hid hb
      clear hb
      go_wp2_with fail
      go_ret
      exact ⟨_, rfl, fun _ => by unfold textL; rw [if_neg (by omega), if_pos rfl, F.out]; rfl, HB.out⟩
  by_cases k3 : k = 3
  · subst k3
    go_enter Tryd.func35, Tryd.ntmps35
    go_wp2_with fail
    refine H2.out.mono ?_
    rintro e w1 ⟨rfl, hb⟩
    have HB := Lib.hid hb
    clear hb
    go_wp2_with fail
    go_ret
    exact ⟨_, rfl, fun _ => rfl, HB.out⟩
  by_cases k4 : k = 4
  · subst k4
    go_enter Tryd.func35, Tryd.ntmps35
    go_wp2_with fail
    refine H4.out.mono ?_
    rintro e w1 ⟨q, r, rfl, hb⟩
    have HB := Lib.hid hb
    clear hb
    go_wp2_with fail
    go_ret
    exact ⟨_, rfl, fun h => absurd rfl h, HB.out⟩
  have f1 : (k == 1) = false := beq_false_of_ne k1
  have f2 : (k == 2) = false := beq_false_of_ne k2
  have f3 : (k == 3) = false := beq_false_of_ne k3
  have f4 : (k == 4) = false := beq_false_of_ne k4
  have HK := Lib.hid (show k ≠ 1 ∧ k ≠ 2 ∧ k ≠ 3 from ⟨k1, k2, k3⟩)
  clear k1 k2 k3 k4
  by_cases h5 : s = []
  · have ff : (s == []) = true := beq_iff_eq.2 h5
    have F := Lib.hid ff
    clear h5
    go_enter Tryd.func35, Tryd.ntmps35
    go_wp2_with fail
    go_ret
    exact ⟨_, rfl, fun _ => by unfold textL; rw [if_neg HK.out.1, if_neg HK.out.2.1, if_neg HK.out.2.2, F.out], Below.refl _ _⟩
  · have ff : (s == []) = false := beq_false_of_ne h5
    have F := Lib.hid ff
    clear h5
    go_enter Tryd.func35, Tryd.ntmps35
    go_wp2_with fail
    go_ret
    exact ⟨_, rfl, fun _ => by unfold textL; rw [if_neg HK.out.1, if_neg HK.out.2.1, if_neg HK.out.2.2, F.out], Below.refl _ _⟩
def EffEnd (w : World) (e : Ending) (w' : World) : Prop := ∃ (a b : Int) (r : Bool), e = .returned (.tuple #[.int .i64 a, .int .i64 b, .bool r]) ∧ Below w.heap.size w w'
set_option maxRecDepth 100000 in
set_option maxHeartbeats 4000000 in
theorem c73 (o : Nat) (h1 : o < 38) (h2 : o ≠ 36) (h3 : o ≠ 6) (h4 : o ≠ 19) (w : World) (ht : OpTab w) : Calls Tryd.prog 73 #[.agg #[.int .i64 (o : Int), .int .i64 0, .int .i64 0]] w (EffEnd w) := by
  have HT := Lib.hid ht
  have f0 : (0 : Int) ≤ (o : Int) := by omega
  have f4 : (o : Int) < 38 := by omega
  have f3 : ((o : Int) == 36) = false := beq_false_of_ne (by omega)
  have f6 : ((o : Int) == 6) = false := beq_false_of_ne (by omega)
  have f9 : ((o : Int) == 19) = false := beq_false_of_ne (by omega)
  have hb := below_new w (.cells #[.int .i64 (o : Int), .int .i64 0, .int .i64 0] 103)
  have HC := Lib.hid (c80 o h1 h2 _ (ht.next hb))
  have HX := Lib.hid (Blk.new w 103 #[.int .i64 (o : Int), .int .i64 0, .int .i64 0])
  have HB := Lib.hid hb
  have H1 := Lib.hid h1
  clear ht hb h1 h2 h3 h4
  go_enter Tryd.func73, Tryd.ntmps73
  go_wp2_with fail
  refine HC.out.mono ?_
  rintro e w2 ⟨r, rfl, hb2⟩
  have HB2 := Lib.hid (next_ HB.out hb2)
  have HX2 := Lib.hid (HX.out.next hb2)
  clear hb2 HC HX
  generalize hxb : w.heap.size = xb at HX2 ⊢
  have x0 : w2.cell? ⟨xb, 0, none⟩ = some (.int .i64 (o : Int)) := HX2.out.cell 0
  cases r with
  | false =>
    go_wp2_with fail
    go_ret3
    exact ⟨0, 0, false, rfl, HB2.out⟩
  | true =>
    go_upto_region 3 with fail
    obtain ⟨nm, a1, a2, b1, b2, tk, lv, hc⟩ := (HT.out.next HB2.out).2 o H1.out
    rw [show (⟨1, 0, none⟩ : Addr).add (o * 7) = ⟨1, o * 7, none⟩ by simp [Addr.add]; try omega] at hc
    have HC := Lib.hid hc
    have HR := Lib.hid (Blk.new w2 130 #[.string nm, .int .i64 a1, .int .i64 a2, .int .i64 b1, .int .i64 b2, .int .i64 tk, .int .i64 lv])
    have HX3 := Lib.hid (HX2.out.next (below_new w2 (.cells #[.string nm, .int .i64 a1, .int .i64 a2, .int .i64 b1, .int .i64 b2, .int .i64 tk, .int .i64 lv] 130)))
    have HB3 := Lib.hid (next_ HB2.out (below_new w2 (.cells #[.string nm, .int .i64 a1, .int .i64 a2, .int .i64 b1, .int .i64 b2, .int .i64 tk, .int .i64 lv] 130)))
    clear hc
    go_upto_region 4 with (first | (refine wpList_load_at rfl 130 (.tmp 11) rfl ⟨1, o * 7, none⟩ rfl [.string nm, .int .i64 a1, .int .i64 a2, .int .i64 b1, .int .i64 b2, .int .i64 tk, .int .i64 lv] _ HC.out Tryd.underlying130 rfl (by kernel_rfl) ?_))
    clear x0
    generalize w2.alloc (.cells #[.string nm, .int .i64 a1, .int .i64 a2, .int .i64 b1, .int .i64 b2, .int .i64 tk, .int .i64 lv] 130) = w3 at HR HX3 HB3 ⊢
    generalize w2.heap.size = rb at HR ⊢
    have x0 : w3.cell? ⟨xb, 0, none⟩ = some (.int .i64 (o : Int)) := HX3.out.cell 0
    have r3 : w3.cell? ⟨rb, 5, none⟩ = some (.int .i64 tk) := HR.out.cell 5
    have r4 : w3.cell? ⟨rb, 6, none⟩ = some (.int .i64 lv) := HR.out.cell 6
    go_wp2_with fail
    go_quiet (fail)
    have hb := below_drewN HB3.out nq
    have HB4 := Lib.hid hb
    clear hb
    go_wp2_with fail
    go_ret3
    exact ⟨tk, lv, true, rfl, HB4.out⟩
theorem nod_one1 (p : Nod) : ∀ u ∈ nodC p, u.oneCell' = true := by simp [nodC, Value.oneCell']
theorem nod_one (l : List Nod) : ∀ u ∈ l.flatMap nodC, u.oneCell' = true := fun u hu => by
  obtain ⟨p, _, h⟩ := List.mem_flatMap.1 hu
  exact nod_one1 p u h
theorem int_one (l : List Int) : ∀ u ∈ l.map intV, u.oneCell' = true := fun u hu => by
  obtain ⟨p, _, rfl⟩ := List.mem_map.1 hu
  rfl
theorem node_info : (Tryd.prog.info? 30).map (fun i => (i.zero, i.size, i.bytes)) = some (some (.agg #[.int .i64 0, .string ⟨#[]⟩, .string ⟨#[]⟩, .int .i64 0, .int .i64 0, .int .i64 0, .int .i64 0, .int .i64 0]), 8, 80) := by kernel_rfl
theorem int_info : (Tryd.prog.info? 3).map (fun i => (i.zero, i.size, i.bytes)) = some (some (.int .i64 0), 1, 8) := by kernel_rfl
theorem tree_end {w W : World} {x y x0 y0 u0 : Value} {rb n m : Nat} {xs ys : List Value} (hA : w.ownsRow W.heap.size 30 8 x n xs) (hB : w.ownsRow W.heap.size 3 1 y m ys) (R : Blk w rb 25 #[x0, y0, u0]) (L : Below W.heap.size W w) (hrb : W.heap.size ≤ rb) (r : Int) :
    (((w.setCell ⟨rb, 0, none⟩ x).setCell ⟨rb, 1, none⟩ y).setCell ⟨rb, 2, none⟩ (.int .i64 r)).ownsRow W.heap.size 30 8 x n xs ∧ (((w.setCell ⟨rb, 0, none⟩ x).setCell ⟨rb, 1, none⟩ y).setCell ⟨rb, 2, none⟩ (.int .i64 r)).ownsRow W.heap.size 3 1 y m ys ∧ Blk (((w.setCell ⟨rb, 0, none⟩ x).setCell ⟨rb, 1, none⟩ y).setCell ⟨rb, 2, none⟩ (.int .i64 r)) rb 25 #[x, y, .int .i64 r] ∧ Below W.heap.size W (((w.setCell ⟨rb, 0, none⟩ x).setCell ⟨rb, 1, none⟩ y).setCell ⟨rb, 2, none⟩ (.int .i64 r)) := by
  have r1 := R.set_ 0 x
  have r2 := r1.set_ 1 y
  exact ⟨own_set (own_set (own_set hA R (by decide)) r1 (by decide)) r2 (by decide), own_set (own_set (own_set hB R (by decide)) r1 (by decide)) r2 (by decide), r2.set_ 2 _, ((L.setCell (p := ⟨rb, 0, none⟩) hrb x).setCell (p := ⟨rb, 1, none⟩) hrb y).setCell (p := ⟨rb, 2, none⟩) hrb _⟩
def TreeBack (t : Tre) (W : World) (e : Ending) (W' : World) : Prop := ∃ A c A' c', e = .returned (treV A c A' c' t) ∧ W'.ownsRow W.heap.size 30 8 (.slice A t.l.length c) t.l.length (t.l.flatMap nodC) ∧ W'.ownsRow W.heap.size 3 1 (.slice A' t.y.length c') t.y.length (t.y.map intV) ∧ Below W.heap.size W W'
set_option maxRecDepth 100000 in
set_option maxHeartbeats 8000000 in
theorem c9 (t : Tre) (A A' : Option Addr) (c c' : Nat) (W : World) (ht : TreIs W A A' t) (hl : t.l.length ≤ 3000) (hy : t.y.length ≤ 3000) :
    Calls Tryd.prog 9 #[treV A c A' c' t] W (TreeBack t W) := by
  have HT := Lib.hid ht
  clear ht
  obtain ⟨i30, fi30, hz0, hz1, hz2⟩ := info_parts node_info
  obtain ⟨i3, fi3, iz0, iz1, iz2⟩ := info_parts int_info
  have H30 := Lib.hid (show i30.zero = some (.agg #[.int .i64 0, .string ⟨#[]⟩, .string ⟨#[]⟩, .int .i64 0, .int .i64 0, .int .i64 0, .int .i64 0, .int .i64 0]) ∧ i30.size = 8 ∧ i30.bytes = 80 from ⟨hz0, hz1, hz2⟩)
  have H3 := Lib.hid (show i3.zero = some (.int .i64 0) ∧ i3.size = 1 ∧ i3.bytes = 8 from ⟨iz0, iz1, iz2⟩)
  clear hz0 hz1 hz2 iz0 iz1 iz2
  show Calls Tryd.prog 9 #[.agg #[.slice A t.l.length c, .slice A' t.y.length c', .int .i64 t.r]] W _
  go_enter Tryd.func9, Tryd.ntmps9
  go_upto_region 1 with fail
  have hX := Blk.new W 25 #[.slice A t.l.length c, .slice A' t.y.length c', .int .i64 t.r]
  have hb0 := below_new W (.cells #[.slice A t.l.length c, .slice A' t.y.length c', .int .i64 t.r] 25)
  have hs0 : (W.alloc (.cells #[.slice A t.l.length c, .slice A' t.y.length c', .int .i64 t.r] 25)).heap.size = W.heap.size + 1 := by rw [World.size_alloc]
  have hR := Blk.new (W.alloc (.cells #[.slice A t.l.length c, .slice A' t.y.length c', .int .i64 t.r] 25)) 25 #[.slice none 0 0, .slice none 0 0, .int .i64 0]
  rw [hs0] at hR
  have hX1 := hX.alloc (.cells #[.slice none 0 0, .slice none 0 0, .int .i64 0] 25)
  have hb1 := hb0.alloc hb0.size (.cells #[.slice none 0 0, .slice none 0 0, .int .i64 0] 25)
  have hN := Reads.below HT.out.nodes hb1
  have hY := Reads.below HT.out.types hb1
  generalize (W.alloc (.cells #[.slice A t.l.length c, .slice A' t.y.length c', .int .i64 t.r] 25)).alloc (.cells #[.slice none 0 0, .slice none 0 0, .int .i64 0] 25) = w1 at hR hX1 hb1 hN hY ⊢
  clear hX hb0 hs0
  have hrb : W.heap.size ≤ W.heap.size + 1 := by omega
  generalize W.heap.size + 1 = rb at hR hrb ⊢
  generalize W.heap.size = xb at hX1 ⊢
  refine wp_region_last (S := fun V => V.cell? ⟨xb, 0, none⟩ = some (.slice A t.l.length c) ∧ V.cell? ⟨xb, 1, none⟩ = some (.slice A' t.y.length c') ∧ V.cell? ⟨xb, 2, none⟩ = some (.int .i64 t.r)) 11 (by kernel_rfl) (by kernel_rfl) (by kernel_rfl) (by kernel_rfl) ⟨hX1.cell 0, hX1.cell 1, hX1.cell 2⟩ (fun hHeld => ?_)
  have Ld := Below.drew hb1
  have Xd := hX1.drew
  have Rd := hR.drew
  have Nd := Reads.below hN (Below.drew (Below.refl _ w1))
  have Yd := Reads.below hY (Below.drew (Below.refl _ w1))
  generalize w1.drew = d at Ld Xd Rd Nd Yd hHeld ⊢
  clear hX1 hb1 hN hY hR
  refine tkH 1 4 ?_ rfl ?_ ?_
  rotate_left
  · rintro V ⟨z0, z1, z2⟩; go_simp; try with_reducible rfl
  try simp only [Act.put, sLA, sL0, sL1]
  refine tkH 2 5 ?_ rfl ?_ ?_
  rotate_left
  · rintro V ⟨z0, z1, z2⟩; go_simp; try with_reducible rfl
  try simp only [Act.put, sLA, sL0, sL1]
  refine tkH 5 8 ?_ rfl ?_ ?_
  rotate_left
  · rintro V ⟨z0, z1, z2⟩; go_simp; try with_reducible rfl
  try simp only [Act.put, sLA, sL0, sL1]
  refine tkH 6 9 ?_ rfl ?_ ?_
  rotate_left
  · rintro V ⟨z0, z1, z2⟩; go_simp; try with_reducible rfl
  try simp only [Act.put, sLA, sL0, sL1]
  refine tkH 8 11 ?_ rfl ?_ ?_
  rotate_left
  · rintro V ⟨z0, z1, z2⟩; go_simp; try with_reducible rfl
  try simp only [Act.put, sLA, sL0, sL1]
  refine tkH 9 12 ?_ rfl ?_ ?_
  rotate_left
  · rintro V ⟨z0, z1, z2⟩; go_simp; try with_reducible rfl
  try simp only [Act.put, sLA, sL0, sL1]
  refine wpAnyH_ready (rs := [0, 4]) (by kernel_rfl) (by simp) ?_
  refine (AllReadyH.cons (o := ⟨some 3, _, _, _, _, _⟩) rfl (fun K hK => ?_) (AllReadyH.cons (o := ⟨some 7, _, _, _, _, _⟩) rfl (fun K hK => ?_) AllReadyH.nil))
  · go_simp
    refine hK.out _ _ ?_ (fun hHeld => ?_)
    · exact ⟨(Xd.alloc _).cell 0, (Xd.alloc _).cell 1, (Xd.alloc _).cell 2⟩
    clear hK K
    try simp only [Act.put, sLA, sL0, sL1]
    have Ad0 := own_new d (b := W.heap.size) (n := 0) (e := 30) (s := 8) (xs := []) Ld.size rfl (by unfold maxLen; decide)
    have Ld0 := Ld.alloc Ld.size (.cells #[] 30)
    have Xd0 := Xd.alloc (.cells #[] 30)
    have Rd0 := Rd.alloc (.cells #[] 30)
    have Nd0 := Nd.alloc Ld.size (.cells #[] 30)
    have Yd0 := Yd.alloc Ld.size (.cells #[] 30)
    generalize d.heap.size = b0 at Ad0 ⊢
    generalize d.alloc (.cells #[] 30) = d0 at Ld0 Xd0 Rd0 Nd0 Yd0 Ad0 hHeld ⊢
    refine wpAnyH_ready (rs := [3, 4]) (by kernel_rfl) (by simp) ?_
    refine (AllReadyH.cons (o := ⟨some 6, _, _, _, _, _⟩) rfl (fun K hK => ?_) (AllReadyH.cons (o := ⟨some 7, _, _, _, _, _⟩) rfl (fun K hK => ?_) AllReadyH.nil))
    · refine step_append_any _ (by rfl) (.tmp 3) (.tmp 5) 22 (by rfl) W.heap.size 30 i30 _ 8 80 Tryd.underlying22 fi30 H30.out.1 H30.out.2.1 H30.out.2.2 rfl (by omega) (.slice (some ⟨b0, 0, none⟩) 0 0) 0 [] (by rfl) Ad0 W.heap.size A t.l.length c (t.l.flatMap nodC) (by rfl) Nd0 (nod_one _) (by unfold maxLen; omega) (by omega) Ld0.size ?_
      intro e3 d03 od03 gd03 nd03
      rw [Nat.zero_add, List.nil_append] at od03
      obtain ⟨V3, d3, rfl⟩ := own_form od03
      have Xd03 := Xd0.grown gd03 (fun e => own_blk_ne Ad0 Xd0 (by decide) e.symm)
      have Rd03 := Rd0.grown gd03 (fun e => own_blk_ne Ad0 Rd0 (by decide) e.symm)
      have Ld03' := (Below.refl W.heap.size d0).grown gd03 Ld0.size (fun k e => (Ad0.lt k e).1)
      have Ld03 := Ld0.trans Ld03'
      have Nd03 := Reads.below Nd0 Ld03'
      have Yd03 := Reads.below Yd0 Ld03'
      have Ad03 := od03
      refine hK.out _ _ ?_ (fun hHeld => ?_)
      · exact ⟨Xd03.cell 0, Xd03.cell 1, Xd03.cell 2⟩
      clear hK K
      try simp only [Act.put, sLA, sL0, sL1]
      refine wpAnyH_ready (rs := [4]) (by kernel_rfl) (by simp) ?_
      refine (AllReadyH.cons (o := ⟨some 7, _, _, _, _, _⟩) rfl (fun K hK => ?_) AllReadyH.nil)
      · go_simp
        refine hK.out _ _ ?_ (fun hHeld => ?_)
        · exact ⟨(Xd03.alloc _).cell 0, (Xd03.alloc _).cell 1, (Xd03.alloc _).cell 2⟩
        clear hK K
        try simp only [Act.put, sLA, sL0, sL1]
        have Bd034 := own_new d03 (b := W.heap.size) (n := 0) (e := 3) (s := 1) (xs := []) Ld03.size rfl (by unfold maxLen; decide)
        have Ld034 := Ld03.alloc Ld03.size (.cells #[] 3)
        have Xd034 := Xd03.alloc (.cells #[] 3)
        have Rd034 := Rd03.alloc (.cells #[] 3)
        have Nd034 := Nd03.alloc Ld03.size (.cells #[] 3)
        have Yd034 := Yd03.alloc Ld03.size (.cells #[] 3)
        have Ad034 := Ad03.alloc (.cells #[] 3)
        generalize d03.heap.size = b4 at Bd034 ⊢
        generalize d03.alloc (.cells #[] 3) = d034 at Ld034 Xd034 Rd034 Nd034 Yd034 Bd034 Ad034 hHeld ⊢
        refine wpAnyH_ready (rs := [7]) (by kernel_rfl) (by simp) ?_
        refine (AllReadyH.cons (o := ⟨some 10, _, _, _, _, _⟩) rfl (fun K hK => ?_) AllReadyH.nil)
        · refine step_append_any _ (by rfl) (.tmp 7) (.tmp 9) 23 (by rfl) W.heap.size 3 i3 _ 1 8 Tryd.underlying23 fi3 H3.out.1 H3.out.2.1 H3.out.2.2 rfl (by omega) (.slice (some ⟨b4, 0, none⟩) 0 0) 0 [] (by rfl) Bd034 W.heap.size A' t.y.length c' (t.y.map intV) (by rfl) Yd034 (int_one _) (by unfold maxLen; omega) (by omega) Ld034.size ?_
          intro e7 d0347 od0347 gd0347 nd0347
          rw [Nat.zero_add, List.nil_append] at od0347
          obtain ⟨V7, d7, rfl⟩ := own_form od0347
          have Xd0347 := Xd034.grown gd0347 (fun e => own_blk_ne Bd034 Xd034 (by decide) e.symm)
          have Rd0347 := Rd034.grown gd0347 (fun e => own_blk_ne Bd034 Rd034 (by decide) e.symm)
          have Ld0347' := (Below.refl W.heap.size d034).grown gd0347 Ld034.size (fun k e => (Bd034.lt k e).1)
          have Ld0347 := Ld034.trans Ld0347'
          have Nd0347 := Reads.below Nd034 Ld0347'
          have Yd0347 := Reads.below Yd034 Ld0347'
          have Bd0347 := od0347
          have Ad0347 := Ad034.kept gd0347 (own_own_ne Ad034 Bd034 (by decide))
          refine hK.out _ _ ?_ (fun hHeld => ?_)
          · exact ⟨Xd0347.cell 0, Xd0347.cell 1, Xd0347.cell 2⟩
          clear hK K
          try simp only [Act.put, sLA, sL0, sL1]
          refine tkH 10 13 ?_ rfl ?_ ?_
          rotate_left
          · intro V hSw
            go_simp
            try with_reducible rfl
          try simp only [Act.put, sLA, sL0, sL1]
          refine wpAnyH_done (by kernel_rfl) ?_ _
          have r0 := Rd0347.cell 0
          have r1 := Rd0347.cell 1
          have r2 := Rd0347.cell 2
          have z0 := Rd0347.frozen 0
          have z1 := Rd0347.frozen 1
          have z2 := Rd0347.frozen 2
          refine lastPost_run (o := ⟨none, _, _, _, _, _⟩) rfl (fun K hK => ?_)
          go_simp
          refine hK.out _ _ ?_
          clear hK K r0 r1 r2 z0 z1 z2 hHeld
          have hend := tree_end (Ad0347) (Bd0347) Rd0347 Ld0347 hrb t.r
          obtain ⟨k1, k2, k3, k4⟩ := hend
          go_wp2_with fail
          exact bodyPost_ret (results_cell_row rfl _ _ _ 25 _ (0, 0) _ rfl k3 Tryd.underlying25 rfl (by kernel_rfl)) rfl ⟨_, _, _, _, rfl, k1, k2, k4⟩
    · go_simp
      refine hK.out _ _ ?_ (fun hHeld => ?_)
      · exact ⟨(Xd0.alloc _).cell 0, (Xd0.alloc _).cell 1, (Xd0.alloc _).cell 2⟩
      clear hK K
      try simp only [Act.put, sLA, sL0, sL1]
      have Bd04 := own_new d0 (b := W.heap.size) (n := 0) (e := 3) (s := 1) (xs := []) Ld0.size rfl (by unfold maxLen; decide)
      have Ld04 := Ld0.alloc Ld0.size (.cells #[] 3)
      have Xd04 := Xd0.alloc (.cells #[] 3)
      have Rd04 := Rd0.alloc (.cells #[] 3)
      have Nd04 := Nd0.alloc Ld0.size (.cells #[] 3)
      have Yd04 := Yd0.alloc Ld0.size (.cells #[] 3)
      have Ad04 := Ad0.alloc (.cells #[] 3)
      generalize d0.heap.size = b4 at Bd04 ⊢
      generalize d0.alloc (.cells #[] 3) = d04 at Ld04 Xd04 Rd04 Nd04 Yd04 Bd04 Ad04 hHeld ⊢
      refine wpAnyH_ready (rs := [3]) (by kernel_rfl) (by simp) ?_
      refine (AllReadyH.cons (o := ⟨some 6, _, _, _, _, _⟩) rfl (fun K hK => ?_) AllReadyH.nil)
      · refine step_append_any _ (by rfl) (.tmp 3) (.tmp 5) 22 (by rfl) W.heap.size 30 i30 _ 8 80 Tryd.underlying22 fi30 H30.out.1 H30.out.2.1 H30.out.2.2 rfl (by omega) (.slice (some ⟨b0, 0, none⟩) 0 0) 0 [] (by rfl) Ad04 W.heap.size A t.l.length c (t.l.flatMap nodC) (by rfl) Nd04 (nod_one _) (by unfold maxLen; omega) (by omega) Ld04.size ?_
        intro e3 d043 od043 gd043 nd043
        rw [Nat.zero_add, List.nil_append] at od043
        obtain ⟨V3, d3, rfl⟩ := own_form od043
        have Xd043 := Xd04.grown gd043 (fun e => own_blk_ne Ad04 Xd04 (by decide) e.symm)
        have Rd043 := Rd04.grown gd043 (fun e => own_blk_ne Ad04 Rd04 (by decide) e.symm)
        have Ld043' := (Below.refl W.heap.size d04).grown gd043 Ld04.size (fun k e => (Ad04.lt k e).1)
        have Ld043 := Ld04.trans Ld043'
        have Nd043 := Reads.below Nd04 Ld043'
        have Yd043 := Reads.below Yd04 Ld043'
        have Ad043 := od043
        have Bd043 := Bd04.kept gd043 (own_own_ne Bd04 Ad04 (by decide))
        refine hK.out _ _ ?_ (fun hHeld => ?_)
        · exact ⟨Xd043.cell 0, Xd043.cell 1, Xd043.cell 2⟩
        clear hK K
        try simp only [Act.put, sLA, sL0, sL1]
        refine wpAnyH_ready (rs := [7]) (by kernel_rfl) (by simp) ?_
        refine (AllReadyH.cons (o := ⟨some 10, _, _, _, _, _⟩) rfl (fun K hK => ?_) AllReadyH.nil)
        · refine step_append_any _ (by rfl) (.tmp 7) (.tmp 9) 23 (by rfl) W.heap.size 3 i3 _ 1 8 Tryd.underlying23 fi3 H3.out.1 H3.out.2.1 H3.out.2.2 rfl (by omega) (.slice (some ⟨b4, 0, none⟩) 0 0) 0 [] (by rfl) Bd043 W.heap.size A' t.y.length c' (t.y.map intV) (by rfl) Yd043 (int_one _) (by unfold maxLen; omega) (by omega) Ld043.size ?_
          intro e7 d0437 od0437 gd0437 nd0437
          rw [Nat.zero_add, List.nil_append] at od0437
          obtain ⟨V7, d7, rfl⟩ := own_form od0437
          have Xd0437 := Xd043.grown gd0437 (fun e => own_blk_ne Bd043 Xd043 (by decide) e.symm)
          have Rd0437 := Rd043.grown gd0437 (fun e => own_blk_ne Bd043 Rd043 (by decide) e.symm)
          have Ld0437' := (Below.refl W.heap.size d043).grown gd0437 Ld043.size (fun k e => (Bd043.lt k e).1)
          have Ld0437 := Ld043.trans Ld0437'
          have Nd0437 := Reads.below Nd043 Ld0437'
          have Yd0437 := Reads.below Yd043 Ld0437'
          have Bd0437 := od0437
          have Ad0437 := Ad043.kept gd0437 (own_own_ne Ad043 Bd043 (by decide))
          refine hK.out _ _ ?_ (fun hHeld => ?_)
          · exact ⟨Xd0437.cell 0, Xd0437.cell 1, Xd0437.cell 2⟩
          clear hK K
          try simp only [Act.put, sLA, sL0, sL1]
          refine tkH 10 13 ?_ rfl ?_ ?_
          rotate_left
          · intro V hSw
            go_simp
            try with_reducible rfl
          try simp only [Act.put, sLA, sL0, sL1]
          refine wpAnyH_done (by kernel_rfl) ?_ _
          have r0 := Rd0437.cell 0
          have r1 := Rd0437.cell 1
          have r2 := Rd0437.cell 2
          have z0 := Rd0437.frozen 0
          have z1 := Rd0437.frozen 1
          have z2 := Rd0437.frozen 2
          refine lastPost_run (o := ⟨none, _, _, _, _, _⟩) rfl (fun K hK => ?_)
          go_simp
          refine hK.out _ _ ?_
          clear hK K r0 r1 r2 z0 z1 z2 hHeld
          have hend := tree_end (Ad0437) (Bd0437) Rd0437 Ld0437 hrb t.r
          obtain ⟨k1, k2, k3, k4⟩ := hend
          go_wp2_with fail
          exact bodyPost_ret (results_cell_row rfl _ _ _ 25 _ (0, 0) _ rfl k3 Tryd.underlying25 rfl (by kernel_rfl)) rfl ⟨_, _, _, _, rfl, k1, k2, k4⟩
  · go_simp
    refine hK.out _ _ ?_ (fun hHeld => ?_)
    · exact ⟨(Xd.alloc _).cell 0, (Xd.alloc _).cell 1, (Xd.alloc _).cell 2⟩
    clear hK K
    try simp only [Act.put, sLA, sL0, sL1]
    have Bd4 := own_new d (b := W.heap.size) (n := 0) (e := 3) (s := 1) (xs := []) Ld.size rfl (by unfold maxLen; decide)
    have Ld4 := Ld.alloc Ld.size (.cells #[] 3)
    have Xd4 := Xd.alloc (.cells #[] 3)
    have Rd4 := Rd.alloc (.cells #[] 3)
    have Nd4 := Nd.alloc Ld.size (.cells #[] 3)
    have Yd4 := Yd.alloc Ld.size (.cells #[] 3)
    generalize d.heap.size = b4 at Bd4 ⊢
    generalize d.alloc (.cells #[] 3) = d4 at Ld4 Xd4 Rd4 Nd4 Yd4 Bd4 hHeld ⊢
    refine wpAnyH_ready (rs := [0]) (by kernel_rfl) (by simp) ?_
    refine (AllReadyH.cons (o := ⟨some 3, _, _, _, _, _⟩) rfl (fun K hK => ?_) AllReadyH.nil)
    · go_simp
      refine hK.out _ _ ?_ (fun hHeld => ?_)
      · exact ⟨(Xd4.alloc _).cell 0, (Xd4.alloc _).cell 1, (Xd4.alloc _).cell 2⟩
      clear hK K
      try simp only [Act.put, sLA, sL0, sL1]
      have Ad40 := own_new d4 (b := W.heap.size) (n := 0) (e := 30) (s := 8) (xs := []) Ld4.size rfl (by unfold maxLen; decide)
      have Ld40 := Ld4.alloc Ld4.size (.cells #[] 30)
      have Xd40 := Xd4.alloc (.cells #[] 30)
      have Rd40 := Rd4.alloc (.cells #[] 30)
      have Nd40 := Nd4.alloc Ld4.size (.cells #[] 30)
      have Yd40 := Yd4.alloc Ld4.size (.cells #[] 30)
      have Bd40 := Bd4.alloc (.cells #[] 30)
      generalize d4.heap.size = b0 at Ad40 ⊢
      generalize d4.alloc (.cells #[] 30) = d40 at Ld40 Xd40 Rd40 Nd40 Yd40 Ad40 Bd40 hHeld ⊢
      refine wpAnyH_ready (rs := [3]) (by kernel_rfl) (by simp) ?_
      refine (AllReadyH.cons (o := ⟨some 6, _, _, _, _, _⟩) rfl (fun K hK => ?_) AllReadyH.nil)
      · refine step_append_any _ (by rfl) (.tmp 3) (.tmp 5) 22 (by rfl) W.heap.size 30 i30 _ 8 80 Tryd.underlying22 fi30 H30.out.1 H30.out.2.1 H30.out.2.2 rfl (by omega) (.slice (some ⟨b0, 0, none⟩) 0 0) 0 [] (by rfl) Ad40 W.heap.size A t.l.length c (t.l.flatMap nodC) (by rfl) Nd40 (nod_one _) (by unfold maxLen; omega) (by omega) Ld40.size ?_
        intro e3 d403 od403 gd403 nd403
        rw [Nat.zero_add, List.nil_append] at od403
        obtain ⟨V3, d3, rfl⟩ := own_form od403
        have Xd403 := Xd40.grown gd403 (fun e => own_blk_ne Ad40 Xd40 (by decide) e.symm)
        have Rd403 := Rd40.grown gd403 (fun e => own_blk_ne Ad40 Rd40 (by decide) e.symm)
        have Ld403' := (Below.refl W.heap.size d40).grown gd403 Ld40.size (fun k e => (Ad40.lt k e).1)
        have Ld403 := Ld40.trans Ld403'
        have Nd403 := Reads.below Nd40 Ld403'
        have Yd403 := Reads.below Yd40 Ld403'
        have Ad403 := od403
        have Bd403 := Bd40.kept gd403 (own_own_ne Bd40 Ad40 (by decide))
        refine hK.out _ _ ?_ (fun hHeld => ?_)
        · exact ⟨Xd403.cell 0, Xd403.cell 1, Xd403.cell 2⟩
        clear hK K
        try simp only [Act.put, sLA, sL0, sL1]
        refine wpAnyH_ready (rs := [7]) (by kernel_rfl) (by simp) ?_
        refine (AllReadyH.cons (o := ⟨some 10, _, _, _, _, _⟩) rfl (fun K hK => ?_) AllReadyH.nil)
        · refine step_append_any _ (by rfl) (.tmp 7) (.tmp 9) 23 (by rfl) W.heap.size 3 i3 _ 1 8 Tryd.underlying23 fi3 H3.out.1 H3.out.2.1 H3.out.2.2 rfl (by omega) (.slice (some ⟨b4, 0, none⟩) 0 0) 0 [] (by rfl) Bd403 W.heap.size A' t.y.length c' (t.y.map intV) (by rfl) Yd403 (int_one _) (by unfold maxLen; omega) (by omega) Ld403.size ?_
          intro e7 d4037 od4037 gd4037 nd4037
          rw [Nat.zero_add, List.nil_append] at od4037
          obtain ⟨V7, d7, rfl⟩ := own_form od4037
          have Xd4037 := Xd403.grown gd4037 (fun e => own_blk_ne Bd403 Xd403 (by decide) e.symm)
          have Rd4037 := Rd403.grown gd4037 (fun e => own_blk_ne Bd403 Rd403 (by decide) e.symm)
          have Ld4037' := (Below.refl W.heap.size d403).grown gd4037 Ld403.size (fun k e => (Bd403.lt k e).1)
          have Ld4037 := Ld403.trans Ld4037'
          have Nd4037 := Reads.below Nd403 Ld4037'
          have Yd4037 := Reads.below Yd403 Ld4037'
          have Bd4037 := od4037
          have Ad4037 := Ad403.kept gd4037 (own_own_ne Ad403 Bd403 (by decide))
          refine hK.out _ _ ?_ (fun hHeld => ?_)
          · exact ⟨Xd4037.cell 0, Xd4037.cell 1, Xd4037.cell 2⟩
          clear hK K
          try simp only [Act.put, sLA, sL0, sL1]
          refine tkH 10 13 ?_ rfl ?_ ?_
          rotate_left
          · intro V hSw
            go_simp
            try with_reducible rfl
          try simp only [Act.put, sLA, sL0, sL1]
          refine wpAnyH_done (by kernel_rfl) ?_ _
          have r0 := Rd4037.cell 0
          have r1 := Rd4037.cell 1
          have r2 := Rd4037.cell 2
          have z0 := Rd4037.frozen 0
          have z1 := Rd4037.frozen 1
          have z2 := Rd4037.frozen 2
          refine lastPost_run (o := ⟨none, _, _, _, _, _⟩) rfl (fun K hK => ?_)
          go_simp
          refine hK.out _ _ ?_
          clear hK K r0 r1 r2 z0 z1 z2 hHeld
          have hend := tree_end (Ad4037) (Bd4037) Rd4037 Ld4037 hrb t.r
          obtain ⟨k1, k2, k3, k4⟩ := hend
          go_wp2_with fail
          exact bodyPost_ret (results_cell_row rfl _ _ _ 25 _ (0, 0) _ rfl k3 Tryd.underlying25 rfl (by kernel_rfl)) rfl ⟨_, _, _, _, rfl, k1, k2, k4⟩
theorem run_index_int {t : TypeId} {n : Nat} (h : Tryd.prog.underlying t = some (.array n 3)) {cs : Array Value} {i : Nat} {v : Value} {k : IntKind} (hi : i < n) (hv : cs[i]? = some v) (w : World) : (Instr.index t (.agg cs) (.int k i)).run Tryd.prog w = .ok v w := by
  obtain ⟨i3, fi3, iz0, iz1, iz2⟩ := info_parts int_info
  have h1 : Tryd.prog.cellsOf 3 = 1 := by kernel_rfl
  have h2 : (0 : Int) ≤ (i : Int) ∧ (i : Int) < (n : Int) := by omega
  simp [Instr.index, run_underlying h, asIntOf, hi, hv, go_sem]
def binL (n : Int) : Bool := decide (n = 12 ∨ n = 13 ∨ n = 14 ∨ n = 15 ∨ n = 16 ∨ n = 17 ∨ n = 18 ∨ n = 28)
def ManyEnd (x : Nod) (w : World) (e : Ending) (w' : World) : Prop := ∃ (a : Int) (r : Bool), e = .returned (.tuple #[.int .i64 a, .bool r]) ∧ (x.k = 15 → r = binL x.n) ∧ Below w.heap.size w w'
set_option maxRecDepth 100000 in
set_option maxHeartbeats 8000000 in
theorem c54 (x : Nod) (w : World) (ht : OpTab w) (hk : x.k = 15 ∨ x.k = 24 ∨ x.k = 25) (hn : x.k = 25 → 0 ≤ x.n ∧ x.n < 4) : Calls Tryd.prog 54 #[.agg (nodC x).toArray] w (ManyEnd x w) := by
  obtain ⟨xk, xt, xt2, xn, xa, xb, xc, xh⟩ := x
  simp only at hk hn
  show Calls Tryd.prog 54 #[.agg #[.int .i64 xk, strV xt, strV xt2, .int .i64 xn, .int .i64 xa, .int .i64 xb, .int .i64 xc, .int .i64 xh]] w _
  have hb := below_new w (.cells #[.int .i64 xk, strV xt, strV xt2, .int .i64 xn, .int .i64 xa, .int .i64 xb, .int .i64 xc, .int .i64 xh] 30)
  have HX := Lib.hid (Blk.new w 30 #[.int .i64 xk, strV xt, strV xt2, .int .i64 xn, .int .i64 xa, .int .i64 xb, .int .i64 xc, .int .i64 xh])
  have HT := Lib.hid (ht.next hb)
  have HB := Lib.hid hb
  clear hb ht
  rcases hk with rfl | rfl | rfl
  · clear hn
    by_cases h12 : xn = 12
    · subst h12
      go_enter Tryd.func54, Tryd.ntmps54
      go_wp2_with fail
      go_ret2
      exact ⟨_, _, rfl, fun _ => rfl, HB.out⟩
    by_cases h13 : xn = 13
    · subst h13
      go_enter Tryd.func54, Tryd.ntmps54
      go_wp2_with fail
      go_ret2
      exact ⟨_, _, rfl, fun _ => rfl, HB.out⟩
    by_cases h14 : xn = 14
    · subst h14
      go_enter Tryd.func54, Tryd.ntmps54
      go_wp2_with fail
      go_ret2
      exact ⟨_, _, rfl, fun _ => rfl, HB.out⟩
    by_cases h15 : xn = 15
    · subst h15
      go_enter Tryd.func54, Tryd.ntmps54
      go_wp2_with fail
      go_ret2
      exact ⟨_, _, rfl, fun _ => rfl, HB.out⟩
    by_cases h16 : xn = 16
    · subst h16
      go_enter Tryd.func54, Tryd.ntmps54
      go_wp2_with fail
      go_ret2
      exact ⟨_, _, rfl, fun _ => rfl, HB.out⟩
    by_cases h17 : xn = 17
    · subst h17
      go_enter Tryd.func54, Tryd.ntmps54
      go_wp2_with fail
      go_ret2
      exact ⟨_, _, rfl, fun _ => rfl, HB.out⟩
    by_cases h18 : xn = 18
    · subst h18
      go_enter Tryd.func54, Tryd.ntmps54
      go_wp2_with fail
      go_ret2
      exact ⟨_, _, rfl, fun _ => rfl, HB.out⟩
    by_cases h28 : xn = 28
    · subst h28
      go_enter Tryd.func54, Tryd.ntmps54
      go_wp2_with fail
      go_ret2
      exact ⟨_, _, rfl, fun _ => rfl, HB.out⟩
    have f12 : (xn == 12) = false := beq_false_of_ne h12
    have f13 : (xn == 13) = false := beq_false_of_ne h13
    have f14 : (xn == 14) = false := beq_false_of_ne h14
    have f15 : (xn == 15) = false := beq_false_of_ne h15
    have f16 : (xn == 16) = false := beq_false_of_ne h16
    have f17 : (xn == 17) = false := beq_false_of_ne h17
    have f18 : (xn == 18) = false := beq_false_of_ne h18
    have f28 : (xn == 28) = false := beq_false_of_ne h28
    have HN := Lib.hid (show binL xn = false by unfold binL; exact decide_eq_false (by omega))
    clear h12 h13 h14 h15 h16 h17 h18 h28
    go_enter Tryd.func54, Tryd.ntmps54
    go_wp2_with fail
    go_ret2
    exact ⟨_, _, rfl, fun _ => HN.out.symm, HB.out⟩
  · clear hn
    by_cases h29 : xn = 29
    · subst h29
      have HC := Lib.hid (show Calls Tryd.prog 73 #[.agg #[.int .i64 29, .int .i64 0, .int .i64 0]] _ _ from c73 29 (by decide) (by decide) (by decide) (by decide) _ HT.out)
      go_enter Tryd.func54, Tryd.ntmps54
      go_wp2_with fail
      refine HC.out.mono ?_
      rintro e w2 ⟨a, b, r, rfl, hb2⟩
      have HB2 := Lib.hid (next_ HB.out hb2)
      clear hb2
      go_wp2_with fail
      go_ret2
      exact ⟨_, _, rfl, fun h => absurd (show (24 : Int) = 15 from h) (by decide), HB2.out⟩
    by_cases h30 : xn = 30
    · subst h30
      have HC := Lib.hid (show Calls Tryd.prog 73 #[.agg #[.int .i64 30, .int .i64 0, .int .i64 0]] _ _ from c73 30 (by decide) (by decide) (by decide) (by decide) _ HT.out)
      go_enter Tryd.func54, Tryd.ntmps54
      go_wp2_with fail
      refine HC.out.mono ?_
      rintro e w2 ⟨a, b, r, rfl, hb2⟩
      have HB2 := Lib.hid (next_ HB.out hb2)
      clear hb2
      go_wp2_with fail
      go_ret2
      exact ⟨_, _, rfl, fun h => absurd (show (24 : Int) = 15 from h) (by decide), HB2.out⟩
    by_cases h31 : xn = 31
    · subst h31
      have HC := Lib.hid (show Calls Tryd.prog 73 #[.agg #[.int .i64 31, .int .i64 0, .int .i64 0]] _ _ from c73 31 (by decide) (by decide) (by decide) (by decide) _ HT.out)
      go_enter Tryd.func54, Tryd.ntmps54
      go_wp2_with fail
      refine HC.out.mono ?_
      rintro e w2 ⟨a, b, r, rfl, hb2⟩
      have HB2 := Lib.hid (next_ HB.out hb2)
      clear hb2
      go_wp2_with fail
      go_ret2
      exact ⟨_, _, rfl, fun h => absurd (show (24 : Int) = 15 from h) (by decide), HB2.out⟩
    by_cases h32 : xn = 32
    · subst h32
      have HC := Lib.hid (show Calls Tryd.prog 73 #[.agg #[.int .i64 32, .int .i64 0, .int .i64 0]] _ _ from c73 32 (by decide) (by decide) (by decide) (by decide) _ HT.out)
      go_enter Tryd.func54, Tryd.ntmps54
      go_wp2_with fail
      refine HC.out.mono ?_
      rintro e w2 ⟨a, b, r, rfl, hb2⟩
      have HB2 := Lib.hid (next_ HB.out hb2)
      clear hb2
      go_wp2_with fail
      go_ret2
      exact ⟨_, _, rfl, fun h => absurd (show (24 : Int) = 15 from h) (by decide), HB2.out⟩
    by_cases h24 : xn = 24
    · subst h24
      have HC := Lib.hid (show Calls Tryd.prog 73 #[.agg #[.int .i64 24, .int .i64 0, .int .i64 0]] _ _ from c73 24 (by decide) (by decide) (by decide) (by decide) _ HT.out)
      go_enter Tryd.func54, Tryd.ntmps54
      go_wp2_with fail
      refine HC.out.mono ?_
      rintro e w2 ⟨a, b, r, rfl, hb2⟩
      have HB2 := Lib.hid (next_ HB.out hb2)
      clear hb2
      go_wp2_with fail
      go_ret2
      exact ⟨_, _, rfl, fun h => absurd (show (24 : Int) = 15 from h) (by decide), HB2.out⟩
    by_cases h25 : xn = 25
    · subst h25
      have HC := Lib.hid (show Calls Tryd.prog 73 #[.agg #[.int .i64 25, .int .i64 0, .int .i64 0]] _ _ from c73 25 (by decide) (by decide) (by decide) (by decide) _ HT.out)
      go_enter Tryd.func54, Tryd.ntmps54
      go_wp2_with fail
      refine HC.out.mono ?_
      rintro e w2 ⟨a, b, r, rfl, hb2⟩
      have HB2 := Lib.hid (next_ HB.out hb2)
      clear hb2
      go_wp2_with fail
      go_ret2
      exact ⟨_, _, rfl, fun h => absurd (show (24 : Int) = 15 from h) (by decide), HB2.out⟩
    by_cases h26 : xn = 26
    · subst h26
      have HC := Lib.hid (show Calls Tryd.prog 73 #[.agg #[.int .i64 26, .int .i64 0, .int .i64 0]] _ _ from c73 26 (by decide) (by decide) (by decide) (by decide) _ HT.out)
      go_enter Tryd.func54, Tryd.ntmps54
      go_wp2_with fail
      refine HC.out.mono ?_
      rintro e w2 ⟨a, b, r, rfl, hb2⟩
      have HB2 := Lib.hid (next_ HB.out hb2)
      clear hb2
      go_wp2_with fail
      go_ret2
      exact ⟨_, _, rfl, fun h => absurd (show (24 : Int) = 15 from h) (by decide), HB2.out⟩
    by_cases h27 : xn = 27
    · subst h27
      have HC := Lib.hid (show Calls Tryd.prog 73 #[.agg #[.int .i64 27, .int .i64 0, .int .i64 0]] _ _ from c73 27 (by decide) (by decide) (by decide) (by decide) _ HT.out)
      go_enter Tryd.func54, Tryd.ntmps54
      go_wp2_with fail
      refine HC.out.mono ?_
      rintro e w2 ⟨a, b, r, rfl, hb2⟩
      have HB2 := Lib.hid (next_ HB.out hb2)
      clear hb2
      go_wp2_with fail
      go_ret2
      exact ⟨_, _, rfl, fun h => absurd (show (24 : Int) = 15 from h) (by decide), HB2.out⟩
    have f29 : (xn == 29) = false := beq_false_of_ne h29
    have f30 : (xn == 30) = false := beq_false_of_ne h30
    have f31 : (xn == 31) = false := beq_false_of_ne h31
    have f32 : (xn == 32) = false := beq_false_of_ne h32
    have f24 : (xn == 24) = false := beq_false_of_ne h24
    have f25 : (xn == 25) = false := beq_false_of_ne h25
    have f26 : (xn == 26) = false := beq_false_of_ne h26
    have f27 : (xn == 27) = false := beq_false_of_ne h27
    clear h29 h30 h31 h32 h24 h25 h26 h27
    go_enter Tryd.func54, Tryd.ntmps54
    go_wp2_with fail
    go_ret2
    exact ⟨_, _, rfl, fun h => absurd (show (24 : Int) = 15 from h) (by decide), HB.out⟩
  · obtain ⟨n0, n1⟩ := hn rfl
    clear hn
    rcases (by omega : xn = 0 ∨ xn = 1 ∨ xn = 2 ∨ xn = 3) with rfl | rfl | rfl | rfl
    · have hx := fun w => run_index_int Tryd.underlying123 (cs := #[.int .i64 1, .int .i64 1, .int .i64 2, .int .i64 0]) (i := 0) (k := .i64) (by decide) rfl w
      replace hx : ∀ w, (Instr.index 123 (.agg #[.int .i64 1, .int .i64 1, .int .i64 2, .int .i64 0]) (.int .i64 0)).run Tryd.prog w = .ok _ w := hx
      go_enter Tryd.func54, Tryd.ntmps54
      go_wp2_with fail
      go_ret2
      exact ⟨_, _, rfl, fun h => absurd (show (25 : Int) = 15 from h) (by decide), HB.out⟩
    · have hx := fun w => run_index_int Tryd.underlying123 (cs := #[.int .i64 1, .int .i64 1, .int .i64 2, .int .i64 0]) (i := 1) (k := .i64) (by decide) rfl w
      replace hx : ∀ w, (Instr.index 123 (.agg #[.int .i64 1, .int .i64 1, .int .i64 2, .int .i64 0]) (.int .i64 1)).run Tryd.prog w = .ok _ w := hx
      go_enter Tryd.func54, Tryd.ntmps54
      go_wp2_with fail
      go_ret2
      exact ⟨_, _, rfl, fun h => absurd (show (25 : Int) = 15 from h) (by decide), HB.out⟩
    · have hx := fun w => run_index_int Tryd.underlying123 (cs := #[.int .i64 1, .int .i64 1, .int .i64 2, .int .i64 0]) (i := 2) (k := .i64) (by decide) rfl w
      replace hx : ∀ w, (Instr.index 123 (.agg #[.int .i64 1, .int .i64 1, .int .i64 2, .int .i64 0]) (.int .i64 2)).run Tryd.prog w = .ok _ w := hx
      go_enter Tryd.func54, Tryd.ntmps54
      go_wp2_with fail
      go_ret2
      exact ⟨_, _, rfl, fun h => absurd (show (25 : Int) = 15 from h) (by decide), HB.out⟩
    · have hx := fun w => run_index_int Tryd.underlying123 (cs := #[.int .i64 1, .int .i64 1, .int .i64 2, .int .i64 0]) (i := 3) (k := .i64) (by decide) rfl w
      replace hx : ∀ w, (Instr.index 123 (.agg #[.int .i64 1, .int .i64 1, .int .i64 2, .int .i64 0]) (.int .i64 3)).run Tryd.prog w = .ok _ w := hx
      go_enter Tryd.func54, Tryd.ntmps54
      go_wp2_with fail
      go_ret2
      exact ⟨_, _, rfl, fun h => absurd (show (25 : Int) = 15 from h) (by decide), HB.out⟩
end Go.Proofs.YtphojigdapaaiaaDoor
