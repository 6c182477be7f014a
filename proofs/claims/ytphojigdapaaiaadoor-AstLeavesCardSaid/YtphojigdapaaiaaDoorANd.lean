/- Trees as data, and what they are in memory; keep.LargeTree. -/
import Derived.Test.YtphojigdapaaiaaDoorGen
import Derived.Test.YtphojigdapaaiaaDoorRLast
namespace Go.Proofs.YtphojigdapaaiaaDoor
open Go.ChangeShapes Go.WideShapes Go.ChangeAt Go.RowKit
set_option linter.unusedVariables false
set_option linter.unusedSimpArgs false
structure Nod where
  k : Int
  t : List UInt8
  t2 : List UInt8
  n : Int
  a : Int
  b : Int
  c : Int
  h : Int
def nodC (x : Nod) : List Value := [.int .i64 x.k, strV x.t, strV x.t2, .int .i64 x.n, .int .i64 x.a, .int .i64 x.b, .int .i64 x.c, .int .i64 x.h]
structure Tre where
  l : List Nod
  y : List Int
  r : Int
def intV (n : Int) : Value := .int .i64 n
/-- A tree as a value: its nodes and its types read as they are told. -/
structure TreIs (w : World) (A A' : Option Addr) (t : Tre) : Prop where
  nodes : Reads w w.heap.size 8 A t.l.length (t.l.flatMap nodC)
  types : Reads w w.heap.size 1 A' t.y.length (t.y.map intV)
abbrev treV (A : Option Addr) (c : Nat) (A' : Option Addr) (c' : Nat) (t : Tre) : Value := .agg #[.slice A t.l.length c, .slice A' t.y.length c', .int .i64 t.r]
theorem TreIs.next {w w' : World} {A A' : Option Addr} {t : Tre} (h : TreIs w A A' t) (hb : Below w.heap.size w w') : TreIs w' A A' t := by
  exact ⟨(Reads.below h.nodes hb).more hb.size, (Reads.below h.types hb).more hb.size⟩
theorem Reads.nodAt {w : World} {B n : Nat} {A : Option Addr} {l : List Nod} (h : Reads w B 8 A n (l.flatMap nodC)) {k : Nat} {p : Nod} (hk : l[k]? = some p) :
    ∃ ad, A = some ad ∧ ad.block < B ∧ ∀ j v, (nodC p)[j]? = some v → w.cell? ((ad.add (k * 8)).add j) = some v :=
  Reads.rowAt (f := nodC) (m := 8) (fun _ => rfl) h (by decide) hk
theorem strV_size (t : List UInt8) : (⟨t.toArray⟩ : ByteArray).size = t.length := by
  show t.toArray.size = _
  simp
/-- How much a tree's nodes and texts are. -/
def wgt (p : Nod) : Nat := 1 + min p.t.length 3000 + min p.t2.length 3000
def bulk (l : List Nod) : Nat := (l.map wgt).sum
theorem bulk_snoc (l : List Nod) (p : Nod) : bulk (l ++ [p]) = bulk l + wgt p := by
  unfold bulk
  rw [List.map_append, List.sum_append]
  simp
theorem bulk_mem {l : List Nod} {p : Nod} (hp : p ∈ l) : wgt p ≤ bulk l := by
  induction l with
  | nil => cases hp
  | cons q l ih =>
    have e : bulk (q :: l) = wgt q + bulk l := by unfold bulk; rw [List.map_cons, List.sum_cons]
    rw [e]
    rcases List.mem_cons.1 hp with rfl | hp
    · omega
    · have := ih hp; omega
/-- What a tree that is not too large is. -/
structure Sml (t : Tre) : Prop where
  nodes : t.l.length ≤ 800
  types : t.y.length ≤ 800
  txt : ∀ p ∈ t.l, p.t.length ≤ 3000 ∧ p.t2.length ≤ 3000
theorem Sml.of {t : Tre} (h : bulk t.l ≤ 3000) (h1 : t.l.length ≤ 800) (h2 : t.y.length ≤ 800) : Sml t := ⟨h1, h2, fun p hp => by
  have := bulk_mem hp
  unfold wgt at this
  omega⟩
section
variable {P : Program}
/-- The load of a struct that lies anywhere. -/
theorem run_loadVar_at (w : World) (ad : Addr) (ty : TypeId) (cs : List Value) (d : TypeDesc) (hc : ∀ j v, cs[j]? = some v → w.cell? (ad.add j) = some v)
    (hu : P.underlying ty = some d) (hd : (match d with | .struct _ | .array _ _ => true | _ => false) = true) (hi : (P.info? ty).map (·.size) = some cs.length) :
    (loadVar ty ad).run P w = .ok (.agg cs.toArray) w := by
  have hl : (loadCells ad cs.length).run P w = .ok cs.toArray w := run_loadCells_list (P := P) w ad cs hc
  cases hq : P.info? ty with
  | none => simp [hq] at hi
  | some i =>
    have hs : i.size = cs.length := by simpa [hq] using hi
    have hagg : (isAgg ty).run P w = .ok true w := by
      unfold isAgg
      rw [Sem.run_bind, run_underlying hu w]
      cases d <;> simp_all
    simp [loadVar, Sem.run_bind, hagg, sizeOf, typeInfo, hq, hs, hl]
theorem wpList_load_at {ops : Array Oper} {rest : List Oper} {op : Oper} {a : Act} {w : World} {Q : Exit → Act → World → Prop} (hgd : op.guard = none) (ty : TypeId) (x : Operand) (ho : op.op = .load ty x)
    (ad : Addr) (hx : a.eval x = .pointer (some ad)) (cs : List Value) (d : TypeDesc) (hc : ∀ j v, cs[j]? = some v → w.cell? (ad.add j) = some v)
    (hu : P.underlying ty = some d) (hd : (match d with | .struct _ | .array _ _ => true | _ => false) = true) (hi : (P.info? ty).map (·.size) = some cs.length)
    (h : wpList P ops Q rest (a.put op.dst (.agg cs.toArray)) w) : wpList P ops Q (op :: rest) a w :=
  wpList_plain hgd fun K hK => by
    unfold Oper.wp execOp
    simp only [ho, hx, Instr.loadAt, Instr.sureAddr, Sem.run_bind, Sem.run_pure, Result.andThen_ok, run_loadVar_at w ad ty cs d hc hu hd hi]
    exact hK _ _ h
end
theorem own_new (w : World) {b n : Nat} {e : TypeId} {s : Nat} {xs : List Value} (hb : b ≤ w.heap.size) (hn : xs.length = n * s) (hm : n ≤ maxLen) :
    (w.alloc (.cells xs.toArray e)).ownsRow b e s (.slice (some ⟨w.heap.size, 0, none⟩) n n) n xs :=
  ⟨hn, .inr ⟨w.heap.size, n, xs.toArray, rfl, hb, heap_alloc_new w _, Nat.le_refl _, hm, by simpa using hn, by rw [List.take_of_length_le (by simp [hn])]⟩⟩
end Go.Proofs.YtphojigdapaaiaaDoor
