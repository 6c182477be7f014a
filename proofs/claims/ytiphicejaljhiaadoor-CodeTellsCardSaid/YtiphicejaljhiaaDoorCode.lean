/- Programs as plain data, and how they lie in memory. -/
import Derived.Test.YtiphicejaljhiaaDoorOpWakes
namespace Go.Proofs.YtiphicejaljhiaaDoor
open Go.ChangeShapes Go.WideShapes Go.ChangeAt Go.RowKit
structure Ins where
  o : Int
  a : Int
  b : Int
deriving DecidableEq
structure Fn where
  locals : Int
  free : Int
  code : List Ins
deriving DecidableEq
structure Fm where
  kind : Int
  a : Int
  b : Int
  cons : List Int
deriving DecidableEq
structure Pr where
  funcs : List Fn
  strs : List (List UInt8)
  forms : List Fm
deriving DecidableEq
def insCells (i : Ins) : List Value := [.int .i64 i.o, .int .i64 i.a, .int .i64 i.b]
def insGood (i : Ins) : Bool := gGood i.o i.a i.b
theorem flat3 {α : Type} (f : α → List Value) (hf : ∀ x, (f x).length = 3) (l : List α) : ∀ (k j : Nat) (x : α), l[k]? = some x → j < 3 → (l.flatMap f)[k * 3 + j]? = (f x)[j]? := by
  induction l with
  | nil => intro k j x hx; simp at hx
  | cons y l ih =>
    intro k j x hx hj
    cases k with
    | zero =>
      obtain rfl : y = x := by simpa using hx
      rw [List.flatMap_cons, List.getElem?_append_left (by rw [hf]; omega)]
      simp
    | succ k =>
      rw [List.flatMap_cons, List.getElem?_append_right (by rw [hf]; omega), hf, show (k + 1) * 3 + j - 3 = k * 3 + j from by omega]
      exact ih k j x (by simpa using hx) hj
theorem Reads.ins {w : World} {B n : Nat} {A : Option Addr} {l : List Ins} (h : Reads w B 3 A n (l.flatMap insCells)) {k : Nat} {i : Ins} (hk : l[k]? = some i) :
    ∃ ad, A = some ad ∧ ad.block < B ∧ w.cell? (ad.add (k * 3)) = some (.int .i64 i.o) ∧ w.cell? (ad.add (k * 3 + 1)) = some (.int .i64 i.a) ∧ w.cell? (ad.add (k * 3 + 2)) = some (.int .i64 i.b) := by
  have hl : (l.flatMap insCells).length = l.length * 3 := by
    clear h hk
    induction l with
    | nil => rfl
    | cons x l ih => simp only [List.flatMap_cons, List.length_append, ih, insCells, List.length_cons, List.length_nil]; omega
  have hlt : k < l.length := by
    rcases Nat.lt_or_ge k l.length with h1 | h1
    · exact h1
    · rw [List.getElem?_eq_none h1] at hk; cases hk
  have hn : 0 < n := by have := h.1; omega
  obtain ⟨ad, e, hb, hc⟩ := h.2 hn
  exact ⟨ad, e, hb, hc _ _ (flat3 insCells (fun _ => rfl) l k 0 i hk (by omega)), hc _ _ (flat3 insCells (fun _ => rfl) l k 1 i hk (by omega)), hc _ _ (flat3 insCells (fun _ => rfl) l k 2 i hk (by omega))⟩
section
variable {P : Program}
/-- The load of a struct that lies anywhere. -/
theorem run_loadVar_at (w : World) (ad : Addr) (ty : TypeId) (cs : List Value) (d : TypeDesc) (hc : ∀ j v, cs[j]? = some v → w.cell? (ad.add j) = some v)
    (hu : P.underlying ty = some d) (hd : (match d with | .struct _ | .array _ _ => true | _ => false) = true) (hi : (P.info? ty).map (·.size) = some cs.length) :
    (loadVar ty ad).run P w = .ok (.agg cs.toArray) w := by
  have hl : (loadCells ad cs.length).run P w = .ok cs.toArray w := run_loadCells_list (P := P) w ad cs hc
  cases hq : P.info? ty with
  | none => simp [hq] at hi
  | some i =>
    have hs : i.size = cs.length := by simpa [hq] using hi
    have hagg : (isAgg ty).run P w = .ok true w := by
      unfold isAgg
      rw [Sem.run_bind, run_underlying hu w]
      cases d <;> simp_all
    simp [loadVar, Sem.run_bind, hagg, sizeOf, typeInfo, hq, hs, hl]
theorem wpList_load_at {ops : Array Oper} {rest : List Oper} {op : Oper} {a : Act} {w : World} {Q : Exit → Act → World → Prop} (hgd : op.guard = none) (ty : TypeId) (x : Operand) (ho : op.op = .load ty x)
    (ad : Addr) (hx : a.eval x = .pointer (some ad)) (cs : List Value) (d : TypeDesc) (hc : ∀ j v, cs[j]? = some v → w.cell? (ad.add j) = some v)
    (hu : P.underlying ty = some d) (hd : (match d with | .struct _ | .array _ _ => true | _ => false) = true) (hi : (P.info? ty).map (·.size) = some cs.length)
    (h : wpList P ops Q rest (a.put op.dst (.agg cs.toArray)) w) : wpList P ops Q (op :: rest) a w :=
  wpList_plain hgd fun K hK => by
    unfold Oper.wp execOp
    simp only [ho, hx, Instr.loadAt, Instr.sureAddr, Sem.run_bind, Sem.run_pure, Result.andThen_ok, run_loadVar_at w ad ty cs d hc hu hd hi]
    exact hK _ _ h
end
theorem Reads.insAt {w : World} {B n : Nat} {A : Option Addr} {l : List Ins} (h : Reads w B 3 A n (l.flatMap insCells)) {k : Nat} {i : Ins} (hk : l[k]? = some i) :
    ∃ ad, A = some ad ∧ ad.block < B ∧ ∀ j v, (insCells i)[j]? = some v → w.cell? ((ad.add (k * 3)).add j) = some v := by
  obtain ⟨ad, e, hb, h0, h1, h2⟩ := h.ins hk
  refine ⟨ad, e, hb, fun j v hv => ?_⟩
  rw [add_of_add]
  match j, hv with
  | 0, hv => rw [← hv]; exact h0
  | 1, hv => rw [← hv]; exact h1
  | 2, hv => rw [← hv]; exact h2
/-- 'between'. -/
def gBetw (v l m : Int) : Bool := decide (l ≤ v ∧ v ≤ m)
theorem c62 (v l m : Int) (w : World) : Calls Tryd.prog 62 #[.int .i64 v, .int .i64 l, .int .i64 m] w fun e w' => e = .returned (.bool (gBetw v l m)) ∧ w = w' := by
  unfold gBetw
  by_cases h : l ≤ v
  · by_cases h2 : v ≤ m
    · go_enter Tryd.func62, Tryd.ntmps62
      go_wp2
      go_ret
      exact ⟨by simp [h, h2], rfl⟩
    · go_enter Tryd.func62, Tryd.ntmps62
      go_wp2
      go_ret
      exact ⟨by simp [h2], rfl⟩
  · have h' : decide (l ≤ v) = false := by simpa using h
    go_enter Tryd.func62, Tryd.ntmps62
    go_wp2
    go_ret
    exact ⟨by simp, rfl⟩
end Go.Proofs.YtiphicejaljhiaaDoor
