/- How a program lies in memory: its headers, and what is read behind them. -/
import Derived.Test.YtiphicejaljhiaaDoorFrm
namespace Go.Proofs.YtiphicejaljhiaaDoor
open Go.ChangeShapes Go.WideShapes Go.ChangeAt Go.RowKit
/-- A function, and where its code lies. -/
structure Fnv where
  fn : Fn
  ad : Option Addr
  cap : Nat
structure Fmv where
  fm : Fm
  ad : Option Addr
  cap : Nat
def Fnv.cells (x : Fnv) : List Value := [.int .i64 x.fn.locals, .int .i64 x.fn.free, .slice x.ad x.fn.code.length x.cap]
def Fmv.cells (x : Fmv) : List Value := [.int .i64 x.fm.kind, .int .i64 x.fm.a, .int .i64 x.fm.b, .slice x.ad x.fm.cons.length x.cap]
def FnOk (w : World) (B : Nat) (x : Fnv) : Prop := Reads w B 3 x.ad x.fn.code.length (x.fn.code.flatMap insCells) ∧ x.fn.code.length ≤ maxLen
def FmOk (w : World) (B : Nat) (x : Fmv) : Prop := Reads w B 1 x.ad x.fm.cons.length (x.fm.cons.map (Value.int .i64)) ∧ x.fm.cons.length ≤ maxLen
structure PrMem where
  AF : Option Addr
  cF : Nat
  L : List Fnv
  AS : Option Addr
  cS : Nat
  S : List (List UInt8)
  AM : Option Addr
  cM : Nat
  M : List Fmv
def PrMem.val (q : PrMem) : Value := .agg #[.slice q.AF q.L.length q.cF, .slice q.AS q.S.length q.cS, .slice q.AM q.M.length q.cM]
def PrMem.pr (q : PrMem) : Pr := ⟨q.L.map (·.fn), q.S, q.M.map (·.fm)⟩
structure PrOk (w : World) (B : Nat) (q : PrMem) : Prop where
  fns : Reads w B 3 q.AF q.L.length (q.L.flatMap Fnv.cells)
  fn : ∀ x ∈ q.L, FnOk w B x
  strs : Reads w B 1 q.AS q.S.length (q.S.map strV)
  fms : Reads w B 4 q.AM q.M.length (q.M.flatMap Fmv.cells)
  fm : ∀ x ∈ q.M, FmOk w B x
  lF : q.L.length ≤ maxLen
  lS : q.S.length ≤ maxLen
  lM : q.M.length ≤ maxLen
section
variable {w w' : World} {B B' : Nat} {q : PrMem}
theorem PrOk.below (h : PrOk w B q) (hb : Below B w w') : PrOk w' B q :=
  ⟨h.fns.below hb, fun x hx => ⟨(h.fn x hx).1.below hb, (h.fn x hx).2⟩, h.strs.below hb, h.fms.below hb, fun x hx => ⟨(h.fm x hx).1.below hb, (h.fm x hx).2⟩, h.lF, h.lS, h.lM⟩
theorem PrOk.more (h : PrOk w B q) (hB : B ≤ B') : PrOk w B' q :=
  ⟨h.fns.more hB, fun x hx => ⟨(h.fn x hx).1.more hB, (h.fn x hx).2⟩, h.strs.more hB, h.fms.more hB, fun x hx => ⟨(h.fm x hx).1.more hB, (h.fm x hx).2⟩, h.lF, h.lS, h.lM⟩
theorem PrOk.next (h : PrOk w w.heap.size q) (hb : Below w.heap.size w w') : PrOk w' w'.heap.size q := (h.below hb).more hb.size
end
theorem flatN {α : Type} (f : α → List Value) (m : Nat) (hf : ∀ x, (f x).length = m) (l : List α) : ∀ (k j : Nat) (x : α), l[k]? = some x → j < m → (l.flatMap f)[k * m + j]? = (f x)[j]? := by
  induction l with
  | nil => intro k j x hx; simp at hx
  | cons y l ih =>
    intro k j x hx hj
    cases k with
    | zero =>
      obtain rfl : y = x := by simpa using hx
      rw [List.flatMap_cons, List.getElem?_append_left (by rw [hf]; omega)]
      simp
    | succ k =>
      rw [List.flatMap_cons, List.getElem?_append_right (by rw [hf]; rw [Nat.succ_mul]; omega), hf, show (k + 1) * m + j - m = k * m + j from by rw [Nat.succ_mul]; omega]
      exact ih k j x (by simpa using hx) hj
theorem flat_len {α : Type} (f : α → List Value) (m : Nat) (hf : ∀ x, (f x).length = m) (l : List α) : (l.flatMap f).length = l.length * m := by
  induction l with
  | nil => simp
  | cons y l ih => rw [List.flatMap_cons, List.length_append, ih, hf, List.length_cons, Nat.succ_mul]; omega
theorem Reads.rowAt {α : Type} {f : α → List Value} {m : Nat} (hf : ∀ x, (f x).length = m) {w : World} {B n : Nat} {A : Option Addr} {l : List α} (h : Reads w B m A n (l.flatMap f)) (hm : 0 < m) {k : Nat} {x : α} (hk : l[k]? = some x) :
    ∃ ad, A = some ad ∧ ad.block < B ∧ ∀ j v, (f x)[j]? = some v → w.cell? ((ad.add (k * m)).add j) = some v := by
  have hlt : k < l.length := by
    rcases Nat.lt_or_ge k l.length with h1 | h1
    · exact h1
    · rw [List.getElem?_eq_none h1] at hk; cases hk
  have hn : 0 < n := by
    have h1 := h.1
    rw [flat_len f m hf] at h1
    have := Nat.eq_of_mul_eq_mul_right hm h1
    omega
  obtain ⟨ad, e, hb, hc⟩ := h.2 hn
  refine ⟨ad, e, hb, fun j v hv => ?_⟩
  rw [add_of_add]
  refine hc _ _ ?_
  have hj : j < m := by
    rcases Nat.lt_or_ge j m with h1 | h1
    · exact h1
    · rw [List.getElem?_eq_none (by rw [hf]; exact h1)] at hv; cases hv
  rw [flatN f m hf l k j x hk hj]
  exact hv
theorem drop_at {α : Type} {l : List α} {k : Nat} (h : k < l.length) : l.drop k = l[k] :: l.drop (k + 1) := List.drop_eq_getElem_cons h
end Go.Proofs.YtiphicejaljhiaaDoor
