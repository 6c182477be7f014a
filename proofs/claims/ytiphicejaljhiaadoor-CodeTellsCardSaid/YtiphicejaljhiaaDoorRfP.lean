/- What the document's reader of programs holds while it reads: its reader, the program so far, rows of its own. -/
import Derived.Test.YtiphicejaljhiaaDoorRfRd
import Derived.Test.YtiphicejaljhiaaDoorDecP
namespace Go.Proofs.YtiphicejaljhiaaDoor
open Go.ChangeShapes Go.WideShapes Go.ChangeAt Go.RowKit
section
variable {w w' : World} {g : Nat} {s : St}
theorem RfAt.alloc (h : RfAt w g s) (o : Obj) : RfAt (w.alloc o) g s := by
  obtain ⟨A, c, hb, hr, hc, hm⟩ := h
  exact ⟨A, c, hb.alloc o, hr.alloc (Nat.le_of_lt hb.lt) o, hc, hm⟩
theorem RfAt.drew (h : RfAt w g s) : RfAt w.drew g s := h
theorem RfAt.grown {row : Option Nat} (h : RfAt w g s) (hg : w.grownBy w' row) (hr : ∀ j, row = some j → g < j) : RfAt w' g s := by
  obtain ⟨A, c, hb, hr', hc, hm⟩ := h
  refine ⟨A, c, hb.grown hg (fun e => by have := hr g e.symm; omega), hr'.keep fun p hp => ?_, hc, hm⟩
  exact World.cell?_of_block (hg.block p.block (Nat.lt_trans hp hb.lt) (fun e => by have := hr p.block e.symm; omega))
theorem RfAt.next (h : RfAt w g s) (hb : Below w.heap.size w w') : RfAt w' g s := h.grown (row := none) (grown_of_below hb none) (fun j e => by cases e)
theorem RfAt.cell (h : RfAt w g s) : w.cell? ⟨g, 1, none⟩ = some (.bool s.2) := by
  obtain ⟨A, c, hb, _⟩ := h
  exact hb.cell 1
end
theorem nV_rangeR (n : Nat) (s : St) (h : n ≤ 7) : 0 ≤ nV tkR n s ∧ nV tkR n s < 256 ^ n := by
  have h1 := natB_lt (tkR n s).1
  rw [tkR_len] at h1
  have h2 : 256 ^ n ≤ 256 ^ 7 := Nat.pow_le_pow_right (by decide) h
  have h4 : natB (tkR n s).1 < 9223372036854775808 := by omega
  unfold nV sgn
  rw [if_pos h4]
  refine ⟨by omega, ?_⟩
  have := Int.ofNat_lt.2 h1
  rw [Int.natCast_pow] at this
  exact this
structure DecR (w W : World) (g pb : Nat) (s : St) (q : PrMem) : Prop where
  low : Below w.heap.size w W
  rb : w.heap.size < g
  bp : g < pb
  rd : RfAt W g s
  P : Blk W w.heap.size 52 #[.slice none 0 0, .slice none 0 0, .slice none 0 0, .bool false]
  Q : Blk W pb 42 #[.slice q.AF q.L.length q.cF, .slice q.AS q.S.length q.cS, .slice q.AM q.M.length q.cM]
  oF : W.ownsRow (g + 1) 60 3 (.slice q.AF q.L.length q.cF) q.L.length (q.L.flatMap Fnv.cells)
  oS : W.ownsRow (g + 1) 9 1 (.slice q.AS q.S.length q.cS) q.S.length (q.S.map strV)
  oM : W.ownsRow (g + 1) 63 4 (.slice q.AM q.M.length q.cM) q.M.length (q.M.flatMap Fmv.cells)
  cF : ∀ x ∈ q.L, FnOwn W (g + 1) x
  cM : ∀ x ∈ q.M, FmOwn W (g + 1) x
section
variable {w W W' W1 : World} {g pb : Nat} {s s' : St} {q : PrMem}
/-- The reader read; all else that was there stands. -/
theorem DecR.read (h : DecR w W g pb s q) (hg : W.grownBy W' (some g)) (ht : RfAt W' g s') : DecR w W' g pb s' q :=
  ⟨h.low.grown hg h.low.size (fun k e => by have := Option.some.inj e; have := h.rb; omega), h.rb, h.bp, ht, rdKeep h.P hg (by have := h.rb; omega), rdKeep h.Q hg (by have := h.bp; omega),
    own_keep h.oF hg (Nat.lt_succ_self _), own_keep h.oS hg (Nat.lt_succ_self _), own_keep h.oM hg (Nat.lt_succ_self _), fun x hx => ⟨own_keep (h.cF x hx).1 hg (Nat.lt_succ_self _), (h.cF x hx).2⟩, fun x hx => ⟨own_keep (h.cM x hx).1 hg (Nat.lt_succ_self _), (h.cM x hx).2⟩⟩
theorem DecR.alloc (h : DecR w W g pb s q) (o : Obj) : DecR w (W.alloc o) g pb s q :=
  ⟨h.low.alloc h.low.size o, h.rb, h.bp, h.rd.alloc o, h.P.alloc o, h.Q.alloc o, h.oF.alloc o, h.oS.alloc o, h.oM.alloc o, fun x hx => ⟨(h.cF x hx).1.alloc o, (h.cF x hx).2⟩, fun x hx => ⟨(h.cM x hx).1.alloc o, (h.cM x hx).2⟩⟩
theorem DecR.drew (h : DecR w W g pb s q) : DecR w W.drew g pb s q := ⟨h.low.drew, h.rb, h.bp, h.rd, h.P, h.Q, h.oF, h.oS, h.oM, h.cF, h.cM⟩
theorem DecR.next (h : DecR w W g pb s q) (hb : Below W.heap.size W W1) : DecR w W1 g pb s q := h.read (grown_of_below hb _) (h.rd.next hb)
/-- A function more. -/
theorem DecR.pushF (h : DecR w W g pb s q) {x : Fnv} (hx : FnOwn W (g + 1) x) {a1 : Option Addr} {c1 : Nat} (hg : W.grownBy W1 (Value.slice q.AF q.L.length q.cF).ownBlock)
    (ho : W1.ownsRow (g + 1) 60 3 (.slice a1 (q.L.length + 1) c1) (q.L.length + 1) (q.L.flatMap Fnv.cells ++ x.cells)) :
    DecR w (W1.setCell ⟨pb, 0, none⟩ (.slice a1 (q.L.length + 1) c1)) g pb s ⟨a1, c1, q.L ++ [x], q.AS, q.cS, q.S, q.AM, q.cM, q.M⟩ := by
  have Q1 := blk_row h.Q h.oF hg (by decide)
  have T1 := h.rd.grown hg (fun j e => by have := (h.oF.lt j e).1; omega)
  have hrow : ∀ k, (Value.slice q.AF q.L.length q.cF).ownBlock = some k → g + 1 ≤ k := fun k e => (h.oF.lt k e).1
  have hrb := h.rb
  have hbp := h.bp
  refine ⟨(h.low.grown hg h.low.size (fun k e => by have := hrow k e; omega)).setCell (p := ⟨pb, 0, none⟩) (by simp; omega) _, h.rb, h.bp, T1.grown (grown_set _ pb 0 _) (fun j e => by have := Option.some.inj e; omega), (blk_row h.P h.oF hg (by decide)).far (by simp; omega) _, ?_, ?_, ?_, ?_, ?_, ?_⟩
  · simp only [List.length_append, List.length_cons, List.length_nil]
    exact (setP Q1).1
  · simp only [List.length_append, List.length_cons, List.length_nil, List.flatMap_append, List.flatMap_cons, List.flatMap_nil, List.append_nil]
    exact own_set ho Q1 (by decide)
  · exact own_set (own_row h.oS h.oF hg (by decide)) Q1 (by decide)
  · exact own_set (own_row h.oM h.oF hg (by decide)) Q1 (by decide)
  · intro y hy
    rcases List.mem_append.1 hy with hy | hy
    · exact ⟨own_set (own_row (h.cF y hy).1 h.oF hg (by decide)) Q1 (by decide), (h.cF y hy).2⟩
    · obtain rfl := List.mem_singleton.1 hy
      exact ⟨own_set (own_row hx.1 h.oF hg (by decide)) Q1 (by decide), hx.2⟩
  · intro y hy
    exact ⟨own_set (own_row (h.cM y hy).1 h.oF hg (by decide)) Q1 (by decide), (h.cM y hy).2⟩
/-- A text more. -/
theorem DecR.pushS (h : DecR w W g pb s q) {x : List UInt8} {a1 : Option Addr} {c1 : Nat} (hg : W.grownBy W1 (Value.slice q.AS q.S.length q.cS).ownBlock)
    (ho : W1.ownsRow (g + 1) 9 1 (.slice a1 (q.S.length + 1) c1) (q.S.length + 1) (q.S.map strV ++ [strV x])) :
    DecR w (W1.setCell ⟨pb, 1, none⟩ (.slice a1 (q.S.length + 1) c1)) g pb s ⟨q.AF, q.cF, q.L, a1, c1, q.S ++ [x], q.AM, q.cM, q.M⟩ := by
  have Q1 := blk_row h.Q h.oS hg (by decide)
  have T1 := h.rd.grown hg (fun j e => by have := (h.oS.lt j e).1; omega)
  have hrow : ∀ k, (Value.slice q.AS q.S.length q.cS).ownBlock = some k → g + 1 ≤ k := fun k e => (h.oS.lt k e).1
  have hrb := h.rb
  have hbp := h.bp
  refine ⟨(h.low.grown hg h.low.size (fun k e => by have := hrow k e; omega)).setCell (p := ⟨pb, 1, none⟩) (by simp; omega) _, h.rb, h.bp, T1.grown (grown_set _ pb 1 _) (fun j e => by have := Option.some.inj e; omega), (blk_row h.P h.oS hg (by decide)).far (by simp; omega) _, ?_, ?_, ?_, ?_, ?_, ?_⟩
  · simp only [List.length_append, List.length_cons, List.length_nil]
    exact (setP Q1).2.1
  · exact own_set (own_row h.oF h.oS hg (by decide)) Q1 (by decide)
  · simp only [List.length_append, List.length_cons, List.length_nil, List.map_append, List.map_cons, List.map_nil]
    exact own_set ho Q1 (by decide)
  · exact own_set (own_row h.oM h.oS hg (by decide)) Q1 (by decide)
  · intro y hy
    exact ⟨own_set (own_row (h.cF y hy).1 h.oS hg (by decide)) Q1 (by decide), (h.cF y hy).2⟩
  · intro y hy
    exact ⟨own_set (own_row (h.cM y hy).1 h.oS hg (by decide)) Q1 (by decide), (h.cM y hy).2⟩
/-- A form more. -/
theorem DecR.pushM (h : DecR w W g pb s q) {x : Fmv} (hx : FmOwn W (g + 1) x) {a1 : Option Addr} {c1 : Nat} (hg : W.grownBy W1 (Value.slice q.AM q.M.length q.cM).ownBlock)
    (ho : W1.ownsRow (g + 1) 63 4 (.slice a1 (q.M.length + 1) c1) (q.M.length + 1) (q.M.flatMap Fmv.cells ++ x.cells)) :
    DecR w (W1.setCell ⟨pb, 2, none⟩ (.slice a1 (q.M.length + 1) c1)) g pb s ⟨q.AF, q.cF, q.L, q.AS, q.cS, q.S, a1, c1, q.M ++ [x]⟩ := by
  have Q1 := blk_row h.Q h.oM hg (by decide)
  have T1 := h.rd.grown hg (fun j e => by have := (h.oM.lt j e).1; omega)
  have hrow : ∀ k, (Value.slice q.AM q.M.length q.cM).ownBlock = some k → g + 1 ≤ k := fun k e => (h.oM.lt k e).1
  have hrb := h.rb
  have hbp := h.bp
  refine ⟨(h.low.grown hg h.low.size (fun k e => by have := hrow k e; omega)).setCell (p := ⟨pb, 2, none⟩) (by simp; omega) _, h.rb, h.bp, T1.grown (grown_set _ pb 2 _) (fun j e => by have := Option.some.inj e; omega), (blk_row h.P h.oM hg (by decide)).far (by simp; omega) _, ?_, ?_, ?_, ?_, ?_, ?_⟩
  · simp only [List.length_append, List.length_cons, List.length_nil]
    exact (setP Q1).2.2
  · exact own_set (own_row h.oF h.oM hg (by decide)) Q1 (by decide)
  · exact own_set (own_row h.oS h.oM hg (by decide)) Q1 (by decide)
  · simp only [List.length_append, List.length_cons, List.length_nil, List.flatMap_append, List.flatMap_cons, List.flatMap_nil, List.append_nil]
    exact own_set ho Q1 (by decide)
  · intro y hy
    exact ⟨own_set (own_row (h.cF y hy).1 h.oM hg (by decide)) Q1 (by decide), (h.cF y hy).2⟩
  · intro y hy
    rcases List.mem_append.1 hy with hy | hy
    · exact ⟨own_set (own_row (h.cM y hy).1 h.oM hg (by decide)) Q1 (by decide), (h.cM y hy).2⟩
    · obtain rfl := List.mem_singleton.1 hy
      exact ⟨own_set (own_row hx.1 h.oM hg (by decide)) Q1 (by decide), hx.2⟩
/-- It is a program in memory. -/
theorem DecR.ok (h : DecR w W g pb s q) (l1 : q.L.length ≤ 65536) (l2 : q.S.length ≤ 65536) (l3 : q.M.length ≤ 65536) : PrOk W W.heap.size q :=
  ⟨Reads.of_own h.oF, fun x hx => ⟨Reads.of_own (h.cF x hx).1, by have := (h.cF x hx).2; unfold maxLen; omega⟩, Reads.of_own h.oS, Reads.of_own h.oM, fun x hx => ⟨Reads.of_own (h.cM x hx).1, by have := (h.cM x hx).2; unfold maxLen; omega⟩, by unfold maxLen; omega, by unfold maxLen; omega, by unfold maxLen; omega⟩
end
end Go.Proofs.YtiphicejaljhiaaDoor
