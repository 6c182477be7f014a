/- What stockpotref08.States holds in memory while it runs. -/
import Derived.Test.YtiphicejaljhiaaDoorRef8
import Derived.Test.YtiphicejaljhiaaDoorRLast
import Derived.StillTailTactics
namespace Go.Proofs.YtiphicejaljhiaaDoor
open Go.ChangeShapes Go.WideShapes Go.ChangeAt Go.RowKit
/-- The parameter's, the result's and the function's cells; the states' row at block r; the stack of what is to be followed. -/
structure RSt (w W : World) (q : PrMem) (x : Fnv) (r : Nat) (tv : Value) (L : List Sta) (T : List Nat) : Prop where
  low : Below w.heap.size w W
  P : Blk W w.heap.size 42 #[.slice q.AF q.L.length q.cF, .slice q.AS q.S.length q.cS, .slice q.AM q.M.length q.cM]
  R : Blk W (w.heap.size + 1) 70 #[.slice none 0 0, .bool false]
  F : Blk W (w.heap.size + 2) 60 #[.int .i64 x.fn.locals, .int .i64 x.fn.free, .slice x.ad x.fn.code.length x.cap]
  S : W.ownsRow (w.heap.size + 3) 79 2 (.slice (some ⟨r, 0, none⟩) L.length L.length) L.length (L.flatMap stCells)
  tr : W.ownsRow (w.heap.size + 3) 3 1 tv T.length (T.reverse.map fun k => Value.int .i64 (k : Nat))
section
variable {w W W' W1 : World} {q : PrMem} {x : Fnv} {r : Nat} {tv : Value} {L : List Sta} {T : List Nat}
theorem RSt.next (h : RSt w W q x r tv L T) (hb : Below W.heap.size W W') : RSt w W' q x r tv L T := ⟨next_ h.low hb, h.P.next hb, h.R.next hb, h.F.next hb, own_next h.S hb, own_next h.tr hb⟩
theorem RSt.rb (h : RSt w W q x r tv L T) : w.heap.size + 3 ≤ r ∧ r < W.heap.size := by
  have := h.S.lt r rfl
  exact this
theorem flat_set2 (s : Sta) : ∀ (L : List Sta) (k : Nat), k < L.length → (L.set k s).flatMap stCells = ((L.flatMap stCells).set (k * 2) (.int .i64 s.1)).set (k * 2 + 1) (.int .i64 s.2) := by
  intro L
  induction L with
  | nil => intro k h; simp at h
  | cons y L ih =>
    intro k h
    cases k with
    | zero => rfl
    | succ k =>
      rw [List.set_cons_succ, List.flatMap_cons, ih k (by simpa using h), List.flatMap_cons]
      rw [List.set_append_right _ _ (by simp [stCells]; omega), List.set_append_right _ _ (by simp [stCells]; omega)]
      have e1 : (k + 1) * 2 - (stCells y).length = k * 2 := by simp [stCells]; omega
      have e2 : (k + 1) * 2 + 1 - (stCells y).length = k * 2 + 1 := by simp [stCells]; omega
      rw [e1, e2]
theorem RSt.cells (h : RSt w W q x r tv L T) {k : Nat} {s : Sta} (hk : L[k]? = some s) :
    W.cell? ⟨r, k * 2, none⟩ = some (.int .i64 s.1) ∧ W.cell? ⟨r, k * 2 + 1, none⟩ = some (.int .i64 s.2) ∧ W.frozen? ⟨r, k * 2, none⟩ = false ∧ W.frozen? ⟨r, k * 2 + 1, none⟩ = false := by
  have hkl := (List.getElem?_eq_some_iff.1 hk).1
  have h0 := flatN stCells 2 (fun _ => rfl) L k 0 s hk (by omega)
  have h1 := flatN stCells 2 (fun _ => rfl) L k 1 s hk (by omega)
  exact ⟨(h.S.cellAt (k * 2) (by omega)).trans h0, (h.S.cellAt (k * 2 + 1) (by omega)).trans h1, h.S.frozenAt _, h.S.frozenAt _⟩
theorem RSt.set (h : RSt w W q x r tv L T) {k : Nat} (hk : k < L.length) (s : Sta) :
    RSt w ((W.setCell ⟨r, k * 2, none⟩ (.int .i64 s.1)).setCell ⟨r, k * 2 + 1, none⟩ (.int .i64 s.2)) q x r tv (L.set k s) T := by
  obtain ⟨r1, r2⟩ := h.rb
  have hdne : tv.ownBlock = none ∨ tv.ownBlock ≠ some r := by
    have := own_own_ne h.tr h.S (by decide)
    simpa [Value.ownBlock] using this
  refine ⟨(h.low.setCell (p := ⟨r, k * 2, none⟩) (by show _ ≤ r; omega) _).setCell (p := ⟨r, k * 2 + 1, none⟩) (by show _ ≤ r; omega) _, (h.P.far (by show _ ≠ r; omega) _).far (by show _ ≠ r; omega) _, (h.R.far (by show _ ≠ r; omega) _).far (by show _ ≠ r; omega) _, (h.F.far (by show _ ≠ r; omega) _).far (by show _ ≠ r; omega) _, ?_, (h.tr.kept (grown_set W r (k * 2) _) hdne).kept (grown_set _ r (k * 2 + 1) _) hdne⟩
  rw [List.length_set, flat_set2 s L k hk]
  exact ((h.S.stored (k * 2) _).1.stored (k * 2 + 1) _).1
/-- The stack's top. -/
theorem RSt.top {k : Nat} {n : Nat} {A : Option Addr} {c : Nat} (h : RSt w W q x r (.slice A n c) L (k :: T)) : ∃ g, A = some ⟨g, 0, none⟩ ∧ n = T.length + 1 ∧ W.cell? ⟨g, T.length, none⟩ = some (.int .i64 (k : Nat)) ∧ T.length + 1 ≤ c := by
  have hr := h.tr
  rcases hr.2 with ⟨hv, h0⟩ | ⟨g, cap, cur, hv, _, _, hc, _⟩
  · cases h0
  · obtain ⟨rfl, rfl, rfl⟩ := Value.slice.inj hv
    refine ⟨g, rfl, rfl, ?_, hc⟩
    rw [hr.cellAt T.length (by simp)]
    simp
/-- The top taken off. -/
theorem RSt.pop {k : Nat} {g c : Nat} (h : RSt w W q x r (.slice (some ⟨g, 0, none⟩) (T.length + 1) c) L (k :: T)) : RSt w W q x r (.slice (some ⟨g, 0, none⟩) T.length c) L T := by
  refine ⟨h.low, h.P, h.R, h.F, h.S, ?_⟩
  have hr := h.tr
  rcases hr.2 with ⟨hv, h0⟩ | ⟨g', cap, cur, hv, hb, hh, hc, hm, hz, ht⟩
  · cases h0
  · obtain ⟨e1, e2, rfl⟩ := Value.slice.inj hv
    obtain rfl : g = g' := by injection e1 with e1; injection e1
    refine ⟨by simp, .inr ⟨g, c, cur, rfl, hb, hh, by simp at hc; omega, hm, hz, ?_⟩⟩
    have h1 := congrArg (List.take T.length) ht
    rw [List.take_take] at h1
    simp only [List.length_cons, Nat.mul_one] at h1 ⊢
    rw [Nat.min_eq_left (by omega)] at h1
    rw [h1, List.reverse_cons, List.map_append, List.take_append_of_le_length (by simp), List.take_of_length_le (by simp)]
/-- One more. -/
theorem RSt.push (h : RSt w W q x r tv L T) {k : Nat} {v' : Value} (hg : W.grownBy W1 tv.ownBlock) (ho : W1.ownsRow (w.heap.size + 3) 3 1 v' (T.length + 1) ((T.reverse.map fun k => Value.int .i64 (k : Nat)) ++ [.int .i64 (k : Nat)])) :
    RSt w W1 q x r v' L (k :: T) := by
  have hrow : ∀ j, tv.ownBlock = some j → w.heap.size + 3 ≤ j := fun j e => (h.tr.lt j e).1
  refine ⟨h.low.grown hg h.low.size (fun j e => by have := hrow j e; omega), blk_row h.P h.tr hg (by decide), blk_row h.R h.tr hg (by decide), blk_row h.F h.tr hg (by decide), own_row h.S h.tr hg (by decide), ?_⟩
  simpa using ho
end
end Go.Proofs.YtiphicejaljhiaaDoor
