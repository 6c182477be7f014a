/- types.Text: plain words on texts; the rows that Text writes. -/
import Derived.Test.YtcilodgpbdafeaaDoorTItoa
namespace Go.Proofs.YtcilodgpbdafeaaDoor
open Go.ChangeShapes Go.WideShapes Go.ChangeAt Go.RowKit
set_option linter.unusedVariables false
set_option linter.unusedSimpArgs false
/-- Parts whose texts and numbers are small. -/
def Tame (l : List Part) : Prop := ∀ p ∈ l, p.t.length ≤ 3000 ∧ (p.k = 11 → 0 ≤ p.n ∧ p.n < 200)
theorem word_len (k : Int) : (word k).length ≤ 6 := by
  unfold word
  split
  · decide
  split
  · decide
  split
  · decide
  split
  · decide
  split
  · decide
  decide
theorem vtx_len {n : Int} (h0 : 0 ≤ n) (h : n < 200) : (vtx n).length ≤ 3 := by
  unfold vtx
  by_cases h26 : 26 ≤ n
  · rw [if_pos h26, digs_one (n.toNat / 26) (by omega) (by omega)]; simp
  · rw [if_neg h26]; simp
theorem tx_len {l : List Part} (hl : Tame l) : ∀ (U : Ty) (i : Nat), At l U i → (tx U).length ≤ 3010 * U.size := by
  intro U
  induction U with
  | leaf k t =>
    intro i h
    have h' : l[i]? = some ⟨k, 0, 0, 0, t⟩ := h
    have := (hl _ (List.mem_of_getElem? h')).1
    have hw := word_len k
    show (if k = 10 then t else word k).length ≤ 3010 * 1
    split
    · exact Nat.le_trans this (by decide)
    · omega
  | var n =>
    intro i h
    have h' : l[i]? = some ⟨11, 0, 0, n, []⟩ := h
    have := (hl _ (List.mem_of_getElem? h')).2 rfl
    have := vtx_len (n := n) this.1 this.2
    show (vtx n).length ≤ 3010 * 1
    omega
  | one k s ih =>
    rintro i ⟨j, _, _, hs⟩
    have := ih j hs
    have h6 : (one_ k).length ≤ 6 := by unfold one_; split <;> decide
    show (opn ++ tx s ++ one_ k).length ≤ 3010 * (s.size + 1)
    rw [List.length_append, List.length_append]
    have : opn.length = 1 := rfl
    omega
  | two k s u ih1 ih2 =>
    rintro i ⟨j, g, _, _, hs, hu, _⟩
    have := ih1 g hs
    have := ih2 j hu
    have h6 : (mid_ k).length ≤ 4 := by unfold mid_; split <;> decide
    show (opn ++ tx s ++ mid_ k ++ tx u ++ [41]).length ≤ 3010 * (s.size + u.size + 1)
    simp only [List.length_append, List.length_singleton]
    have : opn.length = 1 := rfl
    omega
theorem norm_tame {l : List Part} (hl : l.length ≤ 200) (ht : ∀ p ∈ l, p.t.length ≤ 3000) : Tame (norm l) := by
  intro p hp
  obtain ⟨q, hq, rfl⟩ := List.mem_map.1 hp
  have h1 := ht q hq
  unfold ren
  by_cases hk : q.k = 11
  · rw [if_pos hk]
    refine ⟨h1, fun _ => ⟨Int.natCast_nonneg _, ?_⟩⟩
    have hm := nums_mem l [] q hq hk
    have h2 := List.idxOf_lt_length_of_mem hm
    have h3 := nums_len l []
    simp only [List.length_nil] at h3
    show (((nums l []).idxOf q.n : Nat) : Int) < 200
    omega
  · rw [if_neg hk]
    exact ⟨h1, fun h => absurd h hk⟩
/-- The texts of the first k parts are told. -/
structure TxW (W w : World) (m : List Part) (k r : Nat) (vn : Value) (xs : List (List UInt8)) : Prop where
  below : Below W.heap.size W w
  own : w.ownsRow W.heap.size 9 1 (.slice (some ⟨r, 0, none⟩) m.length m.length) m.length (xs.map strV)
  len : xs.length = m.length
  told : ∀ i U, i < k → U.wf → At m U i → xs[i]? = some (tx U)
  part : w.ownsRow W.heap.size 29 5 vn m.length (m.flatMap partC)
section
variable {W w w' : World} {m : List Part} {k r : Nat} {vn : Value} {xs : List (List UInt8)}
theorem TxW.next (h : TxW W w m k r vn xs) (hb : Below w.heap.size w w') : TxW W w' m k r vn xs :=
  ⟨h.below.trans (hb.mono h.below.size), own_next h.own hb, h.len, h.told, own_next h.part hb⟩
theorem TxW.alloc (h : TxW W w m k r vn xs) (o : Obj) : TxW W (w.alloc o) m k r vn xs := h.next (below_new w o)
theorem TxW.cell (h : TxW W w m k r vn xs) {j : Nat} {s : List UInt8} (hj : xs[j]? = some s) : w.cell? ⟨r, j, none⟩ = some (strV s) ∧ w.frozen? ⟨r, j, none⟩ = false := by
  have hlt := (List.getElem?_eq_some_iff.1 hj).1
  have h1 := h.own.cellAt j (by have := h.len; omega)
  rw [List.getElem?_map, hj] at h1
  exact ⟨h1, h.own.frozenAt j⟩
theorem TxW.some_ (h : TxW W w m k r vn xs) {j : Nat} (hj : j < m.length) : ∃ s, xs[j]? = some s := ⟨_, List.getElem?_eq_getElem (by rw [h.len]; exact hj)⟩
theorem TxW.lt (h : TxW W w m k r vn xs) (hm : 0 < m.length) : W.heap.size ≤ r ∧ r < w.heap.size := by
  obtain ⟨s, hs⟩ := h.some_ hm
  refine ⟨own_base h.own r rfl, World.block_lt_of_cell? w ⟨r, 0, none⟩ (h.cell hs).1⟩
theorem TxW.put (h : TxW W w m k r vn xs) (hk : k < m.length) {s : List UInt8} (hs : ∀ U, U.wf → At m U k → s = tx U) : TxW W (w.setCell ⟨r, k, none⟩ (strV s)) m (k + 1) r vn (xs.set k s) := by
  have hlt := h.lt (by omega)
  refine ⟨⟨h.below.os, h.below.tape, h.below.output, by rw [World.size_setCell]; exact h.below.size, fun j hj => (Below.heap_setCell w ⟨r, k, none⟩ _ j (by show j ≠ r; omega)).trans (h.below.block j hj)⟩, ?_, by rw [List.length_set]; exact h.len, fun i U hi wU hU => ?_, h.part.kept (grown_set w r k _) ?_⟩
  · have := (h.own.stored k (strV s)).1
    rwa [← List.map_set] at this
  · by_cases hik : i = k
    · subst hik
      rw [List.getElem?_set, if_pos rfl, if_pos (by rw [h.len]; exact hk), hs U wU hU]
    · rw [List.getElem?_set, if_neg (fun e => hik e.symm)]
      exact h.told i U (by omega) wU hU
  · have := own_own_ne h.part h.own (by decide)
    simpa [Value.ownBlock] using this
end
def wordsL : List (List UInt8) := [[], word 1, word 2, word 3, word 4, word 5]
/-- The words lie in the package's variable. -/
def WordTab (w : World) : Prop := 0 < w.heap.size ∧ ∃ t, w.heap[0]? = some (.cells (wordsL.map strV).toArray t (0, 0))
theorem WordTab.next {w w' : World} (h : WordTab w) (hb : Below w.heap.size w w') : WordTab w' := by
  obtain ⟨h0, t, h1⟩ := h
  exact ⟨Nat.lt_of_lt_of_le h0 hb.size, t, (hb.block 0 h0).trans h1⟩
theorem WordTab.cell {w : World} (h : WordTab w) {k : Nat} (h1 : 1 ≤ k) (h5 : k ≤ 5) : w.cell? ⟨0, k, none⟩ = some (strV (word (k : Int))) := by
  obtain ⟨_, t, h2⟩ := h
  rw [cell_of_row w 0 k _ t (0, 0) h2]
  have hk : k = 1 ∨ k = 2 ∨ k = 3 ∨ k = 4 ∨ k = 5 := by omega
  rcases hk with rfl | rfl | rfl | rfl | rfl <;> rfl
/-- What Text hands back. -/
def TextEnd (l : List Part) (W : World) (e : Ending) (W' : World) : Prop := ∃ s, e = .returned (strV s) ∧ Below W.heap.size W W' ∧ (gTy l = false → s = []) ∧ ∀ T : Ty, T.wf → gTy l = true → norm l = enc 0 T → s = tx T
theorem made_strs (n : Nat) : (madeCells (Value.string ⟨#[]⟩).cells (n * 1)).toList = (List.replicate n ([] : List UInt8)).map strV := by
  rw [Nat.mul_one, List.map_replicate]
  exact toList_madeCells_one _ n
theorem str_info : (Tryd.prog.info? 9).map (fun i => (i.zero, i.size, i.bytes)) = some (some (.string ⟨#[]⟩), 1, 16) := by kernel_rfl
end Go.Proofs.YtcilodgpbdafeaaDoor
