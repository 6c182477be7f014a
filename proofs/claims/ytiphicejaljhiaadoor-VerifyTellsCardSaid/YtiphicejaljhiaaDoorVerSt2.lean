/- A checker's rows, written: a state more, a state told, one off the queue. -/
import Derived.Test.YtiphicejaljhiaaDoorVerSt
namespace Go.Proofs.YtiphicejaljhiaaDoor
open Go.ChangeShapes Go.WideShapes Go.ChangeAt Go.RowKit
theorem flat_set (s : Sta) : ∀ (L : List Sta) (k : Nat), k < L.length → (L.set k s).flatMap stCells = ((L.flatMap stCells).set (k * 2) (.int .i64 s.1)).set (k * 2 + 1) (.int .i64 s.2) := by
  intro L
  induction L with
  | nil => intro k h; simp at h
  | cons y L ih =>
    intro k h
    cases k with
    | zero => rfl
    | succ k =>
      rw [List.set_cons_succ, List.flatMap_cons, ih k (by simpa using h), List.flatMap_cons]
      rw [List.set_append_right _ _ (by simp [stCells]; omega), List.set_append_right _ _ (by simp [stCells]; omega)]
      have e1 : (k + 1) * 2 - (stCells y).length = k * 2 := by simp [stCells]; omega
      have e2 : (k + 1) * 2 + 1 - (stCells y).length = k * 2 + 1 := by simp [stCells]; omega
      rw [e1, e2]
section
variable {w W W' W1 : World} {g : Nat} {q : PrMem} {x : Fnv} {lv dv : Value} {L : List Sta} {D : List Nxt}
/-- A state more. -/
theorem VerSt.pushL (h : VerSt w W g q x lv dv L D) {s : Sta} {lv' : Value} {xs : List Value} (hg : W.grownBy W1 lv.ownBlock) (ho : W1.ownsRow (g + 1) 122 2 lv' (L.length + 1) (L.flatMap stCells ++ xs)) (hx : xs = stCells s) :
    VerSt w (W1.setCell ⟨g, 6, none⟩ lv') g q x lv' dv (L ++ [s]) D := by
  subst hx
  have C1 := blk_row h.chk h.hl hg (by decide)
  have hrow : ∀ k, lv.ownBlock = some k → g + 1 ≤ k := fun k e => (h.hl.lt k e).1
  refine ⟨(h.low.grown hg (Nat.le_of_lt h.chk.lt) (fun k e => by have := hrow k e; omega)).setCell (p := ⟨g, 6, none⟩) (by simp) _, C1.set_ 6 lv', ?_, ?_⟩
  · simp only [List.length_append, List.length_cons, List.length_nil, List.flatMap_append, List.flatMap_cons, List.flatMap_nil, List.append_nil]
    exact own_set ho C1 (by decide)
  · exact (h.hd.kept hg (h.hd.own_ne' h.hl (by decide))).set_ C1 (by decide)
theorem VerSt.al_eq {al : Addr} {n c : Nat} (h : VerSt w W g q x (.slice (some al) n c) dv L D) (hL : 0 < L.length) : ∃ r, al = ⟨r, 0, none⟩ ∧ n = L.length ∧ g < r ∧ r < W.heap.size := by
  obtain ⟨r, cap, hv, hb, hlt⟩ := h.hl.form hL
  injection hv with h1 h2 _
  exact ⟨r, Option.some.inj h1, h2, hb, hlt⟩
theorem VerSt.lcell {al : Addr} {n c : Nat} (h : VerSt w W g q x (.slice (some al) n c) dv L D) {k : Nat} {s : Sta} (hk : L[k]? = some s) :
    W.cell? (al.add (k * 2)) = some (.int .i64 s.1) ∧ W.cell? ⟨(al.add (k * 2)).block, (al.add (k * 2)).off + 1, none⟩ = some (.int .i64 s.2) ∧ W.frozen? (al.add (k * 2)) = false ∧ W.frozen? ⟨(al.add (k * 2)).block, (al.add (k * 2)).off + 1, none⟩ = false := by
  have hkl := (List.getElem?_eq_some_iff.1 hk).1
  obtain ⟨r, rfl, rfl, _, _⟩ := h.al_eq (by omega)
  have hz : (⟨r, 0, none⟩ : Addr).add (k * 2) = ⟨r, k * 2, none⟩ := by rw [Addr.add_lit, Nat.zero_add]
  rw [hz]
  have h0 := flatN stCells 2 (fun _ => rfl) L k 0 s hk (by omega)
  have h1 := flatN stCells 2 (fun _ => rfl) L k 1 s hk (by omega)
  exact ⟨(h.hl.cellAt (k * 2) (by omega)).trans h0, (h.hl.cellAt (k * 2 + 1) (by omega)).trans h1, h.hl.frozenAt _, h.hl.frozenAt _⟩
/-- A state told. -/
theorem VerSt.setL {al : Addr} {n c : Nat} (h : VerSt w W g q x (.slice (some al) n c) dv L D) {k : Nat} (hk : k < L.length) (s : Sta) :
    VerSt w ((W.setCell (al.add (k * 2)) (.int .i64 s.1)).setCell ⟨(al.add (k * 2)).block, (al.add (k * 2)).off + 1, none⟩ (.int .i64 s.2)) g q x (.slice (some al) n c) dv (L.set k s) D := by
  obtain ⟨r, rfl, rfl, hgr, hrl⟩ := h.al_eq (by omega)
  have hz : (⟨r, 0, none⟩ : Addr).add (k * 2) = ⟨r, k * 2, none⟩ := by rw [Addr.add_lit, Nat.zero_add]
  rw [hz]
  have hdne : dv.ownBlock = none ∨ dv.ownBlock ≠ some r := by
    have := h.hd.own_ne' h.hl (by decide)
    simpa [Value.ownBlock] using this
  refine ⟨(h.low.setCell (p := ⟨r, k * 2, none⟩) (by show g ≤ r; omega) _).setCell (p := ⟨r, k * 2 + 1, none⟩) (by show g ≤ r; omega) _, (h.chk.far (by show g ≠ r; omega) _).far (by show g ≠ r; omega) _, ?_, (h.hd.kept (grown_set W r (k * 2) _) hdne).kept (grown_set _ r (k * 2 + 1) _) hdne⟩
  rw [List.length_set, flat_set s L k hk]
  exact ((h.hl.stored (k * 2) _).1.stored (k * 2 + 1) _).1
/-- The queue begins: the first instruction. -/
theorem VerSt.first (h : VerSt w W g q x lv dv L D) : VerSt w ((W.setCell ⟨g, 7, none⟩ (.slice (some ⟨W.heap.size, 0, none⟩) 1 1)).alloc (.cells #[.int .i64 0, .int .i64 0, .int .i64 0] 128)) g q x lv (.slice (some ⟨W.heap.size, 0, none⟩) 1 1) L [(0, (0, 0))] := by
  have hlt := h.chk.lt
  have hs : (W.setCell ⟨g, 7, none⟩ (.slice (some ⟨W.heap.size, 0, none⟩) 1 1)).heap.size = W.heap.size := World.size_setCell ..
  have hq : QOwn ((W.setCell ⟨g, 7, none⟩ (.slice (some ⟨W.heap.size, 0, none⟩) 1 1)).alloc (.cells #[.int .i64 0, .int .i64 0, .int .i64 0] 128)) (g + 1) 128 3 (.slice (some ⟨W.heap.size, 0, none⟩) 1 1) 1 [.int .i64 0, .int .i64 0, .int .i64 0] :=
    ⟨rfl, .inr ⟨W.heap.size, 0, 1, _, rfl, by omega, by have h := heap_alloc_new (W.setCell ⟨g, 7, none⟩ (.slice (some ⟨W.heap.size, 0, none⟩) 1 1)) (.cells #[.int .i64 0, .int .i64 0, .int .i64 0] 128); rw [hs] at h; exact h, by decide, by unfold maxLen; decide, by decide, rfl⟩⟩
  exact ⟨(h.low.setCell (p := ⟨g, 7, none⟩) (by simp) _).alloc (by rw [hs]; omega) _, (h.chk.set_ 7 _).alloc _, (own_set h.hl h.chk (by decide)).alloc _, hq⟩
/-- One off the queue. -/
theorem VerSt.pop {A : Option Addr} {c : Nat} {y : Nxt} {D' : List Nxt} (h : VerSt w W g q x lv (.slice A (D'.length + 1) c) L (y :: D')) :
    VerSt w (W.setCell ⟨g, 7, none⟩ (.slice (if c = 1 then A else A.map (·.add 3)) D'.length (c - 1))) g q x lv (.slice (if c = 1 then A else A.map (·.add 3)) D'.length (c - 1)) L D' := by
  have hq := h.hd
  rw [List.length_cons, List.flatMap_cons] at hq
  have h2 := hq.pop (ys := nxCells y) rfl
  exact ⟨h.low.setCell (p := ⟨g, 7, none⟩) (by simp) _, h.chk.set_ 7 _, own_set h.hl h.chk (by decide), h2.set_ h.chk (by decide)⟩
/-- The same, the row's block by its number. -/
theorem VerSt.lcell0 {r n c : Nat} (h : VerSt w W g q x (.slice (some ⟨r, 0, none⟩) n c) dv L D) {k : Nat} {s : Sta} (hk : L[k]? = some s) :
    W.cell? ⟨r, k * 2, none⟩ = some (.int .i64 s.1) ∧ W.cell? ⟨r, k * 2 + 1, none⟩ = some (.int .i64 s.2) ∧ W.frozen? ⟨r, k * 2, none⟩ = false ∧ W.frozen? ⟨r, k * 2 + 1, none⟩ = false := by
  have h1 := h.lcell hk
  have hz : (⟨r, 0, none⟩ : Addr).add (k * 2) = ⟨r, k * 2, none⟩ := by rw [Addr.add_lit, Nat.zero_add]
  rw [hz] at h1
  exact h1
theorem VerSt.setL0 {r n c : Nat} (h : VerSt w W g q x (.slice (some ⟨r, 0, none⟩) n c) dv L D) {k : Nat} (hk : k < L.length) (s : Sta) :
    VerSt w ((W.setCell ⟨r, k * 2, none⟩ (.int .i64 s.1)).setCell ⟨r, k * 2 + 1, none⟩ (.int .i64 s.2)) g q x (.slice (some ⟨r, 0, none⟩) n c) dv (L.set k s) D := by
  have h1 := h.setL hk s
  have hz : (⟨r, 0, none⟩ : Addr).add (k * 2) = ⟨r, k * 2, none⟩ := by rw [Addr.add_lit, Nat.zero_add]
  rw [hz] at h1
  exact h1
end
end Go.Proofs.YtiphicejaljhiaaDoor
