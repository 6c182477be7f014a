/- The table of instructions as plain data, what is read off it, and that the package-level variable op.rows holds its cells. -/
import Derived.Test.YtiphicejaljhiaaDoorMem
namespace Go.Proofs.YtiphicejaljhiaaDoor
open Go.ChangeShapes Go.WideShapes Go.ChangeAt Go.RowKit

/-- A row of the table: its name, what A and B may be, what it takes, what it leaves. -/
structure OpRow where
  nm : List UInt8
  a0 : Int
  a1 : Int
  b0 : Int
  b1 : Int
  tk : Int
  lv : Int
def opTab : List OpRow := [
  ⟨[105, 110, 116], (-4611686018427387904), 4611686018427387903, 0, 0, 0, 1⟩,
  ⟨[115, 116, 114], 0, 39, 0, 0, 0, 1⟩,
  ⟨[108, 111, 99, 97, 108], 0, 59, 0, 0, 0, 1⟩,
  ⟨[115, 101, 116], 0, 59, 0, 0, 1, 0⟩,
  ⟨[101, 110, 118], 0, 29, 0, 0, 0, 1⟩,
  ⟨[115, 101, 108, 102], 0, 0, 0, 0, 0, 1⟩,
  ⟨[99, 108, 111, 115, 101], 1, 59, 0, 30, 0, 1⟩,
  ⟨[99, 97, 108, 108], 0, 0, 0, 0, 2, 1⟩,
  ⟨[116, 97, 105, 108], 0, 0, 0, 0, 2, 0⟩,
  ⟨[114, 101, 116], 0, 0, 0, 0, 1, 0⟩,
  ⟨[106, 117, 109, 112], 0, 599, 0, 0, 0, 0⟩,
  ⟨[106, 117, 109, 112, 122], 0, 599, 0, 0, 1, 0⟩,
  ⟨[97, 100, 100], 0, 0, 0, 0, 2, 1⟩,
  ⟨[115, 117, 98], 0, 0, 0, 0, 2, 1⟩,
  ⟨[109, 117, 108], 0, 0, 0, 0, 2, 1⟩,
  ⟨[100, 105, 118], 0, 0, 0, 0, 2, 1⟩,
  ⟨[109, 111, 100], 0, 0, 0, 0, 2, 1⟩,
  ⟨[101, 113], 0, 0, 0, 0, 2, 1⟩,
  ⟨[108, 101, 115, 115], 0, 0, 0, 0, 2, 1⟩,
  ⟨[98, 108, 111, 99, 107], 0, 255, 1, 8, 0, 1⟩,
  ⟨[102, 105, 101, 108, 100], 0, 7, 0, 0, 1, 1⟩,
  ⟨[105, 115, 105, 110, 116], (-4611686018427387904), 4611686018427387903, 0, 0, 1, 1⟩,
  ⟨[105, 115, 116, 97, 103], 0, 255, 0, 0, 1, 1⟩,
  ⟨[115, 116, 111, 114, 101], 0, 0, 0, 0, 2, 1⟩,
  ⟨[97, 114, 114, 97, 121], 0, 0, 0, 0, 2, 1⟩,
  ⟨[103, 101, 116], 0, 0, 0, 0, 2, 1⟩,
  ⟨[112, 117, 116], 0, 0, 0, 0, 3, 1⟩,
  ⟨[108, 101, 110], 0, 0, 0, 0, 1, 1⟩,
  ⟨[99, 97, 116], 0, 0, 0, 0, 2, 1⟩,
  ⟨[115, 105, 122, 101], 0, 0, 0, 0, 1, 1⟩,
  ⟨[98, 121, 116, 101], 0, 0, 0, 0, 2, 1⟩,
  ⟨[116, 101, 120, 116], 0, 0, 0, 0, 1, 1⟩,
  ⟨[115, 97, 109, 101], 0, 0, 0, 0, 2, 1⟩,
  ⟨[116, 114, 121], 0, 599, 0, 0, 0, 0⟩,
  ⟨[117, 110, 116, 114, 121], 0, 0, 0, 0, 0, 0⟩,
  ⟨[114, 97, 105, 115, 101], 0, 0, 0, 0, 1, 0⟩,
  ⟨[104, 111, 115, 116], 0, 3, 0, 39, 0, 1⟩,
  ⟨[112, 111, 112], 0, 0, 0, 0, 1, 0⟩]
def opRow (k : Nat) : OpRow := opTab.getD k ⟨[], 0, 0, 0, 0, 0, 0⟩
abbrev strV (l : List UInt8) : Value := .string ⟨l.toArray⟩
def rowCells (r : OpRow) : List Value := [strV r.nm, .int .i64 r.a0, .int .i64 r.a1, .int .i64 r.b0, .int .i64 r.b1, .int .i64 r.tk, .int .i64 r.lv]
def rowData {H : Type} (r : OpRow) : DataW H :=
  .agg [.lit (.string r.nm), .agg [.lit (.int .i64 r.a0), .lit (.int .i64 r.a1)], .agg [.lit (.int .i64 r.b0), .lit (.int .i64 r.b1)], .lit (.int .i64 r.tk), .lit (.int .i64 r.lv)]
def opCells : List Value := opTab.flatMap rowCells
theorem laid_rows {H : Type} : (Rows.laid_stockpot_op_rows : DataW H) = .agg (opTab.map rowData) := rfl

theorem flat7 (l : List OpRow) : ∀ (k j : Nat), j < 7 → k < l.length → (l.flatMap rowCells)[k * 7 + j]? = (rowCells (l.getD k ⟨[], 0, 0, 0, 0, 0, 0⟩))[j]? := by
  induction l with
  | nil => intro k j _ hk; simp at hk
  | cons r l ih =>
    intro k j hj hk
    have hl : (rowCells r).length = 7 := rfl
    rw [List.flatMap_cons]
    cases k with
    | zero =>
      rw [Nat.zero_mul, Nat.zero_add, List.getElem?_append_left (by omega)]
      rfl
    | succ k =>
      rw [List.getElem?_append_right (by omega), hl, show (k + 1) * 7 + j - 7 = k * 7 + j from by omega, ih k j hj (by simpa using hk)]
      rfl
theorem opCells_at (k j : Nat) (hk : k < 38) (hj : j < 7) : opCells[k * 7 + j]? = (rowCells (opRow k))[j]? := flat7 opTab k j hj hk

theorem opCells_len : opCells.length = 266 := by kernel_rfl
/-- The variable op.rows holds the table. -/
def OpTab (w : World) : Prop := 0 < w.heap.size ∧ ∃ t, w.heap[0]? = some (.cells opCells.toArray t (0, 0))
theorem OpTab.below {B : Nat} {w w' : World} (h : OpTab w) (hb : Below B w w') (hB : 0 < B) : OpTab w' := by
  obtain ⟨h0, t, h1⟩ := h
  exact ⟨Nat.lt_of_lt_of_le h0 hb.size, t, (hb.block 0 hB).trans h1⟩
theorem OpTab.cell {w : World} (h : OpTab w) (i : Nat) : w.cell? ⟨0, i, none⟩ = opCells[i]? := by
  obtain ⟨_, t, h1⟩ := h
  rw [cell_of_row w 0 i _ t (0, 0) h1]
  simp
theorem OpTab.row {w : World} (h : OpTab w) (k : Nat) (hk : k < 38) :
    w.cell? ⟨0, k * 7, none⟩ = some (strV (opRow k).nm) ∧ w.cell? ⟨0, k * 7 + 1, none⟩ = some (.int .i64 (opRow k).a0) ∧ w.cell? ⟨0, k * 7 + 2, none⟩ = some (.int .i64 (opRow k).a1) ∧
    w.cell? ⟨0, k * 7 + 3, none⟩ = some (.int .i64 (opRow k).b0) ∧ w.cell? ⟨0, k * 7 + 4, none⟩ = some (.int .i64 (opRow k).b1) ∧ w.cell? ⟨0, k * 7 + 5, none⟩ = some (.int .i64 (opRow k).tk) ∧
    w.cell? ⟨0, k * 7 + 6, none⟩ = some (.int .i64 (opRow k).lv) := by
  refine ⟨?_, ?_, ?_, ?_, ?_, ?_, ?_⟩
  · exact (h.cell (k * 7 + 0)).trans (opCells_at k 0 hk (by decide))
  all_goals exact (h.cell _).trans (opCells_at k _ hk (by decide))

/-! ### From the row's condition to the cells -/
section
variable {H : Type} {enc : TypeId × Value → H} {w : World} {base : Nat} {sp : Nat → Bool} {held : Bool}
theorem cells83 : Tryd.prog.cellsOf 83 = 2 := by kernel_rfl
theorem cells85 : Tryd.prog.cellsOf 85 = 7 := by kernel_rfl
theorem cells86 : Tryd.prog.cellsOf 86 = 266 := by kernel_rfl
theorem cells3 : Tryd.prog.cellsOf 3 = 1 := by kernel_rfl
theorem cells9 : Tryd.prog.cellsOf 9 = 1 := by kernel_rfl
theorem len2 {α : Type} {l : List α} (h : l.length = 2) : ∃ a b, l = [a, b] := by
  match l, h with
  | [a, b], _ => exact ⟨a, b, rfl⟩
theorem len5 {α : Type} {l : List α} (h : l.length = 5) : ∃ a b c d e, l = [a, b, c, d, e] := by
  match l, h with
  | [a, b, c, d, e], _ => exact ⟨a, b, c, d, e, rfl⟩
theorem len7 {α : Type} {l : List α} (h : l.length = 7) : ∃ a b c d e f g, l = [a, b, c, d, e, f, g] := by
  match l, h with
  | [a, b, c, d, e, f, g], _ => exact ⟨a, b, c, d, e, f, g, rfl⟩
theorem int_cell {fuel : Nat} {cs : List Value} {z : Int} {p : List MemPlace} (h : DataW.trod enc Tryd.prog w base sp held fuel 3 cs = some (.lit (.int .i64 z), p)) : cs = [.int .i64 z] := by
  obtain ⟨n, hc, hx, _⟩ := DataW.trod_int Tryd.underlying3 h
  simp at hx
  obtain ⟨rfl, _⟩ := hx
  exact hc
theorem str_cell {fuel : Nat} {cs : List Value} {s : List UInt8} {p : List MemPlace} (h : DataW.trod enc Tryd.prog w base sp held fuel 9 cs = some (.lit (.string s), p)) : cs = [strV s] := by
  obtain ⟨b, hc, hx, _⟩ := DataW.trod_string Tryd.underlying9 h
  simp at hx
  obtain ⟨rfl, _⟩ := hx
  rw [hc]
theorem pair_cells {fuel : Nat} {cs : List Value} {a b : Int} {p : List MemPlace} (h : DataW.trod enc Tryd.prog w base sp held fuel 83 cs = some (.agg [.lit (.int .i64 a), .lit (.int .i64 b)], p)) : cs = [.int .i64 a, .int .i64 b] := by
  obtain ⟨xs, n, _, hx, hl, hxl, hf⟩ := DataW.trod_struct Tryd.underlying83 h
  rw [cells83] at hl
  obtain ⟨c0, c1, rfl⟩ := len2 hl
  obtain ⟨y0, y1, rfl⟩ := len2 hxl
  have f0 : DataW.trod enc Tryd.prog w base sp held n 3 ([c0, c1].take (Tryd.prog.cellsOf 3)) = some y0 := hf 0 _ rfl
  have f1 : DataW.trod enc Tryd.prog w base sp held n 3 ([c1].take (Tryd.prog.cellsOf 3)) = some y1 := hf 1 _ rfl
  rw [cells3] at f0 f1
  obtain ⟨d0, p0⟩ := y0
  obtain ⟨d1, p1⟩ := y1
  simp at hx
  obtain ⟨⟨rfl, rfl⟩, _⟩ := hx
  have g0 := int_cell f0
  have g1 := int_cell f1
  simp at g0 g1
  rw [g0, g1]
theorem row_cells {fuel : Nat} {cs : List Value} {r : OpRow} {p : List MemPlace} (h : DataW.trod enc Tryd.prog w base sp held fuel 85 cs = some (rowData r, p)) : cs = rowCells r := by
  obtain ⟨xs, n, _, hx, hl, hxl, hf⟩ := DataW.trod_struct Tryd.underlying85 h
  rw [cells85] at hl
  obtain ⟨c0, c1, c2, c3, c4, c5, c6, rfl⟩ := len7 hl
  obtain ⟨y0, y1, y2, y3, y4, rfl⟩ := len5 hxl
  have f0 : DataW.trod enc Tryd.prog w base sp held n 9 ([c0, c1, c2, c3, c4, c5, c6].take (Tryd.prog.cellsOf 9)) = some y0 := hf 0 _ rfl
  have f1 : DataW.trod enc Tryd.prog w base sp held n 83 ([c1, c2, c3, c4, c5, c6].take (Tryd.prog.cellsOf 83)) = some y1 := hf 1 _ rfl
  have f2 : DataW.trod enc Tryd.prog w base sp held n 83 ([c3, c4, c5, c6].take (Tryd.prog.cellsOf 83)) = some y2 := hf 2 _ rfl
  have f3 : DataW.trod enc Tryd.prog w base sp held n 3 ([c5, c6].take (Tryd.prog.cellsOf 3)) = some y3 := hf 3 _ rfl
  have f4 : DataW.trod enc Tryd.prog w base sp held n 3 ([c6].take (Tryd.prog.cellsOf 3)) = some y4 := hf 4 _ rfl
  rw [cells3] at f3 f4
  rw [cells9] at f0
  rw [cells83] at f1 f2
  obtain ⟨d0, p0⟩ := y0
  obtain ⟨d1, p1⟩ := y1
  obtain ⟨d2, p2⟩ := y2
  obtain ⟨d3, p3⟩ := y3
  obtain ⟨d4, p4⟩ := y4
  unfold rowData at hx
  simp at hx
  obtain ⟨⟨rfl, rfl, rfl, rfl, rfl⟩, _⟩ := hx
  have g0 := str_cell f0
  have g1 := pair_cells f1
  have g2 := pair_cells f2
  have g3 := int_cell f3
  have g4 := int_cell f4
  simp at g0 g1 g2 g3 g4
  unfold rowCells
  rw [g0, g1.1, g1.2, g2.1, g2.2, g3, g4]
theorem rows_flat : ∀ (l : List OpRow) (cs : List Value), cs.length = l.length * 7 → (∀ i r, l[i]? = some r → (cs.drop (i * 7)).take 7 = rowCells r) → cs = l.flatMap rowCells := by
  intro l
  induction l with
  | nil =>
    intro cs hl _
    simp at hl
    rw [hl]
    rfl
  | cons r l ih =>
    intro cs hl h
    have h0 := h 0 r rfl
    simp at h0
    rw [List.flatMap_cons, ← h0, ← ih (cs.drop 7) (by simp at hl ⊢; omega) (fun i r' hr => by
      have := h (i + 1) r' (by simpa using hr)
      rw [List.drop_drop, show 7 + i * 7 = (i + 1) * 7 from by omega]
      exact this)]
    exact (List.take_append_drop 7 cs).symm
theorem cells_of_rows {fuel : Nat} {cs : List Value} {p : List MemPlace} (h : DataW.trod enc Tryd.prog w base sp held fuel 86 cs = some (.agg (opTab.map rowData), p)) : cs = opCells := by
  obtain ⟨xs, m, _, hx, hl, hxl, hg⟩ := DataW.trod_array Tryd.underlying86 h
  rw [cells86] at hl
  rw [cells85] at hg
  have hxs : xs.map (·.1) = opTab.map rowData := by
    have := congrArg Prod.fst hx
    simpa using this.symm
  refine rows_flat opTab cs (hl.trans rfl) (fun i r hr => ?_)
  have hi : i < 38 := (List.getElem?_eq_some_iff.1 hr).1
  have hy := hg i hi
  obtain ⟨y, hyy⟩ : ∃ y, xs[i]? = some y := ⟨xs[i]'(by omega), List.getElem?_eq_getElem (by omega)⟩
  have h2 : (xs.map (·.1))[i]? = some y.1 := by simp [hyy]
  rw [hxs, List.getElem?_map, hr] at h2
  simp at h2
  rw [hyy] at hy
  obtain ⟨d, q⟩ := y
  simp at h2
  subst h2
  exact row_cells hy
end

theorem gRows : Tryd.prog.globalNamed "stockpot/op.rows" = some 0 := by kernel_rfl
theorem gRowsType : (Tryd.prog.globals[0]?).map (·.type) = some 86 := by kernel_rfl
theorem opTab_of_laid {W : World} {rest : List (String × DataW Unit)} (h : laidMet Tryd.prog (("stockpot/op.rows", Rows.laid_stockpot_op_rows) :: rest) W) : OpTab W := by
  obtain ⟨ps, ⟨g', t', cs, fuel, p, q, hg', ht', hvar, hd, _, rfl⟩, _, hps⟩ := h
  obtain rfl := Option.some.inj (gRows.symm.trans hg')
  obtain rfl := Option.some.inj (gRowsType.symm.trans ht')
  have hc := cells_of_rows hd
  have hc' : cs = opCells.toArray := by rw [← hc]
  subst hc'
  unfold World.var? at hvar
  rw [gRows] at hvar
  simp only [Option.bind_some] at hvar
  split at hvar
  · rename_i cs' t' fr hh
    simp at hvar
    subst hvar
    obtain ⟨⟨c, t2, h2⟩, _⟩ := hps 0 0 (by
      simp [MemPlace.row]
      left
      rw [opCells_len]
      decide)
    rw [hh] at h2
    simp at h2
    obtain ⟨_, rfl, rfl⟩ := h2
    exact ⟨(Array.getElem?_eq_some_iff.1 hh).1, _, hh⟩
  · cases hvar

/-! ### The plain functions -/
/-- May an instruction be? -/
def gGood (o a b : Int) : Bool :=
  if o < 0 ∨ 38 ≤ o then false
  else if o = 36 ∧ a ≠ 3 ∧ b ≠ 0 then false
  else decide ((opRow o.toNat).a0 ≤ a ∧ a ≤ (opRow o.toNat).a1 ∧ (opRow o.toNat).b0 ≤ b ∧ b ≤ (opRow o.toNat).b1)
def gTakes (o a b : Int) : Int := if o = 6 ∨ o = 19 then b else if o = 36 then (if a = 2 then 2 else if a = 3 then 0 else 1) else (opRow o.toNat).tk
def gLeaves (o : Int) : Int := (opRow o.toNat).lv
def gEnds (o : Int) : Bool := decide (o = 8 ∨ o = 9 ∨ o = 10 ∨ o = 35)
def gName (o : Int) : List UInt8 := if o < 0 ∨ 38 ≤ o then [] else (opRow o.toNat).nm
def gOf (name : List UInt8) : Option Nat := opTab.findIdx? fun r => r.nm == name
end Go.Proofs.YtiphicejaljhiaaDoor
