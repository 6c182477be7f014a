/- The tables of code: how many bytes an instruction's A has, which instructions have a B; and that the package's variables hold them. -/
import Derived.Test.YtiphicejaljhiaaDoorPlain
namespace Go.Proofs.YtiphicejaljhiaaDoor
open Go.ChangeShapes Go.WideShapes Go.ChangeAt Go.RowKit
def widL : List Int := [8, 2, 2, 2, 2, 0, 2, 0, 0, 0, 2, 2, 0, 0, 0, 0, 0, 0, 0, 2, 2, 8, 2, 0, 0, 0, 0, 0, 0, 0, 0, 0, 0, 2, 0, 0, 2, 0]
def secL : List Bool := [false, false, false, false, false, false, true, false, false, false, false, false, false, false, false, false, false, false, false, true, false, false, false, false, false, false, false, false, false, false, false, false, false, false, false, false, true, false]
theorem widL_at (k : Nat) (h : k < 38) : (widL.map (Value.int .i64))[k]? = some (.int .i64 (wid (k : Int))) := by
  have T : ∀ k : Nat, k < 38 → widL[k]? = some (wid (k : Int) : Int) := by decide +kernel
  rw [List.getElem?_map, T k h]
  rfl
theorem secL_at (k : Nat) (h : k < 38) : (secL.map Value.bool)[k]? = some (.bool (sec (k : Int))) := by
  have T : ∀ k : Nat, k < 38 → secL[k]? = some (sec (k : Int)) := by decide +kernel
  rw [List.getElem?_map, T k h]
  rfl
/-- A table lies at a block. -/
def TabAt (w : World) (b : Nat) (cs : List Value) : Prop := b < w.heap.size ∧ ∃ t, w.heap[b]? = some (.cells cs.toArray t (0, 0))
theorem TabAt.below {B b : Nat} {cs : List Value} {w w' : World} (h : TabAt w b cs) (hb : Below B w w') (hB : b < B) : TabAt w' b cs := by
  obtain ⟨h0, t, h1⟩ := h
  exact ⟨Nat.lt_of_lt_of_le h0 hb.size, t, (hb.block b hB).trans h1⟩
theorem TabAt.cell {b : Nat} {cs : List Value} {w : World} (h : TabAt w b cs) (i : Nat) : w.cell? ⟨b, i, none⟩ = cs[i]? := by
  obtain ⟨_, t, h1⟩ := h
  rw [cell_of_row w b i _ t (0, 0) h1]
  simp
/-- All three tables. -/
structure CodeTab (w : World) : Prop where
  op : OpTab w
  wd : TabAt w 1 (widL.map (Value.int .i64))
  sc : TabAt w 2 (secL.map Value.bool)
theorem CodeTab.lt {w : World} (h : CodeTab w) : 2 < w.heap.size := h.sc.1
theorem CodeTab.below {B : Nat} {w w' : World} (h : CodeTab w) (hb : Below B w w') (hB : 2 < B) : CodeTab w' :=
  ⟨h.op.below hb (by omega), h.wd.below hb (by omega), h.sc.below hb hB⟩
theorem CodeTab.next {w w' : World} (h : CodeTab w) (hb : Below w.heap.size w w') : CodeTab w' := h.below hb h.lt
theorem CodeTab.wide {w : World} (h : CodeTab w) (k : Nat) (hk : k < 38) : w.cell? ⟨1, k, none⟩ = some (.int .i64 (wid (k : Int))) := (h.wd.cell k).trans (widL_at k hk)
theorem CodeTab.second {w : World} (h : CodeTab w) (k : Nat) (hk : k < 38) : w.cell? ⟨2, k, none⟩ = some (.bool (sec (k : Int))) := (h.sc.cell k).trans (secL_at k hk)

/-! ### From the row's condition to the cells -/
section
variable {H : Type} {enc : TypeId × Value → H} {w : World} {base : Nat} {sp : Nat → Bool} {held : Bool}
theorem cells124 : Tryd.prog.cellsOf 124 = 38 := by kernel_rfl
theorem cells125 : Tryd.prog.cellsOf 125 = 38 := by kernel_rfl
theorem cells4 : Tryd.prog.cellsOf 4 = 1 := by kernel_rfl
theorem bool_cell {fuel : Nat} {cs : List Value} {z : Bool} {p : List MemPlace} (h : DataW.trod enc Tryd.prog w base sp held fuel 4 cs = some (.lit (.bool z), p)) : cs = [.bool z] := by
  obtain ⟨n, hc, hx⟩ := DataW.trod_bool Tryd.underlying4 h
  simp at hx
  obtain ⟨rfl, _⟩ := hx
  exact hc
theorem ones_eq {α : Type} (f : α → Value) : ∀ (l : List α) (cs : List Value), cs.length = l.length → (∀ i r, l[i]? = some r → (cs.drop (i * 1)).take 1 = [f r]) → cs = l.map f := by
  intro l
  induction l with
  | nil => intro cs hl _; exact List.eq_nil_of_length_eq_zero hl
  | cons r l ih =>
    intro cs hl h
    cases cs with
    | nil => cases hl
    | cons c cs =>
      have h0 := h 0 r rfl
      simp at h0
      rw [h0, List.map_cons, ih cs (by simpa using hl) (fun i r' hr => by
        have := h (i + 1) r' (by simpa using hr)
        simpa using this)]
theorem wid_cells {fuel : Nat} {cs : List Value} {p : List MemPlace} (h : DataW.trod enc Tryd.prog w base sp held fuel 124 cs = some (.agg (widL.map fun z => .lit (.int .i64 z)), p)) : cs = widL.map (Value.int .i64) := by
  obtain ⟨xs, m, _, hx, hl, hxl, hg⟩ := DataW.trod_array Tryd.underlying124 h
  rw [cells124] at hl
  rw [cells3] at hg
  have hxs : xs.map (·.1) = widL.map fun z => .lit (.int .i64 z) := by
    have := congrArg Prod.fst hx
    simpa using this.symm
  refine ones_eq _ widL cs (hl.trans rfl) (fun i r hr => ?_)
  have hi : i < 38 := (List.getElem?_eq_some_iff.1 hr).1
  have hy := hg i hi
  obtain ⟨y, hyy⟩ : ∃ y, xs[i]? = some y := ⟨xs[i]'(by omega), List.getElem?_eq_getElem (by omega)⟩
  have h2 : (xs.map (·.1))[i]? = some y.1 := by simp [hyy]
  rw [hxs, List.getElem?_map, hr] at h2
  simp at h2
  rw [hyy] at hy
  obtain ⟨d, q⟩ := y
  simp at h2
  subst h2
  exact int_cell hy
theorem sec_cells {fuel : Nat} {cs : List Value} {p : List MemPlace} (h : DataW.trod enc Tryd.prog w base sp held fuel 125 cs = some (.agg (secL.map fun z => .lit (.bool z)), p)) : cs = secL.map Value.bool := by
  obtain ⟨xs, m, _, hx, hl, hxl, hg⟩ := DataW.trod_array Tryd.underlying125 h
  rw [cells125] at hl
  rw [cells4] at hg
  have hxs : xs.map (·.1) = secL.map fun z => .lit (.bool z) := by
    have := congrArg Prod.fst hx
    simpa using this.symm
  refine ones_eq _ secL cs (hl.trans rfl) (fun i r hr => ?_)
  have hi : i < 38 := (List.getElem?_eq_some_iff.1 hr).1
  have hy := hg i hi
  obtain ⟨y, hyy⟩ : ∃ y, xs[i]? = some y := ⟨xs[i]'(by omega), List.getElem?_eq_getElem (by omega)⟩
  have h2 : (xs.map (·.1))[i]? = some y.1 := by simp [hyy]
  rw [hxs, List.getElem?_map, hr] at h2
  simp at h2
  rw [hyy] at hy
  obtain ⟨d, q⟩ := y
  simp at h2
  subst h2
  exact bool_cell hy
end
theorem laid_wid {H : Type} : (Rows.laid_stockpot_code_widths : DataW H) = .agg (widL.map fun z => .lit (.int .i64 z)) := rfl
theorem laid_sec {H : Type} : (Rows.laid_stockpot_code_second : DataW H) = .agg (secL.map fun z => .lit (.bool z)) := rfl
theorem laid_tail {W : World} {x : String × DataW Unit} {rest : List (String × DataW Unit)} (h : laidMet Tryd.prog (x :: rest) W) : laidMet Tryd.prog rest W := by
  obtain ⟨ps, ⟨g', t', cs, fuel, p, q, hg', ht', hvar, hd, hr, rfl⟩, hn, hps⟩ := h
  exact ⟨q, hr, (List.nodup_append.1 hn).2.1, fun b off hm => hps b off (List.mem_append_right _ hm)⟩
theorem gWid : Tryd.prog.globalNamed "stockpot/code.widths" = some 1 := by kernel_rfl
theorem gWidType : (Tryd.prog.globals[1]?).map (·.type) = some 124 := by kernel_rfl
theorem gSec : Tryd.prog.globalNamed "stockpot/code.second" = some 2 := by kernel_rfl
theorem gSecType : (Tryd.prog.globals[2]?).map (·.type) = some 125 := by kernel_rfl
theorem widTab_of_laid {W : World} {rest : List (String × DataW Unit)} (h : laidMet Tryd.prog (("stockpot/code.widths", Rows.laid_stockpot_code_widths) :: rest) W) : TabAt W 1 (widL.map (Value.int .i64)) := by
  obtain ⟨ps, ⟨g', t', cs, fuel, p, q, hg', ht', hvar, hd, _, rfl⟩, _, hps⟩ := h
  obtain rfl := Option.some.inj (gWid.symm.trans hg')
  obtain rfl := Option.some.inj (gWidType.symm.trans ht')
  have hc := wid_cells hd
  have hc' : cs = (widL.map (Value.int .i64)).toArray := by rw [← hc]
  subst hc'
  unfold World.var? at hvar
  rw [gWid] at hvar
  simp only [Option.bind_some] at hvar
  split at hvar
  · rename_i cs' t' fr hh
    simp at hvar
    subst hvar
    obtain ⟨⟨c, t2, h2⟩, _⟩ := hps 1 0 (by
      simp [MemPlace.row]
      left
      decide)
    rw [hh] at h2
    simp at h2
    obtain ⟨_, rfl, rfl⟩ := h2
    refine ⟨(Array.getElem?_eq_some_iff.1 hh).1, _, hh⟩
  · cases hvar
theorem secTab_of_laid {W : World} {rest : List (String × DataW Unit)} (h : laidMet Tryd.prog (("stockpot/code.second", Rows.laid_stockpot_code_second) :: rest) W) : TabAt W 2 (secL.map Value.bool) := by
  obtain ⟨ps, ⟨g', t', cs, fuel, p, q, hg', ht', hvar, hd, _, rfl⟩, _, hps⟩ := h
  obtain rfl := Option.some.inj (gSec.symm.trans hg')
  obtain rfl := Option.some.inj (gSecType.symm.trans ht')
  have hc := sec_cells hd
  have hc' : cs = (secL.map Value.bool).toArray := by rw [← hc]
  subst hc'
  unfold World.var? at hvar
  rw [gSec] at hvar
  simp only [Option.bind_some] at hvar
  split at hvar
  · rename_i cs' t' fr hh
    simp at hvar
    subst hvar
    obtain ⟨⟨c, t2, h2⟩, _⟩ := hps 2 0 (by
      simp [MemPlace.row]
      left
      decide)
    rw [hh] at h2
    simp at h2
    obtain ⟨_, rfl, rfl⟩ := h2
    refine ⟨(Array.getElem?_eq_some_iff.1 hh).1, _, hh⟩
  · cases hvar
theorem codeTab_of_laid {W : World} {rest : List (String × DataW Unit)} (h : laidMet Tryd.prog (("stockpot/op.rows", Rows.laid_stockpot_op_rows) :: ("stockpot/code.widths", Rows.laid_stockpot_code_widths) :: ("stockpot/code.second", Rows.laid_stockpot_code_second) :: rest) W) : CodeTab W :=
  ⟨opTab_of_laid h, widTab_of_laid (laid_tail h), secTab_of_laid (laid_tail (laid_tail h))⟩
end Go.Proofs.YtiphicejaljhiaaDoor
