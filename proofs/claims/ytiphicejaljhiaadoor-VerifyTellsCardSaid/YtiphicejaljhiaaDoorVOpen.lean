/- The tables of verify, read off the rows' lists. -/
import Derived.Test.YtiphicejaljhiaaDoorStates
namespace Go.Proofs.YtiphicejaljhiaaDoor
open Go.ChangeShapes Go.WideShapes Go.ChangeAt Go.RowKit
def unkL : List Int := [-1, -1]
theorem laid_unk {H : Type} : (Rows.laid_stockpot_verify_unknown : DataW H) = .agg (unkL.map fun z => .lit (.int .i64 z)) := rfl
theorem cells122 : Tryd.prog.cellsOf 122 = 2 := by kernel_rfl
section
variable {H : Type} {enc : TypeId × Value → H} {w : World} {base : Nat} {sp : Nat → Bool} {held : Bool}
theorem unk_cells {fuel : Nat} {cs : List Value} {p : List MemPlace} (h : DataW.trod enc Tryd.prog w base sp held fuel 122 cs = some (.agg (unkL.map fun z => .lit (.int .i64 z)), p)) : cs = unkL.map (Value.int .i64) := by
  obtain ⟨xs, m, _, hx, hl, hxl, hg⟩ := DataW.trod_array Tryd.underlying122 h
  rw [cells122] at hl
  rw [cells3] at hg
  have hxs : xs.map (·.1) = unkL.map fun z => .lit (.int .i64 z) := by
    have := congrArg Prod.fst hx
    simpa using this.symm
  refine ones_eq _ unkL cs (hl.trans rfl) (fun i r hr => ?_)
  have hi : i < 2 := (List.getElem?_eq_some_iff.1 hr).1
  have hy := hg i hi
  obtain ⟨y, hyy⟩ : ∃ y, xs[i]? = some y := ⟨xs[i]'(by omega), List.getElem?_eq_getElem (by omega)⟩
  have h2 : (xs.map (·.1))[i]? = some y.1 := by simp [hyy]
  rw [hxs, List.getElem?_map, hr] at h2
  simp at h2
  rw [hyy] at hy
  obtain ⟨d, q⟩ := y
  simp at h2
  subst h2
  exact int_cell hy
end
theorem gUnk : Tryd.prog.globalNamed "stockpot/verify.unknown" = some 3 := by kernel_rfl
theorem gUnkType : (Tryd.prog.globals[3]?).map (·.type) = some 122 := by kernel_rfl
theorem unkTab_of_laid {W : World} {rest : List (String × DataW Unit)} (h : laidMet Tryd.prog (("stockpot/verify.unknown", Rows.laid_stockpot_verify_unknown) :: rest) W) : TabAt W 3 [.int .i64 (-1), .int .i64 (-1)] := by
  obtain ⟨ps, ⟨g', t', cs, fuel, p, q, hg', ht', hvar, hd, _, rfl⟩, _, hps⟩ := h
  obtain rfl := Option.some.inj (gUnk.symm.trans hg')
  obtain rfl := Option.some.inj (gUnkType.symm.trans ht')
  have hc := unk_cells hd
  have hc' : cs = (unkL.map (Value.int .i64)).toArray := by rw [← hc]
  subst hc'
  unfold World.var? at hvar
  rw [gUnk] at hvar
  simp only [Option.bind_some] at hvar
  split at hvar
  · rename_i cs' t' fr hh
    simp at hvar
    subst hvar
    obtain ⟨⟨c, t2, h2⟩, _⟩ := hps 3 0 (by
      simp [MemPlace.row]
      left
      decide)
    rw [hh] at h2
    simp at h2
    obtain ⟨_, rfl, rfl⟩ := h2
    exact ⟨(Array.getElem?_eq_some_iff.1 hh).1, _, hh⟩
  · cases hvar
theorem vTab_of_laid {W : World} {rest : List (String × DataW Unit)} (h : laidMet Tryd.prog (("stockpot/op.rows", Rows.laid_stockpot_op_rows) :: ("stockpot/verify.unknown", Rows.laid_stockpot_verify_unknown) :: rest) W) : VTab W :=
  ⟨opTab_of_laid h, unkTab_of_laid (laid_tail h)⟩
end Go.Proofs.YtiphicejaljhiaaDoor
