/- An argument of bools, opened. -/
import Derived.Test.YtphojigdapaaiaaDoorZBq
namespace Go.Proofs.YtphojigdapaaiaaDoor
open Go.ChangeShapes Go.WideShapes Go.ChangeAt Go.RowKit Go.Deep
set_option linter.unusedVariables false
set_option maxRecDepth 100000 in
theorem open_bools {H : Type} {enc : TypeId × Value → H} {w : World} {r : Reach} {b0 : Nat} {v : Value} {d : DataW H} {p : List MemPlace} (hval : Value.okWide Tryd.prog w r b0 39 v) (h : DataW.Trod enc Tryd.prog w 0 (fun _ => true) true 39 v d p) :
    ∃ (l : List Bool) (A : Option Addr) (c : Nat), v = .slice A l.length c ∧ Reads w w.heap.size 1 A l.length (l.map Value.bool) ∧ l.length ≤ maxLen := by
  obtain ⟨a1, len, cap, rfl⟩ := okWide_slice Tryd.underlying39 hval
  obtain ⟨fuel, hf⟩ := h
  rcases open_slice1 Tryd.underlying39 (by kernel_rfl) hf with ⟨hv, _⟩ | ⟨a, len', cap', m, k, V, D, Pl, hv, hb, hl, hm, hmm, _, hx⟩
  · simp [Value.cells] at hv
    obtain ⟨rfl, rfl, rfl⟩ := hv
    exact ⟨[], none, 0, rfl, Reads.none_, Nat.zero_le _⟩
  · simp [Value.cells] at hv
    obtain ⟨rfl, rfl, rfl⟩ := hv
    simp at hmm
    obtain ⟨L, hL, hP⟩ := exists_list (P := fun i (z : Bool) => w.cell? (a.add i) = some (.bool z)) len (fun i hi => by
      obtain ⟨h1, h2⟩ := hx i (by omega)
      obtain ⟨z, hz, _⟩ := DataW.trod_bool Tryd.underlying4 h2
      injection hz with hz _
      exact ⟨z, by rw [h1, hz]⟩)
    refine ⟨L, some a, cap, by rw [hL], ?_, by omega⟩
    have := reads_of_cells (f := fun z : Bool => [Value.bool z]) (m := 1) (fun _ => rfl) (by decide) (w := w) (a := a) rfl (L := L) (fun i z hz j v hv => by
      match j, hv with
      | 0, hv => rw [← Option.some.inj hv, Nat.mul_one, Nat.add_zero]; exact hP i z hz)
    rw [flat_single] at this
    exact this
end Go.Proofs.YtphojigdapaaiaaDoor
