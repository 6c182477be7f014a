/- An argument of bytes, opened, with its capacity. -/
import Derived.Test.YtiphicejaljhiaaDoorOpen
import Derived.Test.YtiphicejaljhiaaDoorWr
namespace Go.Proofs.YtiphicejaljhiaaDoor
open Go.ChangeShapes Go.WideShapes Go.ChangeAt Go.RowKit Go.Deep
set_option maxRecDepth 100000 in
theorem open_byC {H : Type} {enc : TypeId × Value → H} {w : World} {r : Reach} {b0 : Nat} {v : Value} {d : DataW H} {p : List MemPlace} (hval : Value.okWide Tryd.prog w r b0 43 v) (h : DataW.Trod enc Tryd.prog w 0 (fun _ => true) true 43 v d p) :
    ∃ (A : Option Addr) (l : List UInt8) (c : Nat), v = .slice A l.length c ∧ Reads w w.heap.size 1 A l.length (cellsB l) ∧ l.length ≤ c ∧ c ≤ maxLen := by
  obtain ⟨a1, len, cap, rfl⟩ := okWide_slice Tryd.underlying43 hval
  obtain ⟨fuel, hf⟩ := h
  rcases open_slice1 Tryd.underlying43 (by kernel_rfl) hf with ⟨hv, _⟩ | ⟨a, len', cap', m, k, V, D, Pl, hv, hb, hl, hm, hmm, _, hx⟩
  · simp [Value.cells] at hv
    obtain ⟨rfl, rfl, rfl⟩ := hv
    exact ⟨none, [], 0, rfl, Reads.none_, Nat.le_refl _, Nat.zero_le _⟩
  · simp [Value.cells] at hv
    obtain ⟨rfl, rfl, rfl⟩ := hv
    simp at hmm
    obtain ⟨L, hL, hP⟩ := exists_list (P := fun i (z : UInt8) => w.cell? (a.add i) = some (byV z)) len (fun i hi => by
      obtain ⟨h1, h2⟩ := hx i (by omega)
      obtain ⟨z, hz, _, hw⟩ := DataW.trod_int Tryd.underlying5 h2
      injection hz with hz _
      have hb := bounds_u8 hw
      refine ⟨UInt8.ofNat z.toNat, ?_⟩
      rw [h1, hz]
      have e : ((UInt8.ofNat z.toNat).toNat : Int) = z := by rw [UInt8.toNat_ofNat']; omega
      show _ = some (Value.int .u8 ((UInt8.ofNat z.toNat).toNat : Int))
      rw [e])
    refine ⟨some a, L, cap, by rw [hL], ?_, by omega, by omega⟩
    have := reads_of_cells (f := fun z : UInt8 => [byV z]) (m := 1) (fun _ => rfl) (by decide) (w := w) (a := a) rfl (L := L) (fun i z hz j v hv => by
      match j, hv with
      | 0, hv => rw [← Option.some.inj hv, Nat.mul_one, Nat.add_zero]; exact hP i z hz)
    rw [flat_single] at this
    exact this
end Go.Proofs.YtiphicejaljhiaaDoor
