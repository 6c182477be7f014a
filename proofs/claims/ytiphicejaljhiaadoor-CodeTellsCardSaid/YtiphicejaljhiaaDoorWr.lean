/- Bytes in memory; the writer, and what its calls leave as it was. -/
import Derived.Test.YtiphicejaljhiaaDoorLite
namespace Go.Proofs.YtiphicejaljhiaaDoor
open Go.ChangeShapes Go.WideShapes Go.ChangeAt Go.RowKit
abbrev byV (b : UInt8) : Value := .int .u8 (b.toNat : Int)
def cellsB (l : List UInt8) : List Value := l.map byV
theorem cellsB_len (l : List UInt8) : (cellsB l).length = l.length := List.length_map ..
theorem cellsB_append (l r : List UInt8) : cellsB (l ++ r) = cellsB l ++ cellsB r := List.map_append ..
/-- A writer at block g, its bytes in a row of its own. -/
def WrAt (w : World) (base g : Nat) (bs : List UInt8) : Prop := base ≤ w.heap.size ∧ base ≤ g ∧ ∃ v, Blk w g 94 #[v] ∧ w.ownsRow base 5 1 v bs.length (cellsB bs)
/-- Blocks of other types than a writer's and its bytes' stay. -/
def KeptW (w w' : World) : Prop := ∀ k t cs, t ≠ 94 → t ≠ 5 → Blk w k t cs → Blk w' k t cs
theorem KeptW.refl (w : World) : KeptW w w := fun _ _ _ _ _ h => h
theorem KeptW.trans {a b c : World} (h : KeptW a b) (h' : KeptW b c) : KeptW a c := fun k t cs h1 h2 h3 => h' k t cs h1 h2 (h k t cs h1 h2 h3)
theorem KeptW.alloc (w : World) (o : Obj) : KeptW w (w.alloc o) := fun _ _ _ _ _ h => h.alloc o
theorem KeptW.drewN (w : World) (n : Nat) : KeptW w (w.drewN n) := fun _ _ _ _ _ h => h
theorem WrAt.alloc {w : World} {base g : Nat} {bs : List UInt8} (h : WrAt w base g bs) (o : Obj) : WrAt (w.alloc o) base g bs := by
  obtain ⟨h1, h2, v, h3, h4⟩ := h
  exact ⟨by rw [World.size_alloc]; omega, h2, v, h3.alloc o, h4.alloc o⟩
theorem WrAt.drewN {w : World} {base g : Nat} {bs : List UInt8} (h : WrAt w base g bs) (n : Nat) : WrAt (w.drewN n) base g bs := h
/-- What one append, then the store into the writer, leaves. -/
theorem WrAt.wrote {w w1 w2 : World} {base g : Nat} {v v' : Value} {n : Nat} {xs : List Value} (h1 : base ≤ w.heap.size) (h2 : base ≤ g) (h3 : Blk w g 94 #[v]) (h4 : w.ownsRow base 5 1 v n xs)
    {m : Nat} {ys : List UInt8} (hg : w.grownBy w1 v.ownBlock) (ho : w1.ownsRow base 5 1 v' m (cellsB ys)) (hm : m = ys.length) (e : w2 = w1.setCell ⟨g, 0, none⟩ v') :
    WrAt w2 base g ys ∧ Below base w w2 ∧ KeptW w w2 := by
  subst e hm
  have hne : v.ownBlock ≠ some g := own_blk_ne h4 h3 (by decide)
  have hg3 : Blk w1 g 94 #[v] := h3.grown hg (fun e => hne e.symm)
  have hne' : v'.ownBlock ≠ some g := own_blk_ne ho hg3 (by decide)
  have hlt := h3.lt
  refine ⟨⟨?_, h2, v', ?_, ?_⟩, ?_, ?_⟩
  · have := hg.size; rw [World.size_setCell]; omega
  · exact hg3.set_ 0 v'
  · exact ho.kept (grown_set w1 g 0 v') (.inr hne')
  · refine ((Below.refl base w).grown hg h1 fun k hk => ?_).setCell h2 v'
    exact (h4.lt k hk).1
  · intro k t cs ht1 ht2 hk
    have hk1 : Blk w1 k t cs := hk.grown hg (fun e => own_blk_ne h4 hk (fun e => ht2 e.symm) e.symm)
    exact hk1.far (by intro e; exact Blk.ne_ hk1 hg3 ht1 e) v'
end Go.Proofs.YtiphicejaljhiaaDoor
