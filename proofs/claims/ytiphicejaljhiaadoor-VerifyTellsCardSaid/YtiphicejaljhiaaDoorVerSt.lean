/- What a checker holds while it follows a function: the states so far, what is still to be followed; rows of its own. -/
import Derived.Test.YtiphicejaljhiaaDoorQue
import Derived.Test.YtiphicejaljhiaaDoorVer
namespace Go.Proofs.YtiphicejaljhiaaDoor
open Go.ChangeShapes Go.WideShapes Go.ChangeAt Go.RowKit
theorem QOwn.next {w w' : World} {base : Nat} {e : TypeId} {size n : Nat} {v : Value} {xs : List Value} (h : QOwn w base e size v n xs) (hb : Below w.heap.size w w') : QOwn w' base e size v n xs :=
  h.kept (row := none) (grown_of_below hb none) (by cases hv : v.ownBlock <;> simp)
theorem QOwn.set_ {w : World} {base g i : Nat} {e t : TypeId} {size n : Nat} {v u : Value} {xs : List Value} {cs : Array Value} (h : QOwn w base e size v n xs) (hb : Blk w g t cs) (hne : e ≠ t) : QOwn (w.setCell ⟨g, i, none⟩ u) base e size v n xs :=
  h.kept (grown_set w g i u) (.inr (h.blk_ne hb hne))
theorem QOwn.blk {w w' : World} {base g : Nat} {e t : TypeId} {size n : Nat} {v : Value} {xs : List Value} {cs : Array Value} (h' : QOwn w base e size v n xs) (h : Blk w g t cs) (hg : w.grownBy w' v.ownBlock) (hne : e ≠ t) : Blk w' g t cs := h.grown hg (fun e => h'.blk_ne h hne e.symm)
/-- What a checker's queue reads as. -/
def D7 (g : Nat) (W : World) : Value := (W.cell? ⟨g, 7, none⟩).getD undef
theorem d7_of {g : Nat} {W : World} {v : Value} (h : W.cell? ⟨g, 7, none⟩ = some v) : W.cell? ⟨g, 7, none⟩ = some (D7 g W) ∧ D7 g W = v := by
  unfold D7
  rw [h]
  exact ⟨rfl, rfl⟩
structure VerSt (w W : World) (g : Nat) (q : PrMem) (x : Fnv) (lv dv : Value) (L : List Sta) (D : List Nxt) : Prop where
  low : Below g w W
  chk : Blk W g 121 (chkCells q x lv dv)
  hl : W.ownsRow (g + 1) 122 2 lv L.length (L.flatMap stCells)
  hd : QOwn W (g + 1) 128 3 dv D.length (D.flatMap nxCells)
section
variable {w W W' W1 : World} {g : Nat} {q : PrMem} {x : Fnv} {lv dv : Value} {L : List Sta} {D : List Nxt}
theorem VerSt.next (h : VerSt w W g q x lv dv L D) (hb : Below W.heap.size W W') : VerSt w W' g q x lv dv L D :=
  ⟨h.low.trans (hb.mono (Nat.le_of_lt h.chk.lt)), h.chk.next hb, own_next h.hl hb, h.hd.next hb⟩
theorem VerSt.alloc (h : VerSt w W g q x lv dv L D) (o : Obj) : VerSt w (W.alloc o) g q x lv dv L D := h.next (below_new W o)
theorem VerSt.drew (h : VerSt w W g q x lv dv L D) : VerSt w W.drew g q x lv dv L D := ⟨h.low.drew, h.chk, h.hl, h.hd⟩
theorem VerSt.c5 (h : VerSt w W g q x lv dv L D) : W.cell? ⟨g, 5, none⟩ = some (.slice x.ad x.fn.code.length x.cap) := h.chk.cell 5
theorem VerSt.c6 (h : VerSt w W g q x lv dv L D) : W.cell? ⟨g, 6, none⟩ = some lv := h.chk.cell 6
theorem VerSt.c7 (h : VerSt w W g q x lv dv L D) : W.cell? ⟨g, 7, none⟩ = some dv := h.chk.cell 7
theorem VerSt.f7 (h : VerSt w W g q x lv dv L D) : W.frozen? ⟨g, 7, none⟩ = false := h.chk.frozen 7
/-- What was stored at the end of the queue. -/
theorem VerSt.push (h : VerSt w W g q x lv dv L D) {y : Nxt} {dv' : Value} {xs : List Value} (hg : W.grownBy W1 dv.ownBlock) (ho : QOwn W1 (g + 1) 128 3 dv' (D.length + 1) (D.flatMap nxCells ++ xs)) (hx : xs = nxCells y) :
    VerSt w (W1.setCell ⟨g, 7, none⟩ dv') g q x lv dv' L (D ++ [y]) := by
  subst hx
  have C1 := h.hd.blk h.chk hg (by decide)
  have hrow : ∀ k, dv.ownBlock = some k → g + 1 ≤ k := fun k e => (h.hd.lt k e).1
  refine ⟨(h.low.grown hg (Nat.le_of_lt h.chk.lt) (fun k e => by have := hrow k e; omega)).setCell (p := ⟨g, 7, none⟩) (by simp) _, C1.set_ 7 dv', ?_, ?_⟩
  · exact own_set (h.hl.kept hg (h.hd.own_ne h.hl (by decide))) C1 (by decide)
  · simp only [List.length_append, List.length_cons, List.length_nil, List.flatMap_append, List.flatMap_cons, List.flatMap_nil, List.append_nil]
    exact ho.set_ C1 (by decide)
/-- A store into a block of its own that is no row. -/
theorem VerSt.setFar (h : VerSt w W g q x lv dv L D) {b i : Nat} {u : Value} (hb : g < b) (hl : lv.ownBlock ≠ some b) (hd : dv.ownBlock ≠ some b) : VerSt w (W.setCell ⟨b, i, none⟩ u) g q x lv dv L D :=
  ⟨h.low.setCell (p := ⟨b, i, none⟩) (Nat.le_of_lt hb) _, h.chk.far (by simp; omega) u, h.hl.kept (grown_set W b i u) (.inr hl), h.hd.kept (grown_set W b i u) (.inr hd)⟩
/-- A block that is no row stays behind what was put into the queue. -/
theorem VerSt.pushBlk (h : VerSt w W g q x lv dv L D) {b : Nat} {t : TypeId} {cs : Array Value} {dv' : Value} (hk : Blk W b t cs) (ht : (128 : TypeId) ≠ t) (ht' : t ≠ 121) (hg : W.grownBy W1 dv.ownBlock) : Blk (W1.setCell ⟨g, 7, none⟩ dv') b t cs :=
  (h.hd.blk hk hg ht).far (fun e => by
    have e' : b = g := e
    subst e'
    exact hk.ne_ h.chk ht' rfl) dv'
end
end Go.Proofs.YtiphicejaljhiaaDoor
