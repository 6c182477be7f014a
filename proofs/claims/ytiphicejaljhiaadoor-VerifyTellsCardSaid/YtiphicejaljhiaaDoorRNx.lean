/- stockpotref08.States: what comes next lies in two rows of the call's own; how they are read, grown and kept. -/
import Derived.Test.YtiphicejaljhiaaDoorRSt
import Derived.Test.YtiphicejaljhiaaDoorOwn
namespace Go.Proofs.YtiphicejaljhiaaDoor
open Go.ChangeShapes Go.WideShapes Go.ChangeAt Go.RowKit
/-- What comes next, in two rows of the call's own. -/
structure NSt (w : World) (b : Nat) (tv wv : Value) (xs : List Nxt) : Prop where
  rt : w.ownsRow b 3 1 tv xs.length (xs.map fun x => Value.int .i64 x.1)
  rw : w.ownsRow b 79 2 wv xs.length (xs.flatMap fun x => stCells x.2)
section
variable {w w' W : World} {b : Nat} {tv wv u : Value} {xs : List Nxt}
theorem NSt.nil (w : World) (b : Nat) : NSt w b (.slice none 0 0) (.slice none 0 0) [] := ⟨World.ownsRow_nil _ _ _ _, World.ownsRow_nil _ _ _ _⟩
theorem NSt.of_one {y s t : Int} (h1 : w.ownsRow b 3 1 tv (0 + 1) ([] ++ [.int .i64 y])) (h2 : w.ownsRow b 79 2 wv (0 + 1) ([] ++ [.int .i64 s, .int .i64 t])) : NSt w b tv wv [(y, (s, t))] := ⟨h1, h2⟩
theorem NSt.of_snoc {y s t : Int} (h1 : w.ownsRow b 3 1 tv (xs.length + 1) ((xs.map fun x => Value.int .i64 x.1) ++ [.int .i64 y])) (h2 : w.ownsRow b 79 2 wv (xs.length + 1) ((xs.flatMap fun x => stCells x.2) ++ [.int .i64 s, .int .i64 t])) : NSt w b tv wv (xs ++ [(y, (s, t))]) := by
  constructor
  · rw [List.length_append, List.map_append]; exact h1
  · rw [List.length_append, List.flatMap_append]; exact h2
theorem NSt.next (h : NSt w b tv wv xs) (hb : Below w.heap.size w w') : NSt w' b tv wv xs := ⟨own_next h.rt hb, own_next h.rw hb⟩
theorem NSt.setN (h : NSt w b tv wv xs) {r : Nat} (hr : r < b) (i : Nat) (u : Value) : NSt (w.setCell ⟨r, i, none⟩ u) b tv wv xs :=
  ⟨h.rt.kept (grown_set w r i u) (.inr fun e => by have := (h.rt.lt r e).1; omega), h.rw.kept (grown_set w r i u) (.inr fun e => by have := (h.rw.lt r e).1; omega)⟩
theorem NSt.drew (h : NSt w b tv wv xs) : NSt w.drew b tv wv xs := ⟨h.rt.drew, h.rw.drew⟩
theorem NSt.grown {B n : Nat} {zs : List Value} (h : NSt w b tv wv xs) (ht : w.ownsRow B 3 1 u n zs) (hg : w.grownBy w' u.ownBlock) (hne : tv.ownBlock = none ∨ tv.ownBlock ≠ u.ownBlock) : NSt w' b tv wv xs :=
  ⟨h.rt.kept hg hne, own_row h.rw ht hg (by decide)⟩
/-- Behind an append to the row that is still to be followed the two rows lie apart. -/
theorem apart_grown {u' : Value} (h : NSt w b tv wv xs) (hne : tv.ownBlock = none ∨ tv.ownBlock ≠ u.ownBlock) (h4 : u'.ownBlock = u.ownBlock ∨ u'.ownBlock = some w.heap.size) : tv.ownBlock = none ∨ tv.ownBlock ≠ u'.ownBlock := by
  rcases h4 with h4 | h4
  · rw [h4]; exact hne
  · rw [h4]
    refine .inr fun e => ?_
    have := (h.rt.lt _ e).2
    omega
theorem NSt.cells {A1 A2 : Option Addr} {c1 c2 j : Nat} {x : Nxt} (h : NSt w b (.slice A1 xs.length c1) (.slice A2 xs.length c2) xs) (hx : xs[j]? = some x) :
    ∃ g1 g2, A1 = some ⟨g1, 0, none⟩ ∧ A2 = some ⟨g2, 0, none⟩ ∧ w.cell? ⟨g1, j, none⟩ = some (.int .i64 x.1) ∧ w.cell? ⟨g2, j * 2, none⟩ = some (.int .i64 x.2.1) ∧ w.cell? ⟨g2, j * 2 + 1, none⟩ = some (.int .i64 x.2.2) ∧ xs.length ≤ c1 ∧ xs.length ≤ c2 := by
  have hj := (List.getElem?_eq_some_iff.1 hx).1
  rcases h.rt.2 with ⟨_, h0⟩ | ⟨g1, cap1, cur1, hv1, _, _, hc1, _⟩
  · cases xs with
    | nil => simp at hj
    | cons y ys => cases h0
  · rcases h.rw.2 with ⟨_, h0⟩ | ⟨g2, cap2, cur2, hv2, _, _, hc2, _⟩
    · cases xs with
      | nil => simp at hj
      | cons y ys => simp at h0
    · injection hv1 with e1 e2 e3
      injection hv2 with f1 f2 f3
      subst e1 f1 e3 f3
      refine ⟨g1, g2, rfl, rfl, ?_, ?_, ?_, hc1, hc2⟩
      · rw [h.rt.cellAt j (by rw [Nat.mul_one]; exact hj), List.getElem?_map, hx]; rfl
      · rw [h.rw.cellAt (j * 2) (by omega)]
        exact flatN (fun x : Nxt => stCells x.2) 2 (fun _ => rfl) xs j 0 x hx (by omega)
      · rw [h.rw.cellAt (j * 2 + 1) (by omega)]
        exact flatN (fun x : Nxt => stCells x.2) 2 (fun _ => rfl) xs j 1 x hx (by omega)
end
theorem rPush_cons (L : List Sta) (T : List Nat) (x : Nxt) (xs : List Nxt) : rPush L T (x :: xs) =
    if (L.length : Int) ≤ x.1 ∨ 100 < x.2.1 ∨ 10 < x.2.2 then none
    else if (L.getD x.1.toNat unk).1 < 0 then rPush (L.set x.1.toNat x.2) (x.1.toNat :: T) xs
    else if L.getD x.1.toNat unk ≠ x.2 then none
    else rPush L T xs := by rw [rPush]
theorem rPush_drop {L L' : List Sta} {T T' : List Nat} {xs : List Nxt} {j : Nat} {x : Nxt} (h : rPush L T xs = rPush L' T' (xs.drop j)) (hx : xs[j]? = some x) : rPush L T xs =
    if (L'.length : Int) ≤ x.1 ∨ 100 < x.2.1 ∨ 10 < x.2.2 then none
    else if (L'.getD x.1.toNat unk).1 < 0 then rPush (L'.set x.1.toNat x.2) (x.1.toNat :: T') (xs.drop (j + 1))
    else if L'.getD x.1.toNat unk ≠ x.2 then none
    else rPush L' T' (xs.drop (j + 1)) := by
  obtain ⟨hj, e⟩ := List.getElem?_eq_some_iff.1 hx
  rw [h, List.drop_eq_getElem_cons hj, e, rPush_cons]
end Go.Proofs.YtiphicejaljhiaaDoor
