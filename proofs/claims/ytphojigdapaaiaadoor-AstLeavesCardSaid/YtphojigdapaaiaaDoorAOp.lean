/- op.Good and op.Effect, whatever the table op.rows holds. -/
import Derived.Test.YtphojigdapaaiaaDoorABd
namespace Go.Proofs.YtphojigdapaaiaaDoor
open Go.ChangeShapes Go.WideShapes Go.ChangeAt Go.RowKit
set_option linter.unusedVariables false
set_option linter.unusedSimpArgs false
/-- The table op.rows is there, its cells are of their kinds. -/
def OpTab (w : World) : Prop := 1 < w.heap.size ∧ ∀ i : Nat, i < 38 → ∃ (nm : ByteArray) (a1 a2 b1 b2 tk lv : Int), ∀ j v, ([.string nm, .int .i64 a1, .int .i64 a2, .int .i64 b1, .int .i64 b2, .int .i64 tk, .int .i64 lv] : List Value)[j]? = some v → w.cell? (((⟨1, 0, none⟩ : Addr).add (i * 7)).add j) = some v
theorem OpTab.next {w w' : World} (h : OpTab w) (hb : Below w.heap.size w w') : OpTab w' := by
  refine ⟨Nat.lt_of_lt_of_le h.1 hb.size, fun i hi => ?_⟩
  obtain ⟨nm, a1, a2, b1, b2, tk, lv, hc⟩ := h.2 i hi
  exact ⟨nm, a1, a2, b1, b2, tk, lv, fun j v hj => (hb.cell (by rw [block_of_add, block_of_add]; exact h.1)).trans (hc j v hj)⟩
def BoolEnd (w : World) (e : Ending) (w' : World) : Prop := ∃ r, e = .returned (.bool r) ∧ Below w.heap.size w w'
set_option maxRecDepth 100000 in
set_option maxHeartbeats 4000000 in
theorem c80 (o : Nat) (h1 : o < 38) (h2 : o ≠ 36) (w : World) (ht : OpTab w) : Calls Tryd.prog 80 #[.agg #[.int .i64 (o : Int), .int .i64 0, .int .i64 0]] w (BoolEnd w) := by
  have HT := Lib.hid ht
  have f1 : ¬ ((o : Int) < 0) := by omega
  have f0 : (0 : Int) ≤ (o : Int) := by omega
  have f2 : ¬ (38 : Int) ≤ (o : Int) := by omega
  have f4 : (o : Int) < 38 := by omega
  have f3 : ((o : Int) == 36) = false := beq_false_of_ne (by omega)
  have hb := below_new w (.cells #[.int .i64 (o : Int), .int .i64 0, .int .i64 0] 103)
  obtain ⟨nm, a1, a2, b1, b2, tk, lv, hc⟩ := (ht.next hb).2 o h1
  rw [show (⟨1, 0, none⟩ : Addr).add (o * 7) = ⟨1, o * 7, none⟩ by simp [Addr.add]; try omega] at hc
  have HC := Lib.hid hc
  clear hc ht hb
  go_enter Tryd.func80, Tryd.ntmps80
  go_upto_region 4 with (first | (refine wpList_load_at rfl 130 (.tmp 14) rfl ⟨1, o * 7, none⟩ rfl [.string nm, .int .i64 a1, .int .i64 a2, .int .i64 b1, .int .i64 b2, .int .i64 tk, .int .i64 lv] _ HC.out Tryd.underlying130 rfl (by kernel_rfl) ?_))
  go_wp2_with fail
  have hX := (Blk.new w 103 #[.int .i64 (o : Int), .int .i64 0, .int .i64 0]).alloc (.cells #[.string nm, .int .i64 a1, .int .i64 a2, .int .i64 b1, .int .i64 b2, .int .i64 tk, .int .i64 lv] 130)
  have hR := Blk.new (w.alloc (.cells #[.int .i64 (o : Int), .int .i64 0, .int .i64 0] 103)) 130 #[.string nm, .int .i64 a1, .int .i64 a2, .int .i64 b1, .int .i64 b2, .int .i64 tk, .int .i64 lv]
  rw [World.size_alloc] at hR
  have hb := (below_new w (.cells #[.int .i64 (o : Int), .int .i64 0, .int .i64 0] 103)).alloc (by rw [World.size_alloc]; omega) (.cells #[.string nm, .int .i64 a1, .int .i64 a2, .int .i64 b1, .int .i64 b2, .int .i64 tk, .int .i64 lv] 130)
  refine (c87 _ _ _ _).mono ?_
  rintro e w2 ⟨rfl, hb2⟩
  have HX := Lib.hid (hX.next hb2)
  have HR := Lib.hid (hR.next hb2)
  have HB := Lib.hid (next_ hb hb2)
  clear hX hR hb hb2
  generalize w.heap.size + 1 = rb at HR ⊢
  generalize hxb : w.heap.size = xb at HX ⊢
  have HXB := Lib.hid hxb
  clear hxb
  have x1 : w2.cell? ⟨xb, 2, none⟩ = some (.int .i64 0) := HX.out.cell 2
  have r1 : w2.cell? ⟨rb, 3, none⟩ = some (.int .i64 b1) := HR.out.cell 3
  have r2 : w2.cell? ⟨rb, 4, none⟩ = some (.int .i64 b2) := HR.out.cell 4
  cases inB a1 a2 0 with
  | false =>
    go_wp2_with fail
    go_ret
    exact ⟨false, rfl, HB.out⟩
  | true =>
    go_wp2_with fail
    refine (c87 _ _ _ _).mono ?_
    rintro e w3 ⟨rfl, hb3⟩
    have HB3 := Lib.hid (next_ HB.out hb3)
    clear hb3
    generalize inB b1 b2 0 = ib
    go_wp2_with fail
    go_ret
    exact ⟨ib, rfl, HB3.out⟩
end Go.Proofs.YtphojigdapaaiaaDoor
