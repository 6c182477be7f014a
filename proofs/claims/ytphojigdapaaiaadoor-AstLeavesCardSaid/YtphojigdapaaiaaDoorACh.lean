/- row.children. -/
import Derived.Test.YtphojigdapaaiaaDoorAOf2
namespace Go.Proofs.YtphojigdapaaiaaDoor
open Go.ChangeShapes Go.WideShapes Go.ChangeAt Go.RowKit
set_option linter.unusedVariables false
set_option linter.unusedSimpArgs false
/-- A node's children: of each what it is to be, and which. -/
def chC (r : RowA) (x : Nod) : List Value := [.int .u8 r.a, .int .i64 x.a, .int .u8 r.b, .int .i64 x.b, .int .u8 r.c, .int .i64 x.c]
theorem row6 {w : World} {b : Nat} {t : TypeId} {u0 u1 u2 u3 u4 u5 v0 v1 v2 v3 v4 v5 : Value} (h : Blk w b t #[u0, u1, u2, u3, u4, u5]) :
    Blk ((((((w.setCell ⟨b, 0, none⟩ v0).setCell ⟨b, 1, none⟩ v1).setCell ⟨b, 2, none⟩ v2).setCell ⟨b, 3, none⟩ v3).setCell ⟨b, 4, none⟩ v4).setCell ⟨b, 5, none⟩ v5) b t #[v0, v1, v2, v3, v4, v5] := by
  have h1 := (((((h.set_ 0 v0).set_ 1 v1).set_ 2 v2).set_ 3 v3).set_ 4 v4).set_ 5 v5
  simpa only [List.setIfInBounds_toArray, List.set_cons_zero, List.set_cons_succ] using h1
theorem low6 {w a : World} {B b : Nat} {v0 v1 v2 v3 v4 v5 : Value} (hB : B ≤ b) (h : Below B a w) :
    Below B a ((((((w.setCell ⟨b, 0, none⟩ v0).setCell ⟨b, 1, none⟩ v1).setCell ⟨b, 2, none⟩ v2).setCell ⟨b, 3, none⟩ v3).setCell ⟨b, 4, none⟩ v4).setCell ⟨b, 5, none⟩ v5) :=
  (((((h.setCell (p := ⟨b, 0, none⟩) hB v0).setCell (p := ⟨b, 1, none⟩) hB v1).setCell (p := ⟨b, 2, none⟩) hB v2).setCell (p := ⟨b, 3, none⟩) hB v3).setCell (p := ⟨b, 4, none⟩) hB v4).setCell (p := ⟨b, 5, none⟩) hB v5
set_option maxRecDepth 100000 in
set_option maxHeartbeats 4000000 in
theorem c37 (r : RowA) (x : Nod) (w : World) : Calls Tryd.prog 37 #[.agg (rowC r).toArray, .agg (nodC x).toArray] w fun e w' => e = .returned (.agg (chC r x).toArray) ∧ Below w.heap.size w w' := by
  show Calls Tryd.prog 37 #[.agg #[.int .u8 r.is_, .int .u8 r.a, .int .u8 r.b, .int .u8 r.c, .int .i64 r.text, .int .i64 r.second, .int .i64 r.lo, .int .i64 r.hi], .agg #[.int .i64 x.k, strV x.t, strV x.t2, .int .i64 x.n, .int .i64 x.a, .int .i64 x.b, .int .i64 x.c, .int .i64 x.h]] w _
  have a1 := Blk.new w 59 #[.int .u8 r.is_, .int .u8 r.a, .int .u8 r.b, .int .u8 r.c, .int .i64 r.text, .int .i64 r.second, .int .i64 r.lo, .int .i64 r.hi]
  have b1 := below_new w (.cells #[.int .u8 r.is_, .int .u8 r.a, .int .u8 r.b, .int .u8 r.c, .int .i64 r.text, .int .i64 r.second, .int .i64 r.lo, .int .i64 r.hi] 59)
  have s1 : (w.alloc (.cells #[.int .u8 r.is_, .int .u8 r.a, .int .u8 r.b, .int .u8 r.c, .int .i64 r.text, .int .i64 r.second, .int .i64 r.lo, .int .i64 r.hi] 59)).heap.size = w.heap.size + 1 := by rw [World.size_alloc]
  generalize hw1 : w.alloc (.cells #[.int .u8 r.is_, .int .u8 r.a, .int .u8 r.b, .int .u8 r.c, .int .i64 r.text, .int .i64 r.second, .int .i64 r.lo, .int .i64 r.hi] 59) = w1 at a1 b1 s1
  have a2 := Blk.new w1 30 #[.int .i64 x.k, strV x.t, strV x.t2, .int .i64 x.n, .int .i64 x.a, .int .i64 x.b, .int .i64 x.c, .int .i64 x.h]
  have b2 := next_ b1 (below_new w1 (.cells #[.int .i64 x.k, strV x.t, strV x.t2, .int .i64 x.n, .int .i64 x.a, .int .i64 x.b, .int .i64 x.c, .int .i64 x.h] 30))
  have s2 : (w1.alloc (.cells #[.int .i64 x.k, strV x.t, strV x.t2, .int .i64 x.n, .int .i64 x.a, .int .i64 x.b, .int .i64 x.c, .int .i64 x.h] 30)).heap.size = w.heap.size + 1 + 1 := by rw [World.size_alloc, s1]
  have a1' := a1.next (below_new w1 (.cells #[.int .i64 x.k, strV x.t, strV x.t2, .int .i64 x.n, .int .i64 x.a, .int .i64 x.b, .int .i64 x.c, .int .i64 x.h] 30))
  generalize hw2 : w1.alloc (.cells #[.int .i64 x.k, strV x.t, strV x.t2, .int .i64 x.n, .int .i64 x.a, .int .i64 x.b, .int .i64 x.c, .int .i64 x.h] 30) = w2 at a1' a2 b2 s2
  have a3 := Blk.new w2 82 #[.int .u8 0, .int .i64 0, .int .u8 0, .int .i64 0, .int .u8 0, .int .i64 0]
  have b3 := next_ b2 (below_new w2 (.cells #[.int .u8 0, .int .i64 0, .int .u8 0, .int .i64 0, .int .u8 0, .int .i64 0] 82))
  have a1'' := a1'.next (below_new w2 (.cells #[.int .u8 0, .int .i64 0, .int .u8 0, .int .i64 0, .int .u8 0, .int .i64 0] 82))
  have a2' := a2.next (below_new w2 (.cells #[.int .u8 0, .int .i64 0, .int .u8 0, .int .i64 0, .int .u8 0, .int .i64 0] 82))
  generalize hw3 : w2.alloc (.cells #[.int .u8 0, .int .i64 0, .int .u8 0, .int .i64 0, .int .u8 0, .int .i64 0] 82) = w3 at a1'' a2' a3 b3
  have HR := Lib.hid a1''
  have HN := Lib.hid a2'
  have HZ := Lib.hid a3
  have HB := Lib.hid b3
  have HLE := Lib.hid (show w.heap.size ≤ w2.heap.size by omega)
  clear a1'' a2' a3 b3 a1' a2 b2 a1 b1 s1 s2
  go_enter Tryd.func37, Tryd.ntmps37
  go_upto_region 1 with fail
  clear hw1 hw2 hw3
  generalize w2.heap.size = zb at HZ HLE ⊢
  generalize w1.heap.size = nb at HN ⊢
  generalize w.heap.size = rb at HR ⊢
  have r1 : w3.cell? ⟨rb, 1, none⟩ = some (.int .u8 r.a) := HR.out.cell 1
  have r2 : w3.cell? ⟨rb, 2, none⟩ = some (.int .u8 r.b) := HR.out.cell 2
  have r3 : w3.cell? ⟨rb, 3, none⟩ = some (.int .u8 r.c) := HR.out.cell 3
  have n4 : w3.cell? ⟨nb, 4, none⟩ = some (.int .i64 x.a) := HN.out.cell 4
  have n5 : w3.cell? ⟨nb, 5, none⟩ = some (.int .i64 x.b) := HN.out.cell 5
  have n6 : w3.cell? ⟨nb, 6, none⟩ = some (.int .i64 x.c) := HN.out.cell 6
  have z0 : w3.cell? ⟨zb, 0, none⟩ = some (.int .u8 0) := HZ.out.cell 0
  have f0 := HZ.out.frozen 0
  have z1 : w3.cell? ⟨zb, 1, none⟩ = some (.int .i64 0) := HZ.out.cell 1
  have f1 := HZ.out.frozen 1
  have z2 : w3.cell? ⟨zb, 2, none⟩ = some (.int .u8 0) := HZ.out.cell 2
  have f2 := HZ.out.frozen 2
  have z3 : w3.cell? ⟨zb, 3, none⟩ = some (.int .i64 0) := HZ.out.cell 3
  have f3 := HZ.out.frozen 3
  have z4 : w3.cell? ⟨zb, 4, none⟩ = some (.int .u8 0) := HZ.out.cell 4
  have f4 := HZ.out.frozen 4
  have z5 : w3.cell? ⟨zb, 5, none⟩ = some (.int .i64 0) := HZ.out.cell 5
  have f5 := HZ.out.frozen 5
  go_wp2_with fail
  exact bodyPost_ret (results_cell_row rfl _ _ _ 82 _ (0, 0) _ rfl (row6 HZ.out) Tryd.underlying82 rfl (by kernel_rfl)) rfl ⟨rfl, low6 HLE.out HB.out⟩
end Go.Proofs.YtphojigdapaaiaaDoor
