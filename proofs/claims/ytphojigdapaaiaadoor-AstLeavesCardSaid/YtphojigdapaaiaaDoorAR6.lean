/- The document's effects (ref06.Of), prim: they answer. -/
import Derived.Test.YtphojigdapaaiaaDoorARp
import Derived.Test.YtphojigdapaaiaaDoorAOf2
namespace Go.Proofs.YtphojigdapaaiaaDoor
open Go.ChangeShapes Go.WideShapes Go.ChangeAt Go.RowKit
set_option linter.unusedVariables false
set_option linter.unusedSimpArgs false
def Eff2End (w : World) (e : Ending) (w' : World) : Prop := ∃ (a b : Int), e = .returned (.agg #[.int .i64 a, .int .i64 b]) ∧ Below w.heap.size w w'
set_option maxRecDepth 100000 in
set_option maxHeartbeats 16000000 in
theorem c50 (o : Int) (w : World) : Calls Tryd.prog 50 #[.agg #[.int .i64 o, .int .i64 0, .int .i64 0]] w (Eff2End w) := by
  have hI := Blk.new w 103 #[.int .i64 o, .int .i64 0, .int .i64 0]
  have hB := below_new w (.cells #[.int .i64 o, .int .i64 0, .int .i64 0] 103)
  generalize hw1 : w.alloc (.cells #[.int .i64 o, .int .i64 0, .int .i64 0] 103) = w1 at hI hB
  have hR := Blk.new w1 100 #[.int .i64 0, .int .i64 0]
  have hB1 := next_ hB (below_new w1 (.cells #[.int .i64 0, .int .i64 0] 100))
  have hI1 := hI.next (below_new w1 (.cells #[.int .i64 0, .int .i64 0] 100))
  have hle := hB.size
  generalize hw2 : w1.alloc (.cells #[.int .i64 0, .int .i64 0] 100) = w2 at hR hB1 hI1
  have HI := Lib.hid hI1
  have HR := Lib.hid hR
  have HB := Lib.hid hB1
  have HLE := Lib.hid hle
  clear hI1 hR hB1 hle hI hB
  go_enter Tryd.func50, Tryd.ntmps50
  go_upto_region 1 with fail
  clear hw1 hw2
  generalize w1.heap.size = rb at HR HLE ⊢
  generalize w.heap.size = ib at HI ⊢
  have x0 : w2.cell? ⟨ib, 0, none⟩ = some (.int .i64 o) := HI.out.cell 0
  have x1 : w2.cell? ⟨ib, 1, none⟩ = some (.int .i64 0) := HI.out.cell 1
  have x2 : w2.cell? ⟨ib, 2, none⟩ = some (.int .i64 0) := HI.out.cell 2
  have r0 : w2.cell? ⟨rb, 0, none⟩ = some (.int .i64 0) := HR.out.cell 0
  have r1 : w2.cell? ⟨rb, 1, none⟩ = some (.int .i64 0) := HR.out.cell 1
  have f0 := HR.out.frozen 0
  have f1 := HR.out.frozen 1
  go_wp2_with fail
  all_goals exact bodyPost_ret (results_cell_row rfl _ _ _ 100 _ (0, 0) _ rfl (row2 HR.out) Tryd.underlying100 rfl (by kernel_rfl)) rfl ⟨_, _, rfl, low2 HLE.out HB.out⟩
def SlotEnd (w : World) (e : Ending) (w' : World) : Prop := ∃ (a : Int) (b : Bool), e = .returned (.agg #[.int .i64 a, .bool b]) ∧ Below w.heap.size w w'
set_option maxRecDepth 100000 in
set_option maxHeartbeats 16000000 in
theorem c33 (x : Nod) (k : Int) (w : World) : Calls Tryd.prog 33 #[.agg (nodC x).toArray, .int .i64 k] w (SlotEnd w) := by
  show Calls Tryd.prog 33 #[.agg #[.int .i64 x.k, strV x.t, strV x.t2, .int .i64 x.n, .int .i64 x.a, .int .i64 x.b, .int .i64 x.c, .int .i64 x.h], .int .i64 k] w _
  have hI := Blk.new w 30 #[.int .i64 x.k, strV x.t, strV x.t2, .int .i64 x.n, .int .i64 x.a, .int .i64 x.b, .int .i64 x.c, .int .i64 x.h]
  have hB := below_new w (.cells #[.int .i64 x.k, strV x.t, strV x.t2, .int .i64 x.n, .int .i64 x.a, .int .i64 x.b, .int .i64 x.c, .int .i64 x.h] 30)
  generalize hw1 : w.alloc (.cells #[.int .i64 x.k, strV x.t, strV x.t2, .int .i64 x.n, .int .i64 x.a, .int .i64 x.b, .int .i64 x.c, .int .i64 x.h] 30) = w1 at hI hB
  have hR := Blk.new w1 48 #[.int .i64 0, .bool false]
  have hB1 := next_ hB (below_new w1 (.cells #[.int .i64 0, .bool false] 48))
  have hI1 := hI.next (below_new w1 (.cells #[.int .i64 0, .bool false] 48))
  have hle := hB.size
  generalize hw2 : w1.alloc (.cells #[.int .i64 0, .bool false] 48) = w2 at hR hB1 hI1
  have HI := Lib.hid hI1
  have HR := Lib.hid hR
  have HB := Lib.hid hB1
  have HLE := Lib.hid hle
  clear hI1 hR hB1 hle hI hB
  go_enter Tryd.func33, Tryd.ntmps33
  go_upto_region 1 with fail
  clear hw1 hw2
  generalize w1.heap.size = rb at HR HLE ⊢
  generalize w.heap.size = ib at HI ⊢
  have x3 : w2.cell? ⟨ib, 3, none⟩ = some (.int .i64 x.n) := HI.out.cell 3
  have r0 : w2.cell? ⟨rb, 0, none⟩ = some (.int .i64 0) := HR.out.cell 0
  have r1 : w2.cell? ⟨rb, 1, none⟩ = some (.bool false) := HR.out.cell 1
  have f0 := HR.out.frozen 0
  have f1 := HR.out.frozen 1
  have HC := Lib.hid (c50 x.n w2)
  go_wp2_with fail
  any_goals exact bodyPost_ret (results_cell_row rfl _ _ _ 48 _ (0, 0) _ rfl (row2 HR.out) Tryd.underlying48 rfl (by kernel_rfl)) rfl ⟨_, _, rfl, low2 HLE.out HB.out⟩
  all_goals (
    refine HC.out.mono ?_
    rintro e w3 ⟨a, b, rfl, hb3⟩
    clear x3 r0 r1 f0 f1
    have hE := Blk.new w3 100 #[.int .i64 a, .int .i64 b]
    have hb4 := below_new w3 (.cells #[.int .i64 a, .int .i64 b] 100)
    have HR4 := Lib.hid ((HR.out.next hb3).next hb4)
    have HB4 := Lib.hid (next_ (next_ HB.out hb3) hb4)
    generalize hw4 : w3.alloc (.cells #[.int .i64 a, .int .i64 b] 100) = w4 at hE hb4 HR4 HB4
    have HE := Lib.hid hE
    clear hE hb3 hb4
    go_upto_region 4 with fail
    clear hw4
    generalize w3.heap.size = eb at HE ⊢
    have y0 : w4.cell? ⟨eb, 0, none⟩ = some (.int .i64 a) := HE.out.cell 0
    have r0 : w4.cell? ⟨rb, 0, none⟩ = some (.int .i64 0) := HR4.out.cell 0
    have r1 : w4.cell? ⟨rb, 1, none⟩ = some (.bool false) := HR4.out.cell 1
    have f0 := HR4.out.frozen 0
    have f1 := HR4.out.frozen 1
    go_wp2_with fail
    all_goals exact bodyPost_ret (results_cell_row rfl _ _ _ 48 _ (0, 0) _ rfl (row2 HR4.out) Tryd.underlying48 rfl (by kernel_rfl)) rfl ⟨_, _, rfl, low2 HLE.out HB4.out⟩)
end Go.Proofs.YtphojigdapaaiaaDoor
