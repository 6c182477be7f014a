/- op.Effect, whatever the table op.rows holds. -/
import Derived.Test.YtphojigdapaaiaaDoorAOp
namespace Go.Proofs.YtphojigdapaaiaaDoor
open Go.ChangeShapes Go.WideShapes Go.ChangeAt Go.RowKit
set_option linter.unusedVariables false
set_option linter.unusedSimpArgs false
def EffEnd (w : World) (e : Ending) (w' : World) : Prop := ∃ (a b : Int) (r : Bool), e = .returned (.tuple #[.int .i64 a, .int .i64 b, .bool r]) ∧ Below w.heap.size w w'
set_option maxRecDepth 100000 in
set_option maxHeartbeats 4000000 in
theorem c73 (o : Nat) (h1 : o < 38) (h2 : o ≠ 36) (h3 : o ≠ 6) (h4 : o ≠ 19) (w : World) (ht : OpTab w) : Calls Tryd.prog 73 #[.agg #[.int .i64 (o : Int), .int .i64 0, .int .i64 0]] w (EffEnd w) := by
  have HT := Lib.hid ht
  have f0 : (0 : Int) ≤ (o : Int) := by omega
  have f4 : (o : Int) < 38 := by omega
  have f3 : ((o : Int) == 36) = false := beq_false_of_ne (by omega)
  have f6 : ((o : Int) == 6) = false := beq_false_of_ne (by omega)
  have f9 : ((o : Int) == 19) = false := beq_false_of_ne (by omega)
  have hb := below_new w (.cells #[.int .i64 (o : Int), .int .i64 0, .int .i64 0] 103)
  have HC := Lib.hid (c80 o h1 h2 _ (ht.next hb))
  have HX := Lib.hid (Blk.new w 103 #[.int .i64 (o : Int), .int .i64 0, .int .i64 0])
  have HB := Lib.hid hb
  have H1 := Lib.hid h1
  clear ht hb h1 h2 h3 h4
  go_enter Tryd.func73, Tryd.ntmps73
  go_wp2_with fail
  refine HC.out.mono ?_
  rintro e w2 ⟨r, rfl, hb2⟩
  have HB2 := Lib.hid (next_ HB.out hb2)
  have HX2 := Lib.hid (HX.out.next hb2)
  clear hb2 HC HX
  generalize hxb : w.heap.size = xb at HX2 ⊢
  have x0 : w2.cell? ⟨xb, 0, none⟩ = some (.int .i64 (o : Int)) := HX2.out.cell 0
  cases r with
  | false =>
    go_wp2_with fail
    go_ret3
    exact ⟨0, 0, false, rfl, HB2.out⟩
  | true =>
    go_upto_region 3 with fail
    obtain ⟨nm, a1, a2, b1, b2, tk, lv, hc⟩ := (HT.out.next HB2.out).2 o H1.out
    rw [show (⟨1, 0, none⟩ : Addr).add (o * 7) = ⟨1, o * 7, none⟩ by simp [Addr.add]; try omega] at hc
    have HC := Lib.hid hc
    have HR := Lib.hid (Blk.new w2 130 #[.string nm, .int .i64 a1, .int .i64 a2, .int .i64 b1, .int .i64 b2, .int .i64 tk, .int .i64 lv])
    have HX3 := Lib.hid (HX2.out.next (below_new w2 (.cells #[.string nm, .int .i64 a1, .int .i64 a2, .int .i64 b1, .int .i64 b2, .int .i64 tk, .int .i64 lv] 130)))
    have HB3 := Lib.hid (next_ HB2.out (below_new w2 (.cells #[.string nm, .int .i64 a1, .int .i64 a2, .int .i64 b1, .int .i64 b2, .int .i64 tk, .int .i64 lv] 130)))
    clear hc
    go_upto_region 4 with (first | (refine wpList_load_at rfl 130 (.tmp 11) rfl ⟨1, o * 7, none⟩ rfl [.string nm, .int .i64 a1, .int .i64 a2, .int .i64 b1, .int .i64 b2, .int .i64 tk, .int .i64 lv] _ HC.out Tryd.underlying130 rfl (by kernel_rfl) ?_))
    clear x0
    generalize w2.alloc (.cells #[.string nm, .int .i64 a1, .int .i64 a2, .int .i64 b1, .int .i64 b2, .int .i64 tk, .int .i64 lv] 130) = w3 at HR HX3 HB3 ⊢
    generalize w2.heap.size = rb at HR ⊢
    have x0 : w3.cell? ⟨xb, 0, none⟩ = some (.int .i64 (o : Int)) := HX3.out.cell 0
    have r3 : w3.cell? ⟨rb, 5, none⟩ = some (.int .i64 tk) := HR.out.cell 5
    have r4 : w3.cell? ⟨rb, 6, none⟩ = some (.int .i64 lv) := HR.out.cell 6
    go_wp2_with fail
    go_quiet (fail)
    have hb := below_drewN HB3.out nq
    have HB4 := Lib.hid hb
    clear hb
    go_wp2_with fail
    go_ret3
    exact ⟨tk, lv, true, rfl, HB4.out⟩
end Go.Proofs.YtphojigdapaaiaaDoor
