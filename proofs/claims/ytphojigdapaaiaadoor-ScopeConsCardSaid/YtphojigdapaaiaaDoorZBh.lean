/- The document's texts of nodes: it answers. -/
import Derived.Test.YtphojigdapaaiaaDoorZBg
import Derived.Test.YtphojigdapaaiaaDoorZBc
import Derived.Test.YtphojigdapaaiaaDoorZBa
import Derived.Test.YtphojigdapaaiaaDoorZBb
import Derived.Test.YtphojigdapaaiaaDoorZBd
import Derived.Carry
import Derived.Maps.Own
import Derived.Maps.RangeRun
import Derived.Test.YtphojigdapaaiaaDoorSHp
namespace Go.Proofs.YtphojigdapaaiaaDoor
open Go.ChangeShapes Go.WideShapes Go.ChangeAt Go.RowKit
set_option linter.unusedVariables false
set_option linter.unusedSimpArgs false
def Txt (x : Nod) : Prop := x.k = 10 → NameOk ⟨x.t.toArray⟩ ∨ x.t = [95]
def TxtEnd (x : Nod) (w : World) (e : Ending) (w' : World) : Prop := ∃ r, e = .returned (.bool r) ∧ Below w.heap.size w w' ∧ (r = true → Txt x)
set_option maxRecDepth 100000 in
set_option maxHeartbeats 16000000 in
theorem x19 (x : Nod) (ht : x.t.length ≤ 3000) (ht2 : x.t2.length ≤ 3000) (w : World) : Calls Tryd.prog 19 #[.agg (nodC x).toArray] w (TxtEnd x w) := by
  show Calls Tryd.prog 19 #[.agg #[.int .i64 x.k, strV x.t, strV x.t2, .int .i64 x.n, .int .i64 x.a, .int .i64 x.b, .int .i64 x.c, .int .i64 x.h]] w _
  have hI := Blk.new w 30 #[.int .i64 x.k, strV x.t, strV x.t2, .int .i64 x.n, .int .i64 x.a, .int .i64 x.b, .int .i64 x.c, .int .i64 x.h]
  have hB := below_new w (.cells #[.int .i64 x.k, strV x.t, strV x.t2, .int .i64 x.n, .int .i64 x.a, .int .i64 x.b, .int .i64 x.c, .int .i64 x.h] 30)
  have hz1 := strV_size x.t
  have hz2 := strV_size x.t2
  have HLT := Lib.hid (show (⟨x.t.toArray⟩ : ByteArray).size ≤ 3000 by omega)
  have HLT2 := Lib.hid (show (⟨x.t2.toArray⟩ : ByteArray).size ≤ 3000 by omega)
  clear hz1 hz2
  generalize hw1 : w.alloc (.cells #[.int .i64 x.k, strV x.t, strV x.t2, .int .i64 x.n, .int .i64 x.a, .int .i64 x.b, .int .i64 x.c, .int .i64 x.h] 30) = w1 at hI hB
  have HI1 := Lib.hid hI
  have HB1 := Lib.hid hB
  clear hI hB
  go_enter Tryd.func19, Tryd.ntmps19
  go_upto_region 1 with fail
  clear hw1
  generalize w.heap.size = ib at HI1 ⊢
  have x1 : w1.cell? ⟨ib, 1, none⟩ = some (strV x.t) := HI1.out.cell 1
  go_wp2_with fail
  clear x1
  refine (x30 _ HLT.out w1).mono ?_
  rintro e w2 ⟨b, rfl, hb, hnm⟩
  have HNM := Lib.hid hnm
  clear hnm
  have HI2 := Lib.hid (HI1.out.next hb)
  have HB2 := Lib.hid (next_ HB1.out hb)
  clear hb
  go_upto_region 2 with fail
  refine wp_region_held_drew (S := fun V => V.cell? ⟨ib, 1, none⟩ = some (strV x.t) ∧ V.cell? ⟨ib, 3, none⟩ = some (.int .i64 x.n)) (by kernel_rfl) ⟨HI2.out.cell 1, HI2.out.cell 3⟩ (fun hHeld => ?_)
  have HI3 := Lib.hid HI2.out.drew
  have HB3 := Lib.hid (Below.drew HB2.out)
  generalize w2.drew = w3 at HI3 HB3 hHeld ⊢
  refine tkH 0 9 ?_ rfl ?_ ?_
  rotate_left
  · rintro V ⟨z0, z1⟩; go_simp; try with_reducible rfl
  try simp only [Act.put, sLA, sL0, sL1]
  refine tkH 1 10 ?_ rfl ?_ ?_
  rotate_left
  · rintro V ⟨z0, z1⟩; go_simp; try with_reducible rfl
  try simp only [Act.put, sLA, sL0, sL1]
  refine tkH 2 11 ?_ rfl ?_ ?_
  rotate_left
  · rintro V ⟨z0, z1⟩; go_simp; try with_reducible rfl
  try simp only [Act.put, sLA, sL0, sL1]
  refine tkH 3 12 ?_ rfl ?_ ?_
  rotate_left
  · rintro V ⟨z0, z1⟩; go_simp; try with_reducible rfl
  try simp only [Act.put, sLA, sL0, sL1]
  refine tkH 4 13 ?_ rfl ?_ ?_
  rotate_left
  · rintro V ⟨z0, z1⟩; go_simp; try with_reducible rfl
  try simp only [Act.put, sLA, sL0, sL1]
  refine tkH 5 14 ?_ rfl ?_ ?_
  rotate_left
  · rintro V ⟨z0, z1⟩; go_simp; try with_reducible rfl
  try simp only [Act.put, sLA, sL0, sL1]
  refine tkH 6 4 ?_ rfl ?_ ?_
  rotate_left
  · rintro V ⟨z0, z1⟩; go_simp; try with_reducible rfl
  try simp only [Act.put, sLA, sL0, sL1]
  refine tkH 7 5 ?_ rfl ?_ ?_
  rotate_left
  · rintro V ⟨z0, z1⟩; go_simp; try with_reducible rfl
  try simp only [Act.put, sLA, sL0, sL1]
  refine wpAnyH_done (by kernel_rfl) ?_ _
  have z0 : w3.cell? ⟨ib, 0, none⟩ = some (.int .i64 x.k) := HI3.out.cell 0
  have z1 : w3.cell? ⟨ib, 1, none⟩ = some (strV x.t) := HI3.out.cell 1
  have z2 : w3.cell? ⟨ib, 2, none⟩ = some (strV x.t2) := HI3.out.cell 2
  have z3 : w3.cell? ⟨ib, 3, none⟩ = some (.int .i64 x.n) := HI3.out.cell 3
  by_cases h10 : x.k = 10
  · rw [h10] at z0
    cases b with
    | true =>
      have NO := Lib.hid (show Txt x from fun _ => .inl (HNM.out rfl))
      clear HNM h10
      go_wp2_with fail
      all_goals (go_ret; exact ⟨_, rfl, HB3.out, fun _ => NO.out⟩)
    | false =>
      by_cases h95 : x.t = [95]
      · have NO := Lib.hid (show Txt x from fun _ => .inr h95)
        have e95 : (x.t == [95]) = true := beq_iff_eq.2 h95
        clear h95 h10 HNM
        go_wp2_with fail
        all_goals (go_ret; exact ⟨_, rfl, HB3.out, fun _ => NO.out⟩)
      · have e95 : (x.t == [95]) = false := beq_false_of_ne h95
        clear h95 h10 HNM
        go_wp2_with fail
        all_goals (go_ret; exact ⟨_, rfl, HB3.out, fun h => by cases h⟩)
  by_cases h13 : x.k = 13
  · have NO := Lib.hid (show Txt x from fun h => absurd h h10)
    clear h10
    rw [h13] at z0
    cases b with
    | false =>
      go_wp2_with fail
      all_goals (go_ret; exact ⟨_, rfl, HB3.out, fun _ => NO.out⟩)
    | true =>
      go_wp2_with fail
      refine (x30 _ HLT2.out w3).mono ?_
      rintro e w4 ⟨b4, rfl, hb4, _⟩
      clear z0 z1 z2 z3
      have HB4 := Lib.hid (next_ HB3.out hb4)
      have HI4 := Lib.hid (HI3.out.next hb4)
      clear hb4
      have z0 : w4.cell? ⟨ib, 0, none⟩ = some (.int .i64 x.k) := HI4.out.cell 0
      have z1 : w4.cell? ⟨ib, 1, none⟩ = some (strV x.t) := HI4.out.cell 1
      have z2 : w4.cell? ⟨ib, 2, none⟩ = some (strV x.t2) := HI4.out.cell 2
      have z3 : w4.cell? ⟨ib, 3, none⟩ = some (.int .i64 x.n) := HI4.out.cell 3
      go_wp2_with fail
      all_goals (go_ret; exact ⟨_, rfl, HB4.out, fun _ => NO.out⟩)
  by_cases h4 : x.k = 4
  · have NO := Lib.hid (show Txt x from fun h => absurd h h10)
    clear h10
    rw [h4] at z0
    go_wp2_with fail
    refine (c32 _ HLT.out w3).mono ?_
    rintro e w4 ⟨q4, rfl, hb4⟩
    clear z0 z1 z2 z3
    have HB4 := Lib.hid (next_ HB3.out hb4)
    have HI4 := Lib.hid (HI3.out.next hb4)
    clear hb4
    have z0 : w4.cell? ⟨ib, 0, none⟩ = some (.int .i64 x.k) := HI4.out.cell 0
    have z1 : w4.cell? ⟨ib, 1, none⟩ = some (strV x.t) := HI4.out.cell 1
    have z2 : w4.cell? ⟨ib, 2, none⟩ = some (strV x.t2) := HI4.out.cell 2
    have z3 : w4.cell? ⟨ib, 3, none⟩ = some (.int .i64 x.n) := HI4.out.cell 3
    go_wp2_with fail
    all_goals (go_ret; exact ⟨_, rfl, HB4.out, fun _ => NO.out⟩)
  by_cases h6 : x.k = 6 ∨ x.k = 34 ∨ x.k = 43
  · have NO := Lib.hid (show Txt x from fun h => absurd h h10)
    clear h10
    rcases h6 with h6 | h6 | h6
    all_goals (
    rw [h6] at z0
    go_wp2_with fail
    refine (c31 _ HLT.out w3).mono ?_
    rintro e w4 ⟨b4, rfl, hb4⟩
    clear z0 z1 z2 z3
    have HB4 := Lib.hid (next_ HB3.out hb4)
    have HI4 := Lib.hid (HI3.out.next hb4)
    clear hb4
    have z0 : w4.cell? ⟨ib, 0, none⟩ = some (.int .i64 x.k) := HI4.out.cell 0
    have z1 : w4.cell? ⟨ib, 1, none⟩ = some (strV x.t) := HI4.out.cell 1
    have z2 : w4.cell? ⟨ib, 2, none⟩ = some (strV x.t2) := HI4.out.cell 2
    have z3 : w4.cell? ⟨ib, 3, none⟩ = some (.int .i64 x.n) := HI4.out.cell 3
    go_wp2_with fail
    all_goals (go_ret; exact ⟨_, rfl, HB4.out, fun _ => NO.out⟩))
  have e13 : (x.k == 13) = false := beq_false_of_ne h13
  have e4 : (x.k == 4) = false := beq_false_of_ne h4
  have e6 : (x.k == 6) = false := beq_false_of_ne (by omega)
  have e34 : (x.k == 34) = false := beq_false_of_ne (by omega)
  have e43 : (x.k == 43) = false := beq_false_of_ne (by omega)
  have NO := Lib.hid (show Txt x from fun h => absurd h h10)
  have e10 : (x.k == 10) = false := beq_false_of_ne h10
  clear h13 h4 h6 h10
  go_wp2_with fail
  all_goals (go_ret; exact ⟨_, rfl, HB3.out, fun _ => NO.out⟩)
def Eff2End (w : World) (e : Ending) (w' : World) : Prop := ∃ (a b : Int), e = .returned (.agg #[.int .i64 a, .int .i64 b]) ∧ Below w.heap.size w w'
set_option maxRecDepth 100000 in
set_option maxHeartbeats 16000000 in
theorem c50 (o : Int) (w : World) : Calls Tryd.prog 50 #[.agg #[.int .i64 o, .int .i64 0, .int .i64 0]] w (Eff2End w) := by
  have hI := Blk.new w 103 #[.int .i64 o, .int .i64 0, .int .i64 0]
  have hB := below_new w (.cells #[.int .i64 o, .int .i64 0, .int .i64 0] 103)
  generalize hw1 : w.alloc (.cells #[.int .i64 o, .int .i64 0, .int .i64 0] 103) = w1 at hI hB
  have hR := Blk.new w1 100 #[.int .i64 0, .int .i64 0]
  have hB1 := next_ hB (below_new w1 (.cells #[.int .i64 0, .int .i64 0] 100))
  have hI1 := hI.next (below_new w1 (.cells #[.int .i64 0, .int .i64 0] 100))
  have hle := hB.size
  generalize hw2 : w1.alloc (.cells #[.int .i64 0, .int .i64 0] 100) = w2 at hR hB1 hI1
  have HI := Lib.hid hI1
  have HR := Lib.hid hR
  have HB := Lib.hid hB1
  have HLE := Lib.hid hle
  clear hI1 hR hB1 hle hI hB
  go_enter Tryd.func50, Tryd.ntmps50
  go_upto_region 1 with fail
  clear hw1 hw2
  generalize w1.heap.size = rb at HR HLE ⊢
  generalize w.heap.size = ib at HI ⊢
  have x0 : w2.cell? ⟨ib, 0, none⟩ = some (.int .i64 o) := HI.out.cell 0
  have x1 : w2.cell? ⟨ib, 1, none⟩ = some (.int .i64 0) := HI.out.cell 1
  have x2 : w2.cell? ⟨ib, 2, none⟩ = some (.int .i64 0) := HI.out.cell 2
  have r0 : w2.cell? ⟨rb, 0, none⟩ = some (.int .i64 0) := HR.out.cell 0
  have r1 : w2.cell? ⟨rb, 1, none⟩ = some (.int .i64 0) := HR.out.cell 1
  have f0 := HR.out.frozen 0
  have f1 := HR.out.frozen 1
  go_wp2_with fail
  all_goals exact bodyPost_ret (results_cell_row rfl _ _ _ 100 _ (0, 0) _ rfl (row2 HR.out) Tryd.underlying100 rfl (by kernel_rfl)) rfl ⟨_, _, rfl, low2 HLE.out HB.out⟩
def SlotEnd (w : World) (e : Ending) (w' : World) : Prop := ∃ (a : Int) (b : Bool), e = .returned (.agg #[.int .i64 a, .bool b]) ∧ Below w.heap.size w w'
set_option maxRecDepth 100000 in
set_option maxHeartbeats 16000000 in
theorem c33 (x : Nod) (k : Int) (w : World) : Calls Tryd.prog 33 #[.agg (nodC x).toArray, .int .i64 k] w (SlotEnd w) := by
  show Calls Tryd.prog 33 #[.agg #[.int .i64 x.k, strV x.t, strV x.t2, .int .i64 x.n, .int .i64 x.a, .int .i64 x.b, .int .i64 x.c, .int .i64 x.h], .int .i64 k] w _
  have hI := Blk.new w 30 #[.int .i64 x.k, strV x.t, strV x.t2, .int .i64 x.n, .int .i64 x.a, .int .i64 x.b, .int .i64 x.c, .int .i64 x.h]
  have hB := below_new w (.cells #[.int .i64 x.k, strV x.t, strV x.t2, .int .i64 x.n, .int .i64 x.a, .int .i64 x.b, .int .i64 x.c, .int .i64 x.h] 30)
  generalize hw1 : w.alloc (.cells #[.int .i64 x.k, strV x.t, strV x.t2, .int .i64 x.n, .int .i64 x.a, .int .i64 x.b, .int .i64 x.c, .int .i64 x.h] 30) = w1 at hI hB
  have hR := Blk.new w1 48 #[.int .i64 0, .bool false]
  have hB1 := next_ hB (below_new w1 (.cells #[.int .i64 0, .bool false] 48))
  have hI1 := hI.next (below_new w1 (.cells #[.int .i64 0, .bool false] 48))
  have hle := hB.size
  generalize hw2 : w1.alloc (.cells #[.int .i64 0, .bool false] 48) = w2 at hR hB1 hI1
  have HI := Lib.hid hI1
  have HR := Lib.hid hR
  have HB := Lib.hid hB1
  have HLE := Lib.hid hle
  clear hI1 hR hB1 hle hI hB
  go_enter Tryd.func33, Tryd.ntmps33
  go_upto_region 1 with fail
  clear hw1 hw2
  generalize w1.heap.size = rb at HR HLE ⊢
  generalize w.heap.size = ib at HI ⊢
  have x3 : w2.cell? ⟨ib, 3, none⟩ = some (.int .i64 x.n) := HI.out.cell 3
  have r0 : w2.cell? ⟨rb, 0, none⟩ = some (.int .i64 0) := HR.out.cell 0
  have r1 : w2.cell? ⟨rb, 1, none⟩ = some (.bool false) := HR.out.cell 1
  have f0 := HR.out.frozen 0
  have f1 := HR.out.frozen 1
  have HC := Lib.hid (c50 x.n w2)
  go_wp2_with fail
  any_goals exact bodyPost_ret (results_cell_row rfl _ _ _ 48 _ (0, 0) _ rfl (row2 HR.out) Tryd.underlying48 rfl (by kernel_rfl)) rfl ⟨_, _, rfl, low2 HLE.out HB.out⟩
  all_goals (
    refine HC.out.mono ?_
    rintro e w3 ⟨a, b, rfl, hb3⟩
    clear x3 r0 r1 f0 f1
    have hE := Blk.new w3 100 #[.int .i64 a, .int .i64 b]
    have hb4 := below_new w3 (.cells #[.int .i64 a, .int .i64 b] 100)
    have HR4 := Lib.hid ((HR.out.next hb3).next hb4)
    have HB4 := Lib.hid (next_ (next_ HB.out hb3) hb4)
    generalize hw4 : w3.alloc (.cells #[.int .i64 a, .int .i64 b] 100) = w4 at hE hb4 HR4 HB4
    have HE := Lib.hid hE
    clear hE hb3 hb4
    go_upto_region 4 with fail
    clear hw4
    generalize w3.heap.size = eb at HE ⊢
    have y0 : w4.cell? ⟨eb, 0, none⟩ = some (.int .i64 a) := HE.out.cell 0
    have r0 : w4.cell? ⟨rb, 0, none⟩ = some (.int .i64 0) := HR4.out.cell 0
    have r1 : w4.cell? ⟨rb, 1, none⟩ = some (.bool false) := HR4.out.cell 1
    have f0 := HR4.out.frozen 0
    have f1 := HR4.out.frozen 1
    go_wp2_with fail
    all_goals exact bodyPost_ret (results_cell_row rfl _ _ _ 48 _ (0, 0) _ rfl (row2 HR4.out) Tryd.underlying48 rfl (by kernel_rfl)) rfl ⟨_, _, rfl, low2 HLE.out HB4.out⟩)
theorem far6 {w : World} {g b : Nat} {t : TypeId} {cs : Array Value} {v0 v1 v2 v3 v4 v5 : Value} (h : Blk w g t cs) (hne : g ≠ b) :
    Blk ((((((w.setCell ⟨b, 0, none⟩ v0).setCell ⟨b, 1, none⟩ v1).setCell ⟨b, 2, none⟩ v2).setCell ⟨b, 3, none⟩ v3).setCell ⟨b, 4, none⟩ v4).setCell ⟨b, 5, none⟩ v5) g t cs :=
  (((((h.far (p := ⟨b, 0, none⟩) hne v0).far (p := ⟨b, 1, none⟩) hne v1).far (p := ⟨b, 2, none⟩) hne v2).far (p := ⟨b, 3, none⟩) hne v3).far (p := ⟨b, 4, none⟩) hne v4).far (p := ⟨b, 5, none⟩) hne v5
def SlotsEnd (w : World) (e : Ending) (w' : World) : Prop := ∃ (a0 : Int) (b0 : Bool) (a1 : Int) (b1 : Bool) (a2 : Int) (b2 : Bool), e = .returned (.agg #[.int .i64 a0, .bool b0, .int .i64 a1, .bool b1, .int .i64 a2, .bool b2]) ∧ Below w.heap.size w w'
set_option maxRecDepth 100000 in
set_option maxHeartbeats 16000000 in
theorem c20 (x : Nod) (w : World) : Calls Tryd.prog 20 #[.agg (nodC x).toArray] w (SlotsEnd w) := by
  show Calls Tryd.prog 20 #[.agg #[.int .i64 x.k, strV x.t, strV x.t2, .int .i64 x.n, .int .i64 x.a, .int .i64 x.b, .int .i64 x.c, .int .i64 x.h]] w _
  have hI := Blk.new w 30 #[.int .i64 x.k, strV x.t, strV x.t2, .int .i64 x.n, .int .i64 x.a, .int .i64 x.b, .int .i64 x.c, .int .i64 x.h]
  have hB := below_new w (.cells #[.int .i64 x.k, strV x.t, strV x.t2, .int .i64 x.n, .int .i64 x.a, .int .i64 x.b, .int .i64 x.c, .int .i64 x.h] 30)
  generalize hw1 : w.alloc (.cells #[.int .i64 x.k, strV x.t, strV x.t2, .int .i64 x.n, .int .i64 x.a, .int .i64 x.b, .int .i64 x.c, .int .i64 x.h] 30) = w1 at hI hB
  have hR := Blk.new w1 49 #[.int .i64 0, .bool false, .int .i64 0, .bool false, .int .i64 0, .bool false]
  have hb1 := below_new w1 (.cells #[.int .i64 0, .bool false, .int .i64 0, .bool false, .int .i64 0, .bool false] 49)
  have hB1 := next_ hB hb1
  have hI1 := hI.next hb1
  have hle := hB.size
  generalize hw2 : w1.alloc (.cells #[.int .i64 0, .bool false, .int .i64 0, .bool false, .int .i64 0, .bool false] 49) = w2 at hR hB1 hI1
  have hO := Blk.new w2 48 #[.int .i64 1, .bool false]
  have hb2 := below_new w2 (.cells #[.int .i64 1, .bool false] 48)
  have HB := Lib.hid (next_ hB1 hb2)
  have HI := Lib.hid (hI1.next hb2)
  have HR := Lib.hid (hR.next hb2)
  have HO := Lib.hid hO
  have HLE := Lib.hid hle
  clear hI1 hR hB1 hle hI hB hb1 hb2 hO
  go_enter Tryd.func20, Tryd.ntmps20
  go_upto_region 2 with fail
  clear hw1 hw2
  generalize w2.alloc (.cells #[.int .i64 1, .bool false] 48) = w3 at HO HB HI HR ⊢
  generalize w2.heap.size = ob at HO ⊢
  generalize w1.heap.size = rb at HR HLE ⊢
  generalize w.heap.size = ib at HI ⊢
  have x3 : w3.cell? ⟨ib, 3, none⟩ = some (.int .i64 x.n) := HI.out.cell 3
  have o0 : w3.cell? ⟨ob, 0, none⟩ = some (.int .i64 1) := HO.out.cell 0
  have o1 : w3.cell? ⟨ob, 1, none⟩ = some (.bool false) := HO.out.cell 1
  have r0 : w3.cell? ⟨rb, 0, none⟩ = some (.int .i64 0) := HR.out.cell 0
  have f0 := HR.out.frozen 0
  have r1 : w3.cell? ⟨rb, 1, none⟩ = some (.bool false) := HR.out.cell 1
  have f1 := HR.out.frozen 1
  have r2 : w3.cell? ⟨rb, 2, none⟩ = some (.int .i64 0) := HR.out.cell 2
  have f2 := HR.out.frozen 2
  have r3 : w3.cell? ⟨rb, 3, none⟩ = some (.bool false) := HR.out.cell 3
  have f3 := HR.out.frozen 3
  have r4 : w3.cell? ⟨rb, 4, none⟩ = some (.int .i64 0) := HR.out.cell 4
  have f4 := HR.out.frozen 4
  have r5 : w3.cell? ⟨rb, 5, none⟩ = some (.bool false) := HR.out.cell 5
  have f5 := HR.out.frozen 5
  by_cases h24 : x.k = 24
  case neg =>
    have e24 : (x.k == 24) = false := beq_false_of_ne h24
    have x0 : w3.cell? ⟨ib, 0, none⟩ = some (.int .i64 x.k) := HI.out.cell 0
    clear h24
    go_wp2_with fail
    all_goals exact bodyPost_ret (results_cell_row rfl _ _ _ 49 _ (0, 0) _ rfl (row6 HR.out) Tryd.underlying49 rfl (by kernel_rfl)) rfl (⟨_, _, _, _, _, _, rfl, low6 HLE.out HB.out⟩ : SlotsEnd w _ _)
  case pos =>
    rw [h24] at HI
    have z0 : w3.cell? ⟨ib, 0, none⟩ = some (.int .i64 24) := HI.out.cell 0
    have z1 : w3.cell? ⟨ib, 1, none⟩ = some (strV x.t) := HI.out.cell 1
    have z2 : w3.cell? ⟨ib, 2, none⟩ = some (strV x.t2) := HI.out.cell 2
    have z3 : w3.cell? ⟨ib, 3, none⟩ = some (.int .i64 x.n) := HI.out.cell 3
    have z4 : w3.cell? ⟨ib, 4, none⟩ = some (.int .i64 x.a) := HI.out.cell 4
    have z5 : w3.cell? ⟨ib, 5, none⟩ = some (.int .i64 x.b) := HI.out.cell 5
    have z6 : w3.cell? ⟨ib, 6, none⟩ = some (.int .i64 x.c) := HI.out.cell 6
    have z7 : w3.cell? ⟨ib, 7, none⟩ = some (.int .i64 x.h) := HI.out.cell 7
    go_upto_region 27 with fail
    refine wp_region_held_drew (S := fun V => V.cell? ⟨ib, 0, none⟩ = some (.int .i64 24) ∧ V.cell? ⟨ib, 1, none⟩ = some (strV x.t) ∧ V.cell? ⟨ib, 2, none⟩ = some (strV x.t2) ∧ V.cell? ⟨ib, 3, none⟩ = some (.int .i64 x.n) ∧ V.cell? ⟨ib, 4, none⟩ = some (.int .i64 x.a) ∧ V.cell? ⟨ib, 5, none⟩ = some (.int .i64 x.b) ∧ V.cell? ⟨ib, 6, none⟩ = some (.int .i64 x.c) ∧ V.cell? ⟨ib, 7, none⟩ = some (.int .i64 x.h)) (by kernel_rfl) ⟨z0, z1, z2, z3, z4, z5, z6, z7⟩ (fun hHeld => ?_)
    clear z0 z1 z2 z3 z4 z5 z6 z7 x3 o0 o1 r0 f0 r1 f1 r2 f2 r3 f3 r4 f4 r5 f5
    have HIv0 := Lib.hid HI.out.drew
    have HRv0 := Lib.hid HR.out.drew
    have HBv0 := Lib.hid (Below.drew HB.out)
    generalize w3.drew = v0 at HIv0 HRv0 HBv0 hHeld ⊢
    refine tkH 0 50 ?_ rfl ?_ ?_
    rotate_left
    · rintro V ⟨z0, z1, z2, z3, z4, z5, z6, z7⟩; go_simp; try with_reducible rfl
    try simp only [Act.put, sLA, sL0, sL1]
    refine tkH 2 52 ?_ rfl ?_ ?_
    rotate_left
    · rintro V ⟨z0, z1, z2, z3, z4, z5, z6, z7⟩; go_simp; try with_reducible rfl
    try simp only [Act.put, sLA, sL0, sL1]
    refine tkH 4 54 ?_ rfl ?_ ?_
    rotate_left
    · rintro V ⟨z0, z1, z2, z3, z4, z5, z6, z7⟩; go_simp; try with_reducible rfl
    try simp only [Act.put, sLA, sL0, sL1]
    refine wpAnyH_ready (rs := [1]) (by kernel_rfl) (by simp) ?_
    refine AllReadyH.cons (o := ⟨some 51, _, _, _, _, _⟩) rfl (fun K hK => ?_) AllReadyH.nil
    go_simp
    refine (show Calls Tryd.prog 33 #[.agg #[.int .i64 24, strV x.t, strV x.t2, .int .i64 x.n, .int .i64 x.a, .int .i64 x.b, .int .i64 x.c, .int .i64 x.h], .int .i64 0] v0 (SlotEnd v0) from c33 ⟨24, x.t, x.t2, x.n, x.a, x.b, x.c, x.h⟩ 0 v0).mono ?_
    rintro e v1 ⟨a0, b0, rfl, hb⟩
    have HIv1 := Lib.hid (HIv0.out.next hb)
    have HRv1 := Lib.hid (HRv0.out.next hb)
    have HBv1 := Lib.hid (next_ HBv0.out hb)
    clear hb
    go_wp2_with fail
    refine hK.out _ _ ?_ (fun hHeld => ?_)
    · exact ⟨HIv1.out.cell 0, HIv1.out.cell 1, HIv1.out.cell 2, HIv1.out.cell 3, HIv1.out.cell 4, HIv1.out.cell 5, HIv1.out.cell 6, HIv1.out.cell 7⟩
    clear hK K
    try simp only [Act.put, sLA, sL0, sL1]
    refine wpAnyH_ready (rs := [3]) (by kernel_rfl) (by simp) ?_
    refine AllReadyH.cons (o := ⟨some 53, _, _, _, _, _⟩) rfl (fun K hK => ?_) AllReadyH.nil
    go_simp
    refine (show Calls Tryd.prog 33 #[.agg #[.int .i64 24, strV x.t, strV x.t2, .int .i64 x.n, .int .i64 x.a, .int .i64 x.b, .int .i64 x.c, .int .i64 x.h], .int .i64 1] v1 (SlotEnd v1) from c33 ⟨24, x.t, x.t2, x.n, x.a, x.b, x.c, x.h⟩ 1 v1).mono ?_
    rintro e v2 ⟨a1, b1, rfl, hb⟩
    have HIv2 := Lib.hid (HIv1.out.next hb)
    have HRv2 := Lib.hid (HRv1.out.next hb)
    have HBv2 := Lib.hid (next_ HBv1.out hb)
    clear hb
    go_wp2_with fail
    refine hK.out _ _ ?_ (fun hHeld => ?_)
    · exact ⟨HIv2.out.cell 0, HIv2.out.cell 1, HIv2.out.cell 2, HIv2.out.cell 3, HIv2.out.cell 4, HIv2.out.cell 5, HIv2.out.cell 6, HIv2.out.cell 7⟩
    clear hK K
    try simp only [Act.put, sLA, sL0, sL1]
    refine wpAnyH_ready (rs := [5]) (by kernel_rfl) (by simp) ?_
    refine AllReadyH.cons (o := ⟨some 55, _, _, _, _, _⟩) rfl (fun K hK => ?_) AllReadyH.nil
    go_simp
    refine (show Calls Tryd.prog 33 #[.agg #[.int .i64 24, strV x.t, strV x.t2, .int .i64 x.n, .int .i64 x.a, .int .i64 x.b, .int .i64 x.c, .int .i64 x.h], .int .i64 2] v2 (SlotEnd v2) from c33 ⟨24, x.t, x.t2, x.n, x.a, x.b, x.c, x.h⟩ 2 v2).mono ?_
    rintro e v3 ⟨a2, b2, rfl, hb⟩
    have HIv3 := Lib.hid (HIv2.out.next hb)
    have HRv3 := Lib.hid (HRv2.out.next hb)
    have HBv3 := Lib.hid (next_ HBv2.out hb)
    clear hb
    go_wp2_with fail
    refine hK.out _ _ ?_ (fun hHeld => ?_)
    · exact ⟨HIv3.out.cell 0, HIv3.out.cell 1, HIv3.out.cell 2, HIv3.out.cell 3, HIv3.out.cell 4, HIv3.out.cell 5, HIv3.out.cell 6, HIv3.out.cell 7⟩
    clear hK K
    try simp only [Act.put, sLA, sL0, sL1]
    refine tkH 6 56 ?_ rfl ?_ ?_
    rotate_left
    · rintro V ⟨z0, z1, z2, z3, z4, z5, z6, z7⟩; go_simp; try with_reducible rfl
    try simp only [Act.put, sLA, sL0, sL1]
    have r0 : v3.cell? ⟨rb, 0, none⟩ = some (.int .i64 0) := HRv3.out.cell 0
    have f0 := HRv3.out.frozen 0
    have r1 : v3.cell? ⟨rb, 1, none⟩ = some (.bool false) := HRv3.out.cell 1
    have f1 := HRv3.out.frozen 1
    have r2 : v3.cell? ⟨rb, 2, none⟩ = some (.int .i64 0) := HRv3.out.cell 2
    have f2 := HRv3.out.frozen 2
    have r3 : v3.cell? ⟨rb, 3, none⟩ = some (.bool false) := HRv3.out.cell 3
    have f3 := HRv3.out.frozen 3
    have r4 : v3.cell? ⟨rb, 4, none⟩ = some (.int .i64 0) := HRv3.out.cell 4
    have f4 := HRv3.out.frozen 4
    have r5 : v3.cell? ⟨rb, 5, none⟩ = some (.bool false) := HRv3.out.cell 5
    have f5 := HRv3.out.frozen 5
    refine wpAnyH_ready (rs := [7]) (by kernel_rfl) (by simp) ?_
    refine AllReadyH.cons (o := ⟨none, _, _, _, _, _⟩) rfl (fun K hK => ?_) AllReadyH.nil
    go_simp
    have hne := HIv3.out.ne_ HRv3.out (by decide)
    refine hK.out _ _ ?_ (fun hHeld => ?_)
    · exact ⟨(far6 HIv3.out hne).cell 0, (far6 HIv3.out hne).cell 1, (far6 HIv3.out hne).cell 2, (far6 HIv3.out hne).cell 3, (far6 HIv3.out hne).cell 4, (far6 HIv3.out hne).cell 5, (far6 HIv3.out hne).cell 6, (far6 HIv3.out hne).cell 7⟩
    clear hK K
    try simp only [Act.put, sLA, sL0, sL1]
    refine wpAnyH_done (by kernel_rfl) ?_ _
    go_wp2_with fail
    exact bodyPost_ret (results_cell_row rfl _ _ _ 49 _ (0, 0) _ rfl (row6 HRv3.out) Tryd.underlying49 rfl (by kernel_rfl)) rfl (⟨_, _, _, _, _, _, rfl, low6 HLE.out HBv3.out⟩ : SlotsEnd w _ _)
def grp (k : Int) : Int := if k = 19 then 4 else if 1 ≤ k ∧ k ≤ 25 then 1 else if 26 ≤ k ∧ k ≤ 34 then 2 else if 35 ≤ k ∧ k ≤ 41 then 3 else if k = 42 then 5 else if k = 43 then 6 else 0
set_option maxRecDepth 100000 in
set_option maxHeartbeats 4000000 in
theorem c18 (k : Int) (w : World) : Calls Tryd.prog 18 #[.int .i64 k] w fun e w' => e = .returned (.int .i64 (grp k)) ∧ w = w' := by
  have hc : (k = 19) ∨ (1 ≤ k ∧ k ≤ 25 ∧ k ≠ 19) ∨ (26 ≤ k ∧ k ≤ 34) ∨ (35 ≤ k ∧ k ≤ 41) ∨ (k = 42) ∨ (k = 43) ∨ (k < 1) ∨ (44 ≤ k) := by omega
  rcases hc with rfl | h | h | h | rfl | rfl | h | h
  · have H := Lib.hid (show grp 19 = 4 from by decide)
    go_enter Tryd.func18, Tryd.ntmps18
    go_wp2_with fail
    go_ret
    exact ⟨by rw [H.out]; rfl, rfl⟩
  · have H := Lib.hid (show grp k = 1 by unfold grp; repeat (first | rw [if_pos (by omega)] | rw [if_neg (by omega)]))
    have f19 : (k == 19) = false := beq_false_of_ne (by omega)
    have f42 : (k == 42) = false := beq_false_of_ne (by omega)
    have f43 : (k == 43) = false := beq_false_of_ne (by omega)
    have a1 : 1 ≤ k := h.1
    have a2 : k ≤ 25 := h.2.1
    clear h
    go_enter Tryd.func18, Tryd.ntmps18
    go_wp2_with fail
    go_ret
    exact ⟨by rw [H.out]; rfl, rfl⟩
  · have H := Lib.hid (show grp k = 2 by unfold grp; repeat (first | rw [if_pos (by omega)] | rw [if_neg (by omega)]))
    have f19 : (k == 19) = false := beq_false_of_ne (by omega)
    have f42 : (k == 42) = false := beq_false_of_ne (by omega)
    have f43 : (k == 43) = false := beq_false_of_ne (by omega)
    have a1 : 1 ≤ k := by omega
    have a2 : ¬ k ≤ 25 := by omega
    have a3 : 26 ≤ k := h.1
    have a4 : k ≤ 34 := h.2
    clear h
    go_enter Tryd.func18, Tryd.ntmps18
    go_wp2_with fail
    go_ret
    exact ⟨by rw [H.out]; rfl, rfl⟩
  · have H := Lib.hid (show grp k = 3 by unfold grp; repeat (first | rw [if_pos (by omega)] | rw [if_neg (by omega)]))
    have f19 : (k == 19) = false := beq_false_of_ne (by omega)
    have f42 : (k == 42) = false := beq_false_of_ne (by omega)
    have f43 : (k == 43) = false := beq_false_of_ne (by omega)
    have a1 : 1 ≤ k := by omega
    have a2 : ¬ k ≤ 25 := by omega
    have a3 : 26 ≤ k := by omega
    have a4 : ¬ k ≤ 34 := by omega
    have a5 : 35 ≤ k := h.1
    have a6 : k ≤ 41 := h.2
    clear h
    go_enter Tryd.func18, Tryd.ntmps18
    go_wp2_with fail
    go_ret
    exact ⟨by rw [H.out]; rfl, rfl⟩
  · have H := Lib.hid (show grp 42 = 5 from by decide)
    go_enter Tryd.func18, Tryd.ntmps18
    go_wp2_with fail
    go_ret
    exact ⟨by rw [H.out]; rfl, rfl⟩
  · have H := Lib.hid (show grp 43 = 6 from by decide)
    go_enter Tryd.func18, Tryd.ntmps18
    go_wp2_with fail
    go_ret
    exact ⟨by rw [H.out]; rfl, rfl⟩
  · have H := Lib.hid (show grp k = 0 by unfold grp; repeat (first | rw [if_pos (by omega)] | rw [if_neg (by omega)]))
    have f19 : (k == 19) = false := beq_false_of_ne (by omega)
    have f42 : (k == 42) = false := beq_false_of_ne (by omega)
    have f43 : (k == 43) = false := beq_false_of_ne (by omega)
    have a1 : ¬ 1 ≤ k := by omega
    have a3 : ¬ 26 ≤ k := by omega
    have a5 : ¬ 35 ≤ k := by omega
    clear h
    go_enter Tryd.func18, Tryd.ntmps18
    go_wp2_with fail
    go_ret
    exact ⟨by rw [H.out]; rfl, rfl⟩
  · have H := Lib.hid (show grp k = 0 by unfold grp; repeat (first | rw [if_pos (by omega)] | rw [if_neg (by omega)]))
    have f19 : (k == 19) = false := beq_false_of_ne (by omega)
    have f42 : (k == 42) = false := beq_false_of_ne (by omega)
    have f43 : (k == 43) = false := beq_false_of_ne (by omega)
    have a1 : 1 ≤ k := by omega
    have a2 : ¬ k ≤ 25 := by omega
    have a3 : 26 ≤ k := by omega
    have a4 : ¬ k ≤ 34 := by omega
    have a5 : 35 ≤ k := by omega
    have a6 : ¬ k ≤ 41 := by omega
    clear h
    go_enter Tryd.func18, Tryd.ntmps18
    go_wp2_with fail
    go_ret
    exact ⟨by rw [H.out]; rfl, rfl⟩
structure RefN (t : Tre) : Prop where
  n1 : 1 ≤ t.l.length
  n2 : t.l.length ≤ 500
  root : t.r = (t.l.length : Int) - 1
  is_ : ∀ x, t.l[t.l.length - 1]? = some x → grp x.k = 1
  txt : ∀ (i : Nat) (x : Nod), t.l[i]? = some x → Txt x
def RGoodEnd (t : Tre) (w : World) (e : Ending) (w' : World) : Prop := ∃ b, e = .returned (.bool b) ∧ (b = true → RefN t) ∧ Below w.heap.size w w'
theorem RGoodEnd.no {t : Tre} {w w' : World} (hb : Below w.heap.size w w') : RGoodEnd t w (.returned (.bool false)) w' := ⟨false, rfl, fun h => absurd h (by decide), hb⟩
structure OwnedIs (W0 w : World) (pb n : Nat) (ps : List Int) : Prop where
  cnt : Blk w pb 3 (ps.map intV).toArray
  len : ps.length = n
  le : W0.heap.size ≤ pb
  low : Below W0.heap.size W0 w
theorem OwnedIs.next {W0 w w' : World} {pb n : Nat} {ps : List Int} (h : OwnedIs W0 w pb n ps) (hb : Below w.heap.size w w') : OwnedIs W0 w' pb n ps := ⟨h.cnt.next hb, h.len, h.le, next_ h.low hb⟩
theorem OwnedIs.drewN {W0 w : World} {pb n : Nat} {ps : List Int} (h : OwnedIs W0 w pb n ps) (k : Nat) : OwnedIs W0 (w.drewN k) pb n ps := ⟨h.cnt, h.len, h.le, below_drewN h.low k⟩
theorem OwnedIs.bumped {W0 w : World} {pb n : Nat} {ps : List Int} (h : OwnedIs W0 w pb n ps) {a : Nat} (v : Int) : ∃ ps', OwnedIs W0 (w.setCell ⟨pb, a, none⟩ (.int .i64 v)) pb n ps' := by
  refine ⟨ps.set a v, ?_, by rw [List.length_set]; exact h.len, h.le, h.low.setCell (p := ⟨pb, a, none⟩) h.le _⟩
  have h1 := h.cnt.set_ a (.int .i64 v)
  rw [List.setIfInBounds_toArray] at h1
  rw [List.map_set]
  exact h1
theorem OwnedIs.at_ {W0 w : World} {pb n : Nat} {ps : List Int} (h : OwnedIs W0 w pb n ps) {a : Nat} (ha : a < n) : ∃ v : Int, w.cell? ⟨pb, a, none⟩ = some (.int .i64 v) := by
  have hl : a < ps.length := by rw [h.len]; exact ha
  refine ⟨ps[a], ?_⟩
  rw [h.cnt.cell a]
  simp [intV, List.getElem?_eq_getElem hl]
set_option maxRecDepth 100000 in
set_option maxHeartbeats 16000000 in
theorem x7 (t : Tre) (A A' : Option Addr) (c c' : Nat) (w : World) (hT : TreIs w A A' t) (hl : t.l.length ≤ 281474976710656) (hy : t.y.length ≤ 281474976710656) (hx : ∀ p ∈ t.l, p.t.length ≤ 3000 ∧ p.t2.length ≤ 3000) :
    Calls Tryd.prog 7 #[treV A c A' c' t] w (RGoodEnd t w) := by
  have hX := Blk.new w 25 #[.slice A t.l.length c, .slice A' t.y.length c', .int .i64 t.r]
  have hb0 := below_new w (.cells #[.slice A t.l.length c, .slice A' t.y.length c', .int .i64 t.r] 25)
  have HT := Lib.hid (hT.next hb0)
  have HB0 := Lib.hid hb0
  have HX := Lib.hid hX
  have HL := Lib.hid hx
  clear hT hb0 hX hx
  show Calls Tryd.prog 7 #[.agg #[.slice A t.l.length c, .slice A' t.y.length c', .int .i64 t.r]] w _
  generalize hw0 : w.alloc (.cells #[.slice A t.l.length c, .slice A' t.y.length c', .int .i64 t.r] 25) = w0 at HT HB0 HX
  go_enter Tryd.func7, Tryd.ntmps7
  go_upto_region 1 with fail
  clear hw0
  generalize hxb : w.heap.size = xb at HX ⊢
  have HXB := Lib.hid hxb
  clear hxb
  have x0 : w0.cell? ⟨xb, 0, none⟩ = some (.slice A t.l.length c) := HX.out.cell 0
  have x2 : w0.cell? ⟨xb, 2, none⟩ = some (.int .i64 t.r) := HX.out.cell 2
  by_cases h1 : t.l.length < 1
  · have h1' : (t.l.length : Int) < 1 := by omega
    clear h1
    go_wp2_with fail
    go_ret
    exact RGoodEnd.no HB0.out
  have h1' : ¬ (t.l.length : Int) < 1 := by omega
  by_cases h2 : 500 < t.l.length
  · have h2' : (500 : Int) < (t.l.length : Int) := by omega
    clear h2
    go_wp2_with fail
    go_ret
    exact RGoodEnd.no HB0.out
  have h2' : ¬ (500 : Int) < (t.l.length : Int) := by omega
  have hsub : wrap64 ((t.l.length : Int) - 1) = (t.l.length : Int) - 1 := by unfold wrap64; omega
  by_cases h3 : t.r = (t.l.length : Int) - 1
  case neg =>
    have h3' : (t.r == (t.l.length : Int) - 1) = false := beq_false_of_ne h3
    have h3'' : (t.r != (t.l.length : Int) - 1) = true := bne_iff_ne.2 h3
    clear h3
    go_wp2_with fail
    go_ret
    exact RGoodEnd.no HB0.out
  have HR := Lib.hid h3
  obtain ⟨rn, hrn⟩ : ∃ rn : Nat, (t.l.length : Int) - 1 = (rn : Int) := ⟨t.l.length - 1, by omega⟩
  have hrl : rn < t.l.length := by omega
  rw [h3, hrn] at x2
  rw [hrn] at hsub
  have HRN := Lib.hid hrn
  clear h3
  have hxr : t.l[rn]? = some t.l[rn] := List.getElem?_eq_getElem hrl
  generalize t.l[rn] = x at hxr
  have HXR := Lib.hid hxr
  obtain ⟨ad, rfl, _, hcs⟩ := HT.out.nodes.nodAt hxr
  have a0 : w0.cell? (ad.add (rn * 8)) = some (.int .i64 x.k) := by have h9 := hcs 0 _ rfl; rw [add_of_add] at h9; simpa using h9
  have hrr : ((rn : Int) != (rn : Int)) = false := by simp
  have r0 : (0 : Int) ≤ (rn : Int) := by omega
  have r1 : (rn : Int) < (t.l.length : Int) := by omega
  clear hcs hxr
  go_wp2_with fail
  refine (c18 x.k w0).mono ?_
  rintro e _ ⟨rfl, rfl⟩
  by_cases hg : grp x.k = 1
  case neg =>
    have g1 : (grp x.k == 1) = false := beq_false_of_ne hg
    have g2 : (grp x.k != 1) = true := bne_iff_ne.2 hg
    clear hg
    go_wp2_with fail
    go_ret
    exact RGoodEnd.no HB0.out
  have HG := Lib.hid (show (∀ (i : Nat) (x : Nod), t.l[i]? = some x → Txt x) → RefN t from fun htx => ⟨by omega, by omega, HR.out, fun y hy => by
    rw [show t.l.length - 1 = rn by omega, HXR.out] at hy
    obtain rfl := Option.some.inj hy
    exact hg, htx⟩)
  have g1 : (grp x.k == 1) = true := beq_iff_eq.2 hg
  have g2 : (grp x.k != 1) = false := by rw [hg]; rfl
  have hmk := run_ints t.l.length (by omega) w0
  have hP := Blk.new w0 3 ((List.replicate t.l.length (0 : Int)).map intV).toArray
  have hb4 := below_new w0 (.cells ((List.replicate t.l.length (0 : Int)).map intV).toArray 3)
  generalize hw4 : w0.alloc (.cells ((List.replicate t.l.length (0 : Int)).map intV).toArray 3) = w4 at hP hb4 hmk
  have HO4 := Lib.hid (show OwnedIs w0 w4 w0.heap.size t.l.length (List.replicate t.l.length (0 : Int)) from ⟨hP, by simp, Nat.le_refl _, hb4⟩)
  clear hP hb4 hg x0 x2 a0
  go_upto_region 5 with fail
  clear hmk hw4 g1 g2
  generalize w0.heap.size = pb at HO4 ⊢
  go_wp2_with fail
  go_loopw [5] (fun i wr => ∃ (k : Nat) (ps : List Int), k ≤ t.l.length ∧ i = .int .i64 k ∧ OwnedIs w0 wr pb t.l.length ps ∧ ∀ (i : Nat) (x : Nod), i < k → t.l[i]? = some x → Txt x) (fun i _ => t.l.length - (intOf i).toNat)
  case atStart => exact ⟨0, _, by omega, rfl, HO4.out, fun i x h => absurd h (Nat.not_lt_zero i)⟩
  case round =>
    obtain ⟨k, ps, hk, rfl, hO, htx⟩ := hrel
    have HO := Lib.hid hO
    have HTX := Lib.hid htx
    clear hO HO4 htx
    by_cases hlt : k < t.l.length
    case pos =>
      have hlk : (k : Int) < (t.l.length : Int) := by omega
      have hk0 : (0 : Int) ≤ (k : Int) := by omega
      have hxk : t.l[k]? = some t.l[k] := List.getElem?_eq_getElem hlt
      have hxm := HL.out _ (List.getElem_mem hlt)
      generalize t.l[k] = x at hxk hxm
      obtain ⟨ad', e', _, hcs⟩ := (HT.out.next HO.out.low).nodes.nodAt hxk
      cases e'
      have HCS := Lib.hid hcs
      have HXM := Lib.hid hxm
      have HXK := Lib.hid hxk
      clear hcs hxk hxm
      have y0 : wr.cell? ⟨xb, 0, none⟩ = some (.slice (some ad) t.l.length c) := (HX.out.next HO.out.low).cell 0
      have hN := Blk.new wr 30 #[.int .i64 x.k, strV x.t, strV x.t2, .int .i64 x.n, .int .i64 x.a, .int .i64 x.b, .int .i64 x.c, .int .i64 x.h]
      have hb1 := below_new wr (.cells #[.int .i64 x.k, strV x.t, strV x.t2, .int .i64 x.n, .int .i64 x.a, .int .i64 x.b, .int .i64 x.c, .int .i64 x.h] 30)
      have HO1 := Lib.hid (HO.out.next hb1)
      generalize hw1 : wr.alloc (.cells #[.int .i64 x.k, strV x.t, strV x.t2, .int .i64 x.n, .int .i64 x.a, .int .i64 x.b, .int .i64 x.c, .int .i64 x.h] 30) = w1 at hN HO1
      have HN1 := Lib.hid hN
      clear hN hb1
      go_upto_region 9 with (first | (refine wpList_load_at rfl 30 (.tmp 50) rfl (ad.add (k * 8)) rfl [.int .i64 x.k, strV x.t, strV x.t2, .int .i64 x.n, .int .i64 x.a, .int .i64 x.b, .int .i64 x.c, .int .i64 x.h] _ HCS.out Tryd.underlying30 rfl (by kernel_rfl) ?_))
      clear hw1 y0
      generalize wr.heap.size = nb at HN1 ⊢
      have n0 : w1.cell? ⟨nb, 0, none⟩ = some (.int .i64 x.k) := HN1.out.cell 0
      have n1 : w1.cell? ⟨nb, 1, none⟩ = some (strV x.t) := HN1.out.cell 1
      have n2 : w1.cell? ⟨nb, 2, none⟩ = some (strV x.t2) := HN1.out.cell 2
      have n3 : w1.cell? ⟨nb, 3, none⟩ = some (.int .i64 x.n) := HN1.out.cell 3
      have n4 : w1.cell? ⟨nb, 4, none⟩ = some (.int .i64 x.a) := HN1.out.cell 4
      have n5 : w1.cell? ⟨nb, 5, none⟩ = some (.int .i64 x.b) := HN1.out.cell 5
      have n6 : w1.cell? ⟨nb, 6, none⟩ = some (.int .i64 x.c) := HN1.out.cell 6
      have n7 : w1.cell? ⟨nb, 7, none⟩ = some (.int .i64 x.h) := HN1.out.cell 7
      go_wp2_with fail
      refine (c18 x.k w1).mono ?_
      rintro e _ ⟨rfl, rfl⟩
      by_cases hg0 : grp x.k = 0
      · have q1 : (grp x.k == 0) = true := beq_iff_eq.2 hg0
        clear hg0
        go_wp2_with fail
        go_ret
        exact RGoodEnd.no (next_ HB0.out HO1.out.low)
      have q1 : (grp x.k == 0) = false := beq_false_of_ne hg0
      clear hg0
      go_wp2_with fail
      refine (show Calls Tryd.prog 19 #[.agg #[.int .i64 x.k, strV x.t, strV x.t2, .int .i64 x.n, .int .i64 x.a, .int .i64 x.b, .int .i64 x.c, .int .i64 x.h]] w1 (TxtEnd x w1) from x19 x HXM.out.1 HXM.out.2 w1).mono ?_
      rintro e w2 ⟨b, rfl, hb2, htb⟩
      have HTB := Lib.hid htb
      clear htb
      have HO2 := Lib.hid (HO1.out.next hb2)
      have HN2 := Lib.hid (HN1.out.next hb2)
      clear n0 n1 n2 n3 n4 n5 n6 n7
      clear hb2 HO1 HN1 q1
      cases b with
      | false =>
        go_wp2_with fail
        go_ret
        exact RGoodEnd.no (next_ HB0.out HO2.out.low)
      | true =>
      have HTB2 := Lib.hid (HTB.out rfl)
      clear HTB
      have n0 : w2.cell? ⟨nb, 0, none⟩ = some (.int .i64 x.k) := HN2.out.cell 0
      have n1 : w2.cell? ⟨nb, 1, none⟩ = some (strV x.t) := HN2.out.cell 1
      have n2 : w2.cell? ⟨nb, 2, none⟩ = some (strV x.t2) := HN2.out.cell 2
      have n3 : w2.cell? ⟨nb, 3, none⟩ = some (.int .i64 x.n) := HN2.out.cell 3
      have n4 : w2.cell? ⟨nb, 4, none⟩ = some (.int .i64 x.a) := HN2.out.cell 4
      have n5 : w2.cell? ⟨nb, 5, none⟩ = some (.int .i64 x.b) := HN2.out.cell 5
      have n6 : w2.cell? ⟨nb, 6, none⟩ = some (.int .i64 x.c) := HN2.out.cell 6
      have n7 : w2.cell? ⟨nb, 7, none⟩ = some (.int .i64 x.h) := HN2.out.cell 7
      go_wp2_with fail
      refine (show Calls Tryd.prog 20 #[.agg #[.int .i64 x.k, strV x.t, strV x.t2, .int .i64 x.n, .int .i64 x.a, .int .i64 x.b, .int .i64 x.c, .int .i64 x.h]] w2 (SlotsEnd w2) from c20 x w2).mono ?_
      rintro e w3 ⟨s0, m0, s1, m1, s2, m2, rfl, hb3⟩
      have HO3 := Lib.hid (HO2.out.next hb3)
      have HN3 := Lib.hid (HN2.out.next hb3)
      clear n0 n1 n2 n3 n4 n5 n6 n7
      clear hb3 HO2 HN2
      have hS := Blk.new w3 49 #[.int .i64 s0, .bool m0, .int .i64 s1, .bool m1, .int .i64 s2, .bool m2]
      have hb4 := below_new w3 (.cells #[.int .i64 s0, .bool m0, .int .i64 s1, .bool m1, .int .i64 s2, .bool m2] 49)
      have HO4 := Lib.hid (HO3.out.next hb4)
      have HN4 := Lib.hid (HN3.out.next hb4)
      generalize hw4 : w3.alloc (.cells #[.int .i64 s0, .bool m0, .int .i64 s1, .bool m1, .int .i64 s2, .bool m2] 49) = w4 at hS HO4 HN4
      have HS4 := Lib.hid hS
      clear hS hb4
      go_upto_region 12 with fail
      clear hw4
      generalize w3.heap.size = sb at HS4 ⊢
      have n0 : w4.cell? ⟨nb, 0, none⟩ = some (.int .i64 x.k) := HN4.out.cell 0
      have n1 : w4.cell? ⟨nb, 1, none⟩ = some (strV x.t) := HN4.out.cell 1
      have n2 : w4.cell? ⟨nb, 2, none⟩ = some (strV x.t2) := HN4.out.cell 2
      have n3 : w4.cell? ⟨nb, 3, none⟩ = some (.int .i64 x.n) := HN4.out.cell 3
      have n4 : w4.cell? ⟨nb, 4, none⟩ = some (.int .i64 x.a) := HN4.out.cell 4
      have n5 : w4.cell? ⟨nb, 5, none⟩ = some (.int .i64 x.b) := HN4.out.cell 5
      have n6 : w4.cell? ⟨nb, 6, none⟩ = some (.int .i64 x.c) := HN4.out.cell 6
      have n7 : w4.cell? ⟨nb, 7, none⟩ = some (.int .i64 x.h) := HN4.out.cell 7
      have hA := Blk.new w4 51 #[.int .i64 x.a, .int .i64 x.b, .int .i64 x.c]
      have hb5 := below_new w4 (.cells #[.int .i64 x.a, .int .i64 x.b, .int .i64 x.c] 51)
      have HO5 := Lib.hid (HO4.out.next hb5)
      have HS5 := Lib.hid (HS4.out.next hb5)
      generalize hw5 : w4.alloc (.cells #[.int .i64 x.a, .int .i64 x.b, .int .i64 x.c] 51) = w5 at hA HO5 HS5
      have HA5 := Lib.hid hA
      clear hA hb5
      go_upto_region 13 with fail
      clear hw5
      generalize w4.heap.size = ab at HA5 ⊢
      clear n0 n1 n2 n3 n4 n5 n6 n7
      clear HO4 HN4 HS4 HO3 HN3
      go_wp2_with fail
      go_loopw [9] (fun i wr => ∃ (q : Nat) (ps : List Int), q ≤ 3 ∧ i = .int .i64 q ∧ OwnedIs w0 wr pb t.l.length ps ∧ Blk wr sb 49 #[.int .i64 s0, .bool m0, .int .i64 s1, .bool m1, .int .i64 s2, .bool m2] ∧ Blk wr ab 51 #[.int .i64 x.a, .int .i64 x.b, .int .i64 x.c]) (fun i _ => 3 - (intOf i).toNat)
      case atStart => exact ⟨0, _, by omega, rfl, HO5.out, HS5.out, HA5.out⟩
      case round =>
        obtain ⟨q, ps, hq, rfl, hO, hS, hA⟩ := hrel
        have HO := Lib.hid hO
        have HS := Lib.hid hS
        have HA := Lib.hid hA
        clear hO hS hA HO5 HS5 HA5
        by_cases hq3 : q < 3
        case neg =>
          obtain rfl : q = 3 := by omega
          go_wp2_with fail
          go_roundw
          case rel => exact ⟨k + 1, _, by omega, by go_num, HO.out, fun i y hi hy => by
            by_cases h3 : i = k
            · subst h3
              rw [HXK.out] at hy
              obtain rfl := Option.some.inj hy
              exact HTB2.out
            · exact HTX.out i y (by omega) hy⟩
          case measure => simp [intOf]; omega
        case pos =>
          have hq1 : (q : Int) < 3 := by omega
          have hq0 : (0 : Int) ≤ (q : Int) := by omega
          obtain ⟨gq, m, at_, hz0, hz1, hz2⟩ : ∃ (gq : Int) (m : Bool) (at_ : Int), wr.cell? ⟨sb, q * 2, none⟩ = some (.int .i64 gq) ∧ wr.cell? ⟨sb, q * 2 + 1, none⟩ = some (.bool m) ∧ wr.cell? ⟨ab, q, none⟩ = some (.int .i64 at_) := by
            rcases (by omega : q = 0 ∨ q = 1 ∨ q = 2) with rfl | rfl | rfl
            · exact ⟨_, _, _, HS.out.cell 0, HS.out.cell 1, HA.out.cell 0⟩
            · exact ⟨_, _, _, HS.out.cell 2, HS.out.cell 3, HA.out.cell 1⟩
            · exact ⟨_, _, _, HS.out.cell 4, HS.out.cell 5, HA.out.cell 2⟩
          cases m with
          | true =>
            by_cases hm : at_ = -1
            · have e4 : (at_ == -1) = true := beq_iff_eq.2 hm
              clear hm
              go_wp2_with fail
              go_roundw
              case rel => exact ⟨q + 1, _, by omega, by go_num, HO.out, HS.out, HA.out⟩
              case measure => simp [intOf]; omega
            have e4 : (at_ == -1) = false := beq_false_of_ne hm
            clear hm
            by_cases hgq : gq = 0
            · have e1 : (gq == 0) = true := beq_iff_eq.2 hgq
              clear hgq
              go_wp2_with fail
              go_ret
              exact RGoodEnd.no (next_ HB0.out HO.out.low)
            have e1 : (gq == 0) = false := beq_false_of_ne hgq
            clear hgq
            have y0 : wr.cell? ⟨xb, 0, none⟩ = some (.slice (some ad) t.l.length c) := (HX.out.next HO.out.low).cell 0
            by_cases hlo : at_ < 0
            · go_upto_region 21 with fail
              go_quiet (fail)
              have HOq := Lib.hid (HO.out.drewN nq)
              go_wp2_with fail
              go_ret
              exact RGoodEnd.no (next_ HB0.out HOq.out.low)
            by_cases hhi : (k : Int) ≤ at_
            · go_upto_region 21 with fail
              go_quiet (fail)
              have HOq := Lib.hid (HO.out.drewN nq)
              go_wp2_with fail
              go_ret
              exact RGoodEnd.no (next_ HB0.out HOq.out.low)
            obtain ⟨a, rfl⟩ : ∃ a : Nat, at_ = (a : Int) := ⟨at_.toNat, by omega⟩
            have hal : a < t.l.length := by omega
            have ha0 : (0 : Int) ≤ (a : Int) := by omega
            have ha1 : (a : Int) < (t.l.length : Int) := by omega
            have hya : t.l[a]? = some t.l[a] := List.getElem?_eq_getElem hal
            generalize t.l[a] = y at hya
            obtain ⟨ad2, e2, _, hcs⟩ := (HT.out.next HO.out.low).nodes.nodAt hya
            cases e2
            have ya : wr.cell? (ad.add (a * 8)) = some (.int .i64 y.k) := by have h9 := hcs 0 _ rfl; rw [add_of_add] at h9; simpa using h9
            clear hcs hya
            obtain ⟨v, hv⟩ := HO.out.at_ hal
            have hvf := HO.out.cnt.frozen a
            go_upto_region 21 with fail
            go_quiet ((go_at_call 18; exact Calls.quiet_of_same ((c18 _ _).mono (fun _ _ h => ⟨h.1, h.2.symm⟩))))
            have HOq := Lib.hid (HO.out.drewN nq)
            have HSq := Lib.hid (HS.out.drewN nq)
            have HAq := Lib.hid (HA.out.drewN nq)
            have hv' : (wr.drewN nq).cell? ⟨pb, a, none⟩ = some (.int .i64 v) := hv
            have hvf' : (wr.drewN nq).frozen? ⟨pb, a, none⟩ = false := hvf
            have hz2' : (wr.drewN nq).cell? ⟨ab, q, none⟩ = some (.int .i64 (a : Int)) := hz2
            clear y0 hv hvf hz0 hz1 hz2 ya
            generalize wr.drewN nq = w8 at HOq HSq HAq hv' hvf' hz2' ⊢
            by_cases hgy : grp y.k = gq
            · have f1 : (grp y.k == gq) = true := beq_iff_eq.2 hgy
              have f2 : (grp y.k != gq) = false := by rw [hgy]; simp
              clear hgy
              obtain ⟨ps', hO'⟩ := HOq.out.bumped (a := a) (wrap64 (v + 1))
              have HO' := Lib.hid hO'
              have HS' := Lib.hid (HSq.out.far (p := ⟨pb, a, none⟩) (HSq.out.ne_ HOq.out.cnt (by decide)) (.int .i64 (wrap64 (v + 1))))
              have HA' := Lib.hid (HAq.out.far (p := ⟨pb, a, none⟩) (HAq.out.ne_ HOq.out.cnt (by decide)) (.int .i64 (wrap64 (v + 1))))
              clear hO'
              go_wp2_with fail
              go_roundw
              case rel => exact ⟨q + 1, _, by omega, by go_num, HO'.out, HS'.out, HA'.out⟩
              case measure => simp [intOf]; omega
            · have f1 : (grp y.k == gq) = false := beq_false_of_ne hgy
              have f2 : (grp y.k != gq) = true := bne_iff_ne.2 hgy
              clear hgy
              go_wp2_with fail
              go_ret
              exact RGoodEnd.no (next_ HB0.out HOq.out.low)
          | false =>
            by_cases hgq : gq = 0
            · have e1 : (gq == 0) = true := beq_iff_eq.2 hgq
              clear hgq
              by_cases ha0 : at_ = 0
              · have e2 : (at_ == 0) = true := beq_iff_eq.2 ha0
                have e3 : (at_ != 0) = false := by rw [ha0]; rfl
                clear ha0
                go_wp2_with fail
                go_roundw
                case rel => exact ⟨q + 1, _, by omega, by go_num, HO.out, HS.out, HA.out⟩
                case measure => simp [intOf]; omega
              · have e2 : (at_ == 0) = false := beq_false_of_ne ha0
                have e3 : (at_ != 0) = true := bne_iff_ne.2 ha0
                clear ha0
                go_wp2_with fail
                go_ret
                exact RGoodEnd.no (next_ HB0.out HO.out.low)
            have e1 : (gq == 0) = false := beq_false_of_ne hgq
            clear hgq
            have y0 : wr.cell? ⟨xb, 0, none⟩ = some (.slice (some ad) t.l.length c) := (HX.out.next HO.out.low).cell 0
            by_cases hlo : at_ < 0
            · go_upto_region 21 with fail
              go_quiet (fail)
              have HOq := Lib.hid (HO.out.drewN nq)
              go_wp2_with fail
              go_ret
              exact RGoodEnd.no (next_ HB0.out HOq.out.low)
            by_cases hhi : (k : Int) ≤ at_
            · go_upto_region 21 with fail
              go_quiet (fail)
              have HOq := Lib.hid (HO.out.drewN nq)
              go_wp2_with fail
              go_ret
              exact RGoodEnd.no (next_ HB0.out HOq.out.low)
            obtain ⟨a, rfl⟩ : ∃ a : Nat, at_ = (a : Int) := ⟨at_.toNat, by omega⟩
            have hal : a < t.l.length := by omega
            have ha0 : (0 : Int) ≤ (a : Int) := by omega
            have ha1 : (a : Int) < (t.l.length : Int) := by omega
            have hya : t.l[a]? = some t.l[a] := List.getElem?_eq_getElem hal
            generalize t.l[a] = y at hya
            obtain ⟨ad2, e2, _, hcs⟩ := (HT.out.next HO.out.low).nodes.nodAt hya
            cases e2
            have ya : wr.cell? (ad.add (a * 8)) = some (.int .i64 y.k) := by have h9 := hcs 0 _ rfl; rw [add_of_add] at h9; simpa using h9
            clear hcs hya
            obtain ⟨v, hv⟩ := HO.out.at_ hal
            have hvf := HO.out.cnt.frozen a
            go_upto_region 21 with fail
            go_quiet ((go_at_call 18; exact Calls.quiet_of_same ((c18 _ _).mono (fun _ _ h => ⟨h.1, h.2.symm⟩))))
            have HOq := Lib.hid (HO.out.drewN nq)
            have HSq := Lib.hid (HS.out.drewN nq)
            have HAq := Lib.hid (HA.out.drewN nq)
            have hv' : (wr.drewN nq).cell? ⟨pb, a, none⟩ = some (.int .i64 v) := hv
            have hvf' : (wr.drewN nq).frozen? ⟨pb, a, none⟩ = false := hvf
            have hz2' : (wr.drewN nq).cell? ⟨ab, q, none⟩ = some (.int .i64 (a : Int)) := hz2
            clear y0 hv hvf hz0 hz1 hz2 ya
            generalize wr.drewN nq = w8 at HOq HSq HAq hv' hvf' hz2' ⊢
            by_cases hgy : grp y.k = gq
            · have f1 : (grp y.k == gq) = true := beq_iff_eq.2 hgy
              have f2 : (grp y.k != gq) = false := by rw [hgy]; simp
              clear hgy
              obtain ⟨ps', hO'⟩ := HOq.out.bumped (a := a) (wrap64 (v + 1))
              have HO' := Lib.hid hO'
              have HS' := Lib.hid (HSq.out.far (p := ⟨pb, a, none⟩) (HSq.out.ne_ HOq.out.cnt (by decide)) (.int .i64 (wrap64 (v + 1))))
              have HA' := Lib.hid (HAq.out.far (p := ⟨pb, a, none⟩) (HAq.out.ne_ HOq.out.cnt (by decide)) (.int .i64 (wrap64 (v + 1))))
              clear hO'
              go_wp2_with fail
              go_roundw
              case rel => exact ⟨q + 1, _, by omega, by go_num, HO'.out, HS'.out, HA'.out⟩
              case measure => simp [intOf]; omega
            · have f1 : (grp y.k == gq) = false := beq_false_of_ne hgy
              have f2 : (grp y.k != gq) = true := bne_iff_ne.2 hgy
              clear hgy
              go_wp2_with fail
              go_ret
              exact RGoodEnd.no (next_ HB0.out HOq.out.low)
    case neg =>
      obtain rfl : k = t.l.length := by omega
      have hlk : ¬ ((t.l.length : Int) < (t.l.length : Int)) := by omega
      have x2 : wr.cell? ⟨xb, 2, none⟩ = some (.int .i64 (rn : Int)) := by rw [← hrn, ← HR.out]; exact (HX.out.next HO.out.low).cell 2
      obtain ⟨v, hv⟩ := HO.out.at_ hrl
      have hvf := HO.out.cnt.frozen rn
      obtain ⟨ps1, hO1⟩ := HO.out.bumped (a := rn) (wrap64 (v + 1))
      have HO1 := Lib.hid hO1
      clear hO1
      go_upto_region 24 with fail
      clear x2 hv hvf
      generalize wr.setCell ⟨pb, rn, none⟩ (.int .i64 (wrap64 (v + 1))) = w1 at HO1 ⊢
      go_wp2_with fail
      go_loopw [10] (fun i wr => ∃ (j : Nat) (ps : List Int), j ≤ t.y.length ∧ i = .int .i64 j ∧ OwnedIs w0 wr pb t.l.length ps) (fun i _ => t.y.length - (intOf i).toNat)
      case atStart => exact ⟨0, _, by omega, rfl, HO1.out⟩
      case round =>
        obtain ⟨j, ps, hj, rfl, hO⟩ := hrel
        have HO := Lib.hid hO
        clear hO HO1
        have y1 : wr.cell? ⟨xb, 1, none⟩ = some (.slice A' t.y.length c') := (HX.out.next HO.out.low).cell 1
        have y0 : wr.cell? ⟨xb, 0, none⟩ = some (.slice (some ad) t.l.length c) := (HX.out.next HO.out.low).cell 0
        by_cases hjt : j < t.y.length
        case pos =>
          have hj1 : (j : Int) < (t.y.length : Int) := by omega
          have hj0 : (0 : Int) ≤ (j : Int) := by omega
          obtain ⟨ay, u, rfl, _, hu, hcell⟩ := (HT.out.next HO.out.low).types.at_ hjt
          have hyj : t.y[j]? = some t.y[j] := List.getElem?_eq_getElem hjt
          rw [List.getElem?_map, hyj] at hu
          obtain rfl := Option.some.inj hu
          generalize t.y[j] = z at hcell
          replace hcell : wr.cell? (ay.add j) = some (.int .i64 z) := hcell
          clear hu hyj
          by_cases hz0 : z < 0
          · go_wp2_with fail
            go_ret
            exact RGoodEnd.no (next_ HB0.out HO.out.low)
          by_cases hzn : (t.l.length : Int) ≤ z
          · go_wp2_with fail
            go_ret
            exact RGoodEnd.no (next_ HB0.out HO.out.low)
          obtain ⟨zn, rfl⟩ : ∃ zn : Nat, z = (zn : Int) := ⟨z.toNat, by omega⟩
          have hzl : zn < t.l.length := by omega
          have hz1 : (0 : Int) ≤ (zn : Int) := by omega
          have hz2 : (zn : Int) < (t.l.length : Int) := by omega
          have hya : t.l[zn]? = some t.l[zn] := List.getElem?_eq_getElem hzl
          generalize t.l[zn] = y at hya
          obtain ⟨ad2, e2, _, hcs⟩ := (HT.out.next HO.out.low).nodes.nodAt hya
          cases e2
          have ya : wr.cell? (ad.add (zn * 8)) = some (.int .i64 y.k) := by have h9 := hcs 0 _ rfl; rw [add_of_add] at h9; simpa using h9
          clear hcs hya
          obtain ⟨v2, hv⟩ := HO.out.at_ hzl
          have hvf := HO.out.cnt.frozen zn
          obtain ⟨ps2, hO2⟩ := HO.out.bumped (a := zn) (wrap64 (v2 + 1))
          have HO2 := Lib.hid hO2
          clear hO2
          by_cases hjz : 0 < j
          · have f0 : (0 : Int) < (j : Int) := by omega
            obtain ⟨jp, hjp⟩ : ∃ jp : Nat, (j : Int) - 1 = (jp : Int) := ⟨j - 1, by omega⟩
            have hjpl : jp < t.y.length := by omega
            obtain ⟨ay2, u2, e3, _, hu2, hcell2⟩ := (HT.out.next HO.out.low).types.at_ hjpl
            cases e3
            have hyj2 : t.y[jp]? = some t.y[jp] := List.getElem?_eq_getElem hjpl
            rw [List.getElem?_map, hyj2] at hu2
            obtain rfl := Option.some.inj hu2
            generalize t.y[jp] = z2 at hcell2
            replace hcell2 : wr.cell? (ay.add jp) = some (.int .i64 z2) := hcell2
            have hjs : wrap64 ((j : Int) - 1) = (jp : Int) := by rw [hjp]; unfold wrap64; omega
            have hjp0 : (0 : Int) ≤ (jp : Int) := by omega
            have hjp1 : (jp : Int) < (t.y.length : Int) := by omega
            clear hu2 hyj2
            go_wp2_with fail
            all_goals first
              | (go_ret; exact RGoodEnd.no (next_ HB0.out HO.out.low))
              | exact ⟨⟨j + 1, _, by omega, by go_num, HO2.out⟩, by simp [intOf]; omega⟩
          · have f0 : ¬ (0 : Int) < (j : Int) := by omega
            go_wp2_with fail
            all_goals first
              | (go_ret; exact RGoodEnd.no (next_ HB0.out HO.out.low))
              | exact ⟨⟨j + 1, _, by omega, by go_num, HO2.out⟩, by simp [intOf]; omega⟩
        case neg =>
          obtain rfl : j = t.y.length := by omega
          have hjt2 : ¬ ((t.y.length : Int) < (t.y.length : Int)) := by omega
          go_wp2_with fail
          go_loopw [12] (fun i w' => ∃ j : Nat, j ≤ t.l.length ∧ i = .int .i64 j ∧ w' = wr) (fun i _ => t.l.length - (intOf i).toNat)
          case atStart => exact ⟨0, by omega, rfl, rfl⟩
          case round =>
            obtain ⟨j, hj, rfl, rfl⟩ := hrel
            by_cases hjl : j < t.l.length
            · have hj1 : (j : Int) < (t.l.length : Int) := by omega
              have hj0 : (0 : Int) ≤ (j : Int) := by omega
              obtain ⟨v3, hv⟩ := HO.out.at_ hjl
              go_wp2_with fail
              all_goals first
                | (go_ret; exact RGoodEnd.no (next_ HB0.out HO.out.low))
                | exact ⟨⟨j + 1, by omega, by go_num, by first | rfl | trivial⟩, by simp [intOf]; omega⟩
            · obtain rfl : j = t.l.length := by omega
              have hj1 : ¬ ((t.l.length : Int) < (t.l.length : Int)) := by omega
              go_wp2_with fail
              go_ret
              exact ⟨true, rfl, fun _ => HG.out (fun i x hi => HTX.out i x (List.getElem?_eq_some_iff.1 hi).1 hi), next_ HB0.out HO.out.low⟩
set_option maxRecDepth 100000 in
theorem words_own : wordsL.all ownL = true := by kernel_rfl
theorem sg_l {x : Int} (h : (sB x || gB x) = true) : lB x = true := by
  unfold sB at h
  unfold lB
  revert h
  cases (decide (97 ≤ x) && decide (x ≤ 122)) <;> cases (x == 95) <;> cases (gB x) <;> simp
theorem v_w {x : Int} (h : vB x = true) : wB x = true := by
  unfold vB sB at h
  unfold wB lB
  revert h
  cases (decide (97 ≤ x) && decide (x ≤ 122)) <;> cases (x == 95) <;> cases (gB x) <;> cases (dB x) <;> simp
theorem while_all {p : Int → Bool} : ∀ {l : List UInt8}, whileB p l = l → ∀ c ∈ l, p (cI c) = true := by
  intro l h c hc
  have h1 : l.takeWhile (fun c => p (cI c)) = l := h
  have h2 := List.all_takeWhile (p := fun c => p (cI c)) (l := l)
  rw [h1] at h2
  exact List.all_eq_true.1 h2 c hc
theorem take_all {l : List UInt8} {p : UInt8 → Bool} (h : ∀ c ∈ l, p c = true) : l.takeWhile p = l := by
  induction l with
  | nil => rfl
  | cons c l ih =>
    rw [List.takeWhile_cons, if_pos (h c (List.mem_cons_self ..)), ih (fun x hx => h x (List.mem_cons_of_mem _ hx))]
set_option maxRecDepth 100000 in
theorem name_isL {s : List UInt8} (h : NameOk ⟨s.toArray⟩) : isL s 1 = true := by
  obtain ⟨n, hn⟩ := h
  have hs : lis ⟨s.toArray⟩ = s := rfl
  rw [hs] at hn
  cases s with
  | nil => cases hn
  | cons c r =>
    simp only [stepL] at hn
    split at hn
    · injection hn with hn; injection hn
    split at hn
    · injection hn
    split at hn
    · rename_i hc
      split at hn
      · injection hn with hn; injection hn
      rename_i h12
      injection hn with hn
      injection hn with h1 h2 h3
      injection h2 with _ h2
      rw [h2] at h1 h12
      simp only [Bool.and_eq_true, Bool.not_eq_true', Bool.and_eq_false_iff] at hc
      obtain ⟨hc1, hc2⟩ := hc
      have hown : ownL (c :: r) = false := by
        cases ho : ownL (c :: r) with
        | false => rfl
        | true => rw [ho, if_pos rfl] at h1; exact absurd h1 (by decide)
      rw [hown, if_neg (by decide)] at h1
      have hg : gB (cI c) = false := by
        cases hg : gB (cI c) with
        | false => rfl
        | true => rw [hg, if_pos rfl] at h1; exact absurd h1 (by decide)
      have hl : lB (byteI c) = true := sg_l hc1
      have hrun : runL (c :: r) = (c :: r).length := by
        unfold runL
        rw [take_all]
        intro b hb
        rcases List.mem_cons.1 hb with rfl | hb
        · unfold wB; rw [hl]; rfl
        · exact v_w (while_all h2 b hb)
      have hne : (c :: r) ≠ [95] := by
        intro e
        injection e with e1 e2
        subst e1 e2
        rcases hc2 with h | h
        · exact absurd h (by decide)
        · exact absurd h (by decide)
      have hw : (c :: r) ∉ wordsL := by
        intro hm
        have := List.all_eq_true.1 words_own _ hm
        rw [hown] at this
        cases this
      have hk : kindL (c :: r) = 1 := by
        unfold kindL
        rw [if_neg hne, if_neg hw, if_neg (by rw [show byteI ((c :: r).headD 0) = cI c from rfl, hg]; decide)]
      unfold isL
      rw [hrun, hk]
      have h13 : (c :: r).length ≤ 12 := by omega
      simp [hl, h13]
      simpa using h13
    split at hn
    · split at hn
      · split at hn
        · injection hn with hn; injection hn
        · injection hn with hn
          injection hn with h1
          exact absurd h1 (by decide)
      · injection hn
    split at hn
    · injection hn
    split at hn
    · injection hn with hn; injection hn
    · injection hn with hn
      injection hn with h1
      exact absurd h1 (by decide)
theorem txt_text {x : Nod} (hk : x.k = 10) (h : Txt x) : textQ x.t 2 = true := by
  unfold textQ textL
  rw [if_neg (by decide), if_neg (by decide), if_pos rfl]
  rcases h hk with h | h
  · rw [name_isL h]; simp
  · rw [h]; rfl
def funN (name : List UInt8) (r : Int) : Nod := ⟨10, name, [], 0, r, 0, 0, 0⟩
def ext (a : Tre) (z : Nod) : Tre := ⟨a.l ++ [z], a.y, (a.l.length : Int)⟩
section
variable {a : Tre} {z : Nod}
theorem ext_len : (ext a z).l.length = a.l.length + 1 := by simp [ext]
theorem ext_get {k : Nat} (h : k < a.l.length) : (ext a z).l[k]? = a.l[k]? := by
  show (a.l ++ [z])[k]? = _
  rw [List.getElem?_append_left h]
theorem ext_at : (ext a z).l[a.l.length]? = some z := by
  show (a.l ++ [z])[a.l.length]? = _
  simp
theorem childL_ext {is at_ : Int} {me : Nat} (h : me ≤ a.l.length) : childL (ext a z) is at_ me = childL a is at_ me := by
  unfold childL
  split
  · rfl
  split
  · rfl
  split
  · rename_i hr
    rw [ext_get (by omega)]
  · rfl
theorem okK_ext {r : RowA} {x : Nod} {me : Nat} (h : me ≤ a.l.length) : okK (ext a z) r x me 3 ↔ okK a r x me 3 := by
  unfold okK
  simp only [childL_ext h]
theorem modify_app {α : Type} {f : α → α} : ∀ {l m : List α} {i : Nat}, i < l.length → (l ++ m).modify i f = l.modify i f ++ m := by
  intro l
  induction l with
  | nil => intro m i h; cases h
  | cons x l ih =>
    intro m i h
    cases i with
    | zero => rfl
    | succ i => rw [List.cons_append, List.modify_succ_cons, List.modify_succ_cons, ih (by simpa using h), List.cons_append]
theorem modify_last {α : Type} {f : α → α} {l : List α} {x : α} : (l ++ [x]).modify l.length f = l ++ [f x] := by
  induction l with
  | nil => rfl
  | cons y l ih => rw [List.cons_append, List.length_cons, List.modify_succ_cons, ih, List.cons_append]
theorem modify_comm {α : Type} {f : α → α} (l : List α) (i j : Nat) : (l.modify i f).modify j f = (l.modify j f).modify i f := by
  apply List.ext_getElem?
  intro k
  simp only [List.getElem?_modify]
  cases l[k]? with
  | none => rfl
  | some v => by_cases h1 : i = k <;> by_cases h2 : j = k <;> simp [h1, h2]
theorem bumpL_app {is at_ : Int} {me : Nat} {ps : List Int} {v : Int} (h : me ≤ ps.length) : bumpL is at_ me (ps ++ [v]) = bumpL is at_ me ps ++ [v] := by
  unfold bumpL
  split
  · rfl
  split
  · rfl
  split
  · rename_i hr
    rw [modify_app (by omega)]
  · rfl
theorem psK_app {r : RowA} {x : Nod} {me : Nat} {ps : List Int} {v : Int} (h : me ≤ ps.length) : psK r x me (ps ++ [v]) 3 = psK r x me ps 3 ++ [v] := by
  unfold psK
  simp only
  rw [bumpL_app h, bumpL_app (by rw [bumpL_len]; exact h), bumpL_app (by rw [bumpL_len, bumpL_len]; exact h)]
theorem psAll_ext : ∀ k, k ≤ a.l.length → psAll (ext a z) k = psAll a k ++ [0] := by
  intro k
  induction k with
  | zero =>
    intro _
    show List.replicate (ext a z).l.length 0 = List.replicate a.l.length 0 ++ [0]
    rw [ext_len, List.replicate_succ']
  | succ k ih =>
    intro hk
    unfold psAll
    rw [ext_get (by omega), ih (by omega)]
    split
    · rw [psK_app (by rw [psAll_len]; omega)]
    · rfl
theorem psY_app {v : Int} : ∀ (ys ps : List Int), (∀ k ∈ ys, k.toNat < ps.length) → psY (ps ++ [v]) ys = psY ps ys ++ [v] := by
  intro ys
  induction ys with
  | nil => intro ps _; rfl
  | cons y ys ih =>
    intro ps h
    show psY ((ps ++ [v]).modify y.toNat bump) ys = psY (ps.modify y.toNat bump) ys ++ [v]
    rw [modify_app (h y (List.mem_cons_self ..)), ih _ (fun k hk => by rw [List.length_modify]; exact h k (List.mem_cons_of_mem _ hk))]
theorem psY_comm (i : Nat) : ∀ (ys ps : List Int), psY (ps.modify i bump) ys = (psY ps ys).modify i bump := by
  intro ys
  induction ys with
  | nil => intro ps; rfl
  | cons y ys ih =>
    intro ps
    show psY ((ps.modify i bump).modify y.toNat bump) ys = (psY (ps.modify y.toNat bump) ys).modify i bump
    rw [modify_comm, ih]
end
section
variable {a : Tre} {name : List UInt8}
theorem fun_row : (ofL (funN name a.r)).1 = rowsL.getD 10 zeroR := by
  unfold ofL funN
  rw [if_pos (by show 1 ≤ (10 : Int) ∧ (10 : Int) < 44; decide), if_neg (by show ¬ ((10 : Int) = 25 ∧ (0 : Int) = 3); decide)]
  rfl
theorem psEnd_ext (hn : 1 ≤ a.l.length) (hr : a.r = (a.l.length : Int) - 1) (hy : ∀ k ∈ a.y, k.toNat < a.l.length) : psEnd (ext a (funN name a.r)) = psEnd a ++ [1] := by
  unfold psEnd
  rw [ext_len]
  have h1 : psAll (ext a (funN name a.r)) (a.l.length + 1) = (psAll a a.l.length).modify a.r.toNat bump ++ [0] := by
    show (match (ext a (funN name a.r)).l[a.l.length]? with | some x => psK (ofL x).1 x a.l.length (psAll (ext a (funN name a.r)) a.l.length) 3 | none => psAll (ext a (funN name a.r)) a.l.length) = _
    rw [ext_at]
    show psK (ofL (funN name a.r)).1 (funN name a.r) a.l.length (psAll (ext a (funN name a.r)) a.l.length) 3 = _
    rw [fun_row, psAll_ext _ (Nat.le_refl _), psK_app (by rw [psAll_len]; exact Nat.le_refl _)]
    congr 1
    show bumpL 0 0 a.l.length (bumpL 0 0 a.l.length (bumpL 101 a.r a.l.length (psAll a a.l.length))) = _
    rw [show ∀ ps, bumpL 0 0 a.l.length ps = ps from fun _ => rfl, show ∀ ps, bumpL 0 0 a.l.length ps = ps from fun _ => rfl]
    unfold bumpL
    rw [if_neg (by decide), if_neg (by omega), if_pos (by omega)]
  rw [h1, show (ext a (funN name a.r)).y = a.y from rfl, psY_app _ _ (fun k hk => by rw [List.length_modify, psAll_len]; exact hy k hk), psY_comm, show (ext a (funN name a.r)).r.toNat = ((psY (psAll a a.l.length) a.y).modify a.r.toNat bump).length by
    rw [List.length_modify, psY_len, psAll_len]; rfl, modify_last, show bump 0 = 1 by unfold bump wrap64; decide]
theorem prevY_nn {t : Tre} {j : Nat} (h : ∀ i, i < j → ∀ k, t.y[i]? = some k → prevY t i < k) : -1 ≤ prevY t j := by
  induction j with
  | zero => exact Int.le_refl _
  | succ j ih =>
    show -1 ≤ t.y.getD j 0
    by_cases hlt : j < t.y.length
    · have hj : t.y[j]? = some t.y[j] := List.getElem?_eq_getElem hlt
      have h1 := h j (Nat.lt_succ_self _) _ hj
      have h2 := ih (fun i hi => h i (by omega))
      rw [List.getD_eq_getElem?_getD, hj]
      show -1 ≤ t.y[j]
      omega
    · rw [List.getD_eq_getElem?_getD, List.getElem?_eq_none (by omega)]
      decide
theorem types_in {t : Tre} (h : TyOk t t.y.length) : ∀ k ∈ t.y, 0 ≤ k ∧ k < t.l.length ∧ ∃ x, t.l[k.toNat]? = some x ∧ x.k = 42 := by
  intro k hk
  obtain ⟨j, hj⟩ := List.mem_iff_getElem?.1 hk
  have hlt := (List.getElem?_eq_some_iff.1 hj).1
  obtain ⟨h1, h2, h3⟩ := h j hlt k hj
  have h0 := prevY_nn (t := t) (j := j) (fun i hi k hk => (h i (by omega) k hk).1)
  exact ⟨by omega, h2, h3⟩
theorem good_ext (hl : a.l.length ≤ 490) (ha : RefN a) : GoodN (ext a (funN name a.r)) ↔ GoodN a := by
  have hn := ha.n1
  have hr := ha.root
  constructor
  · intro h
    have hty : ∀ k ∈ a.y, 0 ≤ k ∧ k < a.l.length ∧ ∃ x, a.l[k.toNat]? = some x ∧ x.k = 42 := by
      intro k hk
      obtain ⟨h1, h2, x, hx, h3⟩ := types_in h.types k hk
      rw [ext_len] at h2
      have hne : k.toNat ≠ a.l.length := by
        intro e
        rw [e, ext_at] at hx
        obtain rfl := Option.some.inj hx
        exact absurd h3 (by show (10 : Int) ≠ 42; decide)
      rw [ext_get (by omega)] at hx
      exact ⟨h1, by omega, x, hx, h3⟩
    have hch := (h.nodes a.l.length (by rw [ext_len]; omega) _ ext_at).2
    rw [okK_ext (Nat.le_refl _), fun_row] at hch
    obtain ⟨hc, _, _⟩ := hch
    replace hc : childL a 101 a.r a.l.length = true := hc
    unfold childL at hc
    rw [if_neg (by decide), if_neg (by omega), if_pos (by omega)] at hc
    refine ⟨hn, by omega, hr, ?_, ?_, ?_, ?_⟩
    · intro i hi x hx
      obtain ⟨h1, h2⟩ := h.nodes i (by rw [ext_len]; omega) x (by rw [ext_get hi]; exact hx)
      exact ⟨h1, (okK_ext (by omega)).1 h2⟩
    · intro i hi k hk
      obtain ⟨h1, _, _⟩ := h.types i hi k hk
      have h2 := hty k (List.mem_of_getElem? hk)
      exact ⟨h1, h2.2⟩
    · intro v hv
      refine h.ones v ?_
      rw [psEnd_ext hn hr (fun k hk => by have := hty k hk; omega)]
      exact List.mem_append_left _ hv
    · intro x hx
      have hrt : a.r.toNat = a.l.length - 1 := by omega
      rw [hrt, hx] at hc
      replace hc : ((ofL x).1.is_ == 101) = true := hc
      have h9 := beq_iff_eq.1 hc
      unfold ofL at h9
      split at h9
      · split at h9 <;> exact h9
      · exact absurd h9 (by decide)
  · intro h
    have hty := types_in h.types
    refine ⟨by rw [ext_len]; omega, by rw [ext_len]; omega, by rw [ext_len]; show (a.l.length : Int) = _; omega, ?_, ?_, ?_, ?_⟩
    · intro i hi x hx
      rw [ext_len] at hi
      by_cases hlt : i < a.l.length
      · rw [ext_get hlt] at hx
        obtain ⟨h1, h2⟩ := h.nodes i hlt x hx
        exact ⟨h1, (okK_ext (by omega)).2 h2⟩
      · obtain rfl : i = a.l.length := by omega
        rw [ext_at] at hx
        obtain rfl := Option.some.inj hx
        refine ⟨rfl, ?_⟩
        rw [okK_ext (Nat.le_refl _), fun_row]
        refine ⟨?_, rfl, rfl⟩
        show childL a 101 a.r a.l.length = true
        unfold childL
        rw [if_neg (by decide), if_neg (by omega), if_pos (by omega)]
        have hrt : a.r.toNat = a.l.length - 1 := by omega
        have hlt2 : a.l.length - 1 < a.l.length := by omega
        have hx : a.l[a.l.length - 1]? = some a.l[a.l.length - 1] := List.getElem?_eq_getElem hlt2
        rw [hrt, hx]
        have h9 := h.is_ _ hx
        have h8 := of_in (h.nodes _ hlt2 _ hx).1
        show ((ofL a.l[a.l.length - 1]).1.is_ == 101) = true
        rw [beq_iff_eq]
        unfold ofL
        rw [if_pos h8]
        split <;> exact h9
    · intro i hi k hk
      obtain ⟨h1, h2, x, hx, h3⟩ := h.types i hi k hk
      have h4 := hty k (List.mem_of_getElem? hk)
      exact ⟨h1, by rw [ext_len]; omega, x, by rw [ext_get (by omega)]; exact hx, h3⟩
    · intro v hv
      rw [psEnd_ext hn hr (fun k hk => by have := hty k hk; omega)] at hv
      rcases List.mem_append.1 hv with hv | hv
      · exact h.ones v hv
      · exact List.mem_singleton.1 hv
    · intro x hx
      rw [ext_len, Nat.add_sub_cancel, ext_at] at hx
      obtain rfl := Option.some.inj hx
      show (rowsL.getD (10 : Int).toNat zeroR).is_ = 101
      decide
theorem sure_ext {tab : Nat → OpRow} (ht : textQ name 2 = true) : AllX tab (ext a (funN name a.r)) ↔ AllX tab a := by
  constructor
  · intro h y hy
    exact h y (List.mem_append_left _ hy)
  · intro h y hy
    rcases List.mem_append.1 (show y ∈ a.l ++ [funN name a.r] from hy) with hy | hy
    · exact h y hy
    · obtain rfl := List.mem_singleton.1 hy
      rw [fun_row]
      exact ⟨by show (0 : Int) ≤ 0; omega, by show (0 : Int) ≤ 0; omega, ht, by kernel_rfl, by kernel_rfl⟩
end
end Go.Proofs.YtphojigdapaaiaaDoor
namespace Go.Proofs.YtphojigdapaaiaaDoor
set_option linter.unusedVariables false
set_option linter.unusedSimpArgs false
open Go.ChangeShapes Go.WideShapes Go.ChangeAt Go.RowKit
section
variable {P : Program} {w : World}
abbrev KS := List UInt8
def findS : List (KS × Value) → KS → Nat → Option (Nat × Value)
  | [], _, _ => none
  | p :: l, g, i => if g = p.1 then some (i, p.2) else findS l g (i + 1)
def getS (l : List (KS × Value)) (g : KS) : Option Value := (findS l g 0).map (·.2)
theorem findS_shift (l : List (KS × Value)) (g : KS) : ∀ i, findS l g i = (findS l g 0).map fun p => (p.1 + i, p.2) := by
  induction l with
  | nil => intro i; rfl
  | cons p l ih =>
    intro i
    unfold findS
    split
    · simp
    · rw [ih (i + 1), ih (0 + 1)]
      cases findS l g 0 with
      | none => rfl
      | some q => simp; omega
theorem getS_cons (p : KS × Value) (l : List (KS × Value)) (g : KS) : getS (p :: l) g = if g = p.1 then some p.2 else getS l g := by
  unfold getS
  rw [findS]
  split
  · rfl
  · rw [findS_shift]
    cases findS l g 0 <;> rfl
def EntS (es : List MapEntry) (l : List (KS × Value)) : Prop := es.map (fun e => (e.key, e.val)) = l.map fun p => (strV p.1, p.2)
def SMap (w : World) (b : Nat) (D : KS → Option Value) : Prop :=
  ∃ es clock l, w.heap[b]? = some (.map es clock) ∧ EntS es.toList l ∧ (∀ x, getS l x = D x) ∧ (l.map (·.1)).Nodup ∧ (∀ x ∈ es.toList, x.born < clock) ∧ (es.toList.map (·.born)).Nodup
theorem SMap.lt {b : Nat} {D : KS → Option Value} (h : SMap w b D) : b < w.heap.size := by
  obtain ⟨es, clock, l, hb, _⟩ := h
  rcases Nat.lt_or_ge b w.heap.size with h | h
  · exact h
  · rw [Array.getElem?_eq_none h] at hb; cases hb
theorem SMap.made (w : World) : SMap (w.alloc (.map #[] 0)) w.heap.size (fun _ => none) := ⟨#[], 0, [], heap_alloc_new w _, rfl, fun _ => rfl, List.nodup_nil, fun x hx => absurd hx (by simp), List.nodup_nil⟩
theorem SMap.keep {w' : World} {b : Nat} {D : KS → Option Value} (h : SMap w b D) (hb : w'.heap[b]? = w.heap[b]?) : SMap w' b D := by
  obtain ⟨es, clock, l, h1, h2⟩ := h
  exact ⟨es, clock, l, hb.trans h1, h2⟩
theorem SMap.next {w' : World} {b : Nat} {D : KS → Option Value} (h : SMap w b D) (hb : Below w.heap.size w w') : SMap w' b D :=
  h.keep (hb.block b h.lt)
theorem SMap.alloc {b : Nat} {D : KS → Option Value} (h : SMap w b D) (o : Obj) : SMap (w.alloc o) b D := h.keep (Below.heap_alloc w o b h.lt)
theorem SMap.ne {b g : Nat} {D : KS → Option Value} {t : TypeId} {cs : Array Value} (h : SMap w b D) (hg : Blk w g t cs) : g ≠ b := by
  rintro rfl
  obtain ⟨es, clock, l, h1, _⟩ := h
  unfold Blk at hg
  rw [h1] at hg
  cases hg
theorem SMap.cell_ne {b : Nat} {D : KS → Option Value} {p : Addr} {u : Value} (h : SMap w b D) (hp : w.cell? p = some u) : p.block ≠ b := by
  intro e
  obtain ⟨es, clock, l, h1, _⟩ := h
  unfold World.cell? at hp
  rw [e, h1] at hp
  cases hp
theorem str_eq {a b : KS} : (⟨a.toArray⟩ : ByteArray) = ⟨b.toArray⟩ ↔ a = b := by
  constructor
  · intro h
    have h1 := congrArg (fun z : ByteArray => z.data.toList) h
    simpa using h1
  · intro h; rw [h]
theorem sameNow_strs (a b : KS) : Instr.sameNow .string (strV a) (strV b) = some (decide (a = b)) := by
  show some ((⟨a.toArray⟩ : ByteArray) == ⟨b.toArray⟩) = _
  congr 1
  rw [Bool.eq_iff_iff, beq_bytes, str_eq, decide_eq_true_eq]
theorem findNow_strs {g : KS} : ∀ (es : List MapEntry) (l : List (KS × Value)) (i : Nat), EntS es l → Instr.findNow .string (strV g) es i = some (findS l g i) := by
  intro es
  induction es with
  | nil =>
    intro l i he
    cases l with
    | nil => rfl
    | cons p l => cases he
  | cons e es ih =>
    intro l i he
    cases l with
    | nil => cases he
    | cons p l =>
      have he' : (e.key, e.val) = (strV p.1, p.2) ∧ EntS es l := by
        unfold EntS at he ⊢
        rw [List.map_cons, List.map_cons] at he
        injection he with h1 h2
        exact ⟨h1, h2⟩
      obtain ⟨h1, h2⟩ := he'
      injection h1 with hk hv
      unfold Instr.findNow
      rw [hk, sameNow_strs, hv]
      unfold findS
      by_cases h : g = p.1
      · rw [if_pos h, decide_eq_true h]
      · rw [if_neg h, decide_eq_false h]
        exact ih l (i + 1) h2
theorem run_findStr {kt : TypeId} (hp : P.underlying kt = some .string) {g : KS} (es : List MapEntry) (l : List (KS × Value)) (he : EntS es l) : (Instr.findKey kt (strV g) es).run P w = .ok (findS l g 0) w :=
  MapKept.run_findKey hp (findNow_strs es l 0 he)
theorem run_checkS {kt : TypeId} (hp : P.underlying kt = some .string) (c : Bool) (g : KS) : (Instr.checkKey c 10000 kt (strV g)).run P w = .ok () w := by
  show (Instr.checkKey c (9999 + 1) kt (strV g)).run P w = _
  unfold Instr.checkKey
  simp [run_underlying hp]
theorem SMap.look1 {b : Nat} {D : KS → Option Value} (h : SMap w b D) {T kt E : TypeId} (hT : P.underlying T = some (.map kt E)) (hp : P.underlying kt = some .string) {z : Value} (hz : (zeroValue E).run P w = .ok z w)
    (g : KS) : (Instr.lookup T (.map (some b)) (strV g) false).run P w = .ok ((D g).getD z) w := by
  obtain ⟨es, clock, l, h1, h2, h3, h4, h5, h6⟩ := h
  have hf := run_findStr (w := w) hp (g := g) es.toList l h2
  have hc := run_checkS (w := w) hp es.isEmpty g
  have hd : (findS l g 0).map (·.2) = D g := h3 g
  unfold Instr.lookup
  simp only [Sem.run_bind, run_underlying hT, Result.andThen_ok, MapKept.run_getObj_map h1, Sem.run_pure, hc, hf]
  rw [← hd]
  cases findS l g 0 with
  | none => simp [hz]
  | some q => simp
theorem SMap.look {b : Nat} {D : KS → Option Value} (h : SMap w b D) {T kt E : TypeId} (hT : P.underlying T = some (.map kt E)) (hp : P.underlying kt = some .string) {z : Value} (hz : (zeroValue E).run P w = .ok z w)
    (g : KS) : (Instr.lookup T (.map (some b)) (strV g) true).run P w = .ok (.tuple #[(D g).getD z, .bool (D g).isSome]) w := by
  obtain ⟨es, clock, l, h1, h2, h3, h4, h5, h6⟩ := h
  have hf := run_findStr (w := w) hp (g := g) es.toList l h2
  have hc := run_checkS (w := w) hp es.isEmpty g
  have hd : (findS l g 0).map (·.2) = D g := h3 g
  unfold Instr.lookup
  simp only [Sem.run_bind, run_underlying hT, Result.andThen_ok, MapKept.run_getObj_map h1, Sem.run_pure, hc, hf]
  rw [← hd]
  cases findS l g 0 with
  | none => simp [hz]
  | some q => simp
def putS : List (KS × Value) → KS → Value → List (KS × Value)
  | [], g, v => [(g, v)]
  | p :: l, g, v => if g = p.1 then (p.1, v) :: l else p :: putS l g v
theorem getS_put (l : List (KS × Value)) (g : KS) (v : Value) (x : KS) : getS (putS l g v) x = if x = g then some v else getS l x := by
  induction l with
  | nil => unfold putS; rw [getS_cons]
  | cons p l ih =>
    unfold putS
    by_cases h : g = p.1
    · rw [if_pos h, getS_cons, getS_cons]
      by_cases hx : x = g
      · rw [if_pos hx, if_pos (hx.trans h)]
      · rw [if_neg hx, if_neg (fun e => hx (e.trans h.symm)), if_neg (fun e => hx (e.trans h.symm))]
    · rw [if_neg h, getS_cons, getS_cons, ih]
      by_cases hx : x = p.1
      · rw [if_pos hx, if_neg (fun e => h (e.symm.trans hx)), if_pos hx]
      · rw [if_neg hx, if_neg hx]
theorem putS_keys (l : List (KS × Value)) (g : KS) (v : Value) : (putS l g v).map (·.1) = if g ∈ l.map (·.1) then l.map (·.1) else l.map (·.1) ++ [g] := by
  induction l with
  | nil => simp [putS]
  | cons p l ih =>
    unfold putS
    by_cases h : g = p.1
    · rw [if_pos h, if_pos (by simp [h])]; simp
    · rw [if_neg h, List.map_cons, ih]
      by_cases h2 : g ∈ l.map (·.1)
      · rw [if_pos h2, if_pos (by rw [List.map_cons]; exact List.mem_cons_of_mem _ h2), List.map_cons]
      · rw [if_neg h2, if_neg (by rw [List.map_cons]; exact fun h3 => (List.mem_cons.1 h3).elim h h2), List.map_cons, List.cons_append]
theorem putS_nodup {l : List (KS × Value)} (h : (l.map (·.1)).Nodup) (g : KS) (v : Value) : ((putS l g v).map (·.1)).Nodup := by
  rw [putS_keys]
  split
  · exact h
  · rename_i h2
    rw [List.nodup_append]
    exact ⟨h, by simp, fun a ha b hb => by rw [List.mem_singleton.1 hb]; rintro rfl; exact h2 ha⟩
theorem entS_put_new {es : List MapEntry} {l : List (KS × Value)} {g : KS} {v : Value} (h : EntS es l) (hn : findS l g 0 = none) (c : Nat) : EntS (es ++ [{ key := strV g, val := v, born := c }]) (putS l g v) := by
  induction l generalizing es with
  | nil =>
    cases es with
    | nil => rfl
    | cons e es => cases h
  | cons p l ih =>
    cases es with
    | nil => cases h
    | cons e es =>
      unfold EntS at h
      rw [List.map_cons, List.map_cons] at h
      injection h with h1 h2
      unfold findS at hn
      split at hn
      · cases hn
      · rename_i hg
        rw [findS_shift] at hn
        have hn' : findS l g 0 = none := by cases hx : findS l g 0 with | none => rfl | some q => rw [hx] at hn; cases hn
        unfold putS
        rw [if_neg hg]
        have := ih h2 hn'
        unfold EntS at this ⊢
        rw [List.cons_append, List.map_cons, List.map_cons, h1, this]
theorem entS_put_old {es : List MapEntry} {l : List (KS × Value)} {g : KS} {v : Value} (h : EntS es l) : ∀ {i : Nat} {u : Value}, findS l g 0 = some (i, u) → EntS (es.modify i fun e => { e with key := strV g, val := v }) (putS l g v) ∧ (es[i]?).map (·.key) = some (strV g) := by
  induction l generalizing es with
  | nil => intro i u hf; cases hf
  | cons p l ih =>
    intro i u hf
    cases es with
    | nil => cases h
    | cons e es =>
      unfold EntS at h
      rw [List.map_cons, List.map_cons] at h
      injection h with h1 h2
      unfold findS at hf
      by_cases hg : g = p.1
      · rw [if_pos hg] at hf
        injection hf with hf
        injection hf with hi hu
        subst hi
        unfold putS
        rw [if_pos hg]
        injection h1 with hk hv
        refine ⟨?_, by simp [hk, hg]⟩
        unfold EntS
        rw [List.modify_zero_cons, List.map_cons, List.map_cons, h2, hg]
      · rw [if_neg hg, findS_shift] at hf
        cases hx : findS l g 0 with
        | none => rw [hx] at hf; cases hf
        | some q =>
          rw [hx] at hf
          injection hf with hf
          injection hf with hi hu
          subst hi
          obtain ⟨h3, h4⟩ := ih (es := es) h2 (i := q.1) (u := q.2) hx
          unfold putS
          rw [if_neg hg]
          refine ⟨?_, by rw [show q.1 + (0 + 1) = q.1 + 1 by omega, List.getElem?_cons_succ]; exact h4⟩
          unfold EntS at h3 ⊢
          rw [show q.1 + (0 + 1) = q.1 + 1 by omega, List.modify_succ_cons, List.map_cons, List.map_cons, h1, h3]
theorem born_modify (es : List MapEntry) (k v : Value) : ∀ i, (es.modify i fun e => { e with key := k, val := v }).map (·.born) = es.map (·.born) := by
  induction es with
  | nil => intro i; cases i <;> rfl
  | cons e es ih =>
    intro i
    cases i with
    | zero => rfl
    | succ i => rw [List.modify_succ_cons, List.map_cons, List.map_cons, ih]
theorem SMap.store {b : Nat} {D : KS → Option Value} (h : SMap w b D) {T kt E : TypeId} (hT : P.underlying T = some (.map kt E)) (hp : P.underlying kt = some .string)
    (g : KS) (v : Value) : ∃ w', (Instr.mapUpdate T (.map (some b)) (strV g) v).run P w = .ok () w' ∧ SMap w' b (fun x => if x = g then some v else D x) ∧ w.grownBy w' (some b) := by
  have hlt := h.lt
  obtain ⟨es, clock, l, h1, h2, h3, h4, h5, h6⟩ := h
  have hf := run_findStr (w := w) hp (g := g) es.toList l h2
  have hc := run_checkS (w := w) hp false g
  have hset : ∀ o : Obj, w.grownBy { w with heap := w.heap.setIfInBounds b o } (some b) := fun o => ⟨rfl, rfl, rfl, by simp, fun k hk hne => by
    show (w.heap.setIfInBounds b o)[k]? = _
    rw [Array.getElem?_setIfInBounds_ne (fun e => hne (by rw [e]))]⟩
  have hnew : ∀ (es' : Array MapEntry) (c : Nat), ({ w with heap := w.heap.setIfInBounds b (.map es' c) } : World).heap[b]? = some (.map es' c) := fun es' c => by
    show (w.heap.setIfInBounds b _)[b]? = _
    rw [Array.getElem?_setIfInBounds_self_of_lt hlt]
  have hD : ∀ x, getS (putS l g v) x = if x = g then some v else D x := fun x => by rw [getS_put, h3]
  cases hx : findS l g 0 with
  | none =>
    refine ⟨_, ?_, ⟨es.push { key := strV g, val := v, born := clock }, clock + 1, putS l g v, hnew _ _, by rw [Array.toList_push]; exact entS_put_new h2 hx clock, hD, putS_nodup h4 g v, ?_, ?_⟩, hset _⟩
    rotate_left
    · intro x hx
      rw [Array.toList_push] at hx
      rcases List.mem_append.1 hx with hx | hx
      · exact Nat.lt_succ_of_lt (h5 x hx)
      · rw [List.mem_singleton.1 hx]; exact Nat.lt_succ_self _
    · rw [Array.toList_push, List.map_append, List.nodup_append]
      refine ⟨h6, by simp, fun a ha b hb => ?_⟩
      have hbc : b = clock := by simpa using hb
      obtain ⟨x, hx, rfl⟩ := List.mem_map.1 ha
      exact fun e => absurd (h5 x hx) (by rw [e, hbc]; exact Nat.lt_irrefl _)
    unfold Instr.mapUpdate
    simp only [Sem.run_bind, run_underlying hT, Result.andThen_ok, MapKept.run_getObj_map h1, hc, hf, hx]
    exact MapKept.run_setObj_map _ h1
  | some q =>
    obtain ⟨h8, h7⟩ := entS_put_old (v := v) h2 hx
    refine ⟨_, ?_, ⟨es.modify q.1 fun e => { e with key := strV g, val := v }, clock, putS l g v, hnew _ _, by rw [Array.toList_modify]; exact h8, hD, putS_nodup h4 g v, ?_, ?_⟩, hset _⟩
    rotate_left
    · intro x hx
      rw [Array.toList_modify] at hx
      have hx2 : x.born ∈ (es.toList.modify q.1 fun e => { e with key := strV g, val := v }).map (·.born) := List.mem_map.2 ⟨x, hx, rfl⟩
      rw [born_modify] at hx2
      obtain ⟨y, hy, hxy⟩ := List.mem_map.1 hx2
      rw [← hxy]
      exact h5 y hy
    · rw [Array.toList_modify, born_modify]
      exact h6
    unfold Instr.mapUpdate
    have hk : ((es[q.1]?).map (·.key)).getD (strV g) = strV g := by
      rw [← Array.getElem?_toList, h7]; rfl
    simp only [Sem.run_bind, run_underlying hT, Result.andThen_ok, MapKept.run_getObj_map h1, hc, hf, hx, hk]
    have hs : (Instr.keyThatStays (strV g) (strV g)).run P w = .ok (strV g) w := by
      have : Instr.sameBits 10000 (strV g) (strV g) = true := by simp only [Instr.sameBits]; exact beq_bytes.2 rfl
      unfold Instr.keyThatStays
      rw [if_pos this]
      rfl
    simp only [hs, Result.andThen_ok]
    exact MapKept.run_setObj_map _ h1
theorem entS_mem {es : List MapEntry} {l : List (KS × Value)} (h : EntS es l) : (∀ e ∈ es, ∃ p ∈ l, e.key = strV p.1 ∧ e.val = p.2) ∧ (∀ p ∈ l, ∃ e ∈ es, e.key = strV p.1) := by
  constructor
  · intro e he
    have h1 : (e.key, e.val) ∈ es.map (fun e => (e.key, e.val)) := List.mem_map.2 ⟨e, he, rfl⟩
    rw [show es.map (fun e => (e.key, e.val)) = l.map fun p => (strV p.1, p.2) from h] at h1
    obtain ⟨p, hp, hpe⟩ := List.mem_map.1 h1
    injection hpe with h2 h3
    exact ⟨p, hp, h2.symm, h3.symm⟩
  · intro p hp
    have h1 : (strV p.1, p.2) ∈ l.map (fun p => (strV p.1, p.2)) := List.mem_map.2 ⟨p, hp, rfl⟩
    rw [← show es.map (fun e => (e.key, e.val)) = l.map fun p => (strV p.1, p.2) from h] at h1
    obtain ⟨e, he, hpe⟩ := List.mem_map.1 h1
    injection hpe with h2 h3
    exact ⟨e, he, h2⟩
theorem getS_mem {l : List (KS × Value)} {g : KS} : (getS l g).isSome = true ↔ g ∈ l.map (·.1) := by
  induction l with
  | nil => simp [getS, findS]
  | cons p l ih =>
    rw [getS_cons]
    by_cases h : g = p.1
    · rw [if_pos h]; simp [h]
    · rw [if_neg h, ih, List.map_cons, List.mem_cons]
      exact ⟨fun h1 => .inr h1, fun h1 => h1.elim (fun h2 => absurd h2 h) id⟩
theorem strV_inj {a b : KS} (h : strV a = strV b) : a = b := by
  injection h with h
  have h1 := congrArg (fun z : ByteArray => z.data.toList) h
  simpa using h1
def SIter (w : World) (b r : Nat) (D : KS → Option Value) (done : List KS) (cnt : Nat) : Prop :=
  ∃ es clock l since seen c0, w.heap[b]? = some (.map es clock) ∧ EntS es.toList l ∧ (∀ x, getS l x = D x) ∧ (l.map (·.1)).Nodup ∧ (∀ x ∈ es.toList, x.born < clock) ∧ (es.toList.map (·.born)).Nodup ∧
    w.heap[r]? = some (.mapIter (some b) since seen c0) ∧ (∀ x ∈ es.toList, x.born < since) ∧ since ≤ c0 ∧ since ≤ clock ∧ done.Nodup ∧ (∀ x ∈ es.toList, ∀ s, x.key = strV s → (seen.contains x.born = true ↔ s ∈ done)) ∧ (∀ s ∈ done, (D s).isSome = true) ∧ (leftOf es seen).size = cnt
theorem SIter.map {b r : Nat} {D : KS → Option Value} {done : List KS} {cnt : Nat} (h : SIter w b r D done cnt) : SMap w b D := by
  obtain ⟨es, clock, l, since, seen, c0, h1, h2, h3, h4, h5, h6, _⟩ := h
  exact ⟨es, clock, l, h1, h2, h3, h4, h5, h6⟩
theorem SIter.lt {b r : Nat} {D : KS → Option Value} {done : List KS} {cnt : Nat} (h : SIter w b r D done cnt) : r < w.heap.size := by
  obtain ⟨es, clock, l, since, seen, c0, _, _, _, _, _, _, h7, _⟩ := h
  exact (Array.getElem?_eq_some_iff.1 h7).1
theorem SIter.keep {w' : World} {b r : Nat} {D : KS → Option Value} {done : List KS} {cnt : Nat} (h : SIter w b r D done cnt) (hb : w'.heap[b]? = w.heap[b]?) (hr : w'.heap[r]? = w.heap[r]?) : SIter w' b r D done cnt := by
  obtain ⟨es, clock, l, since, seen, c0, h1, h2, h3, h4, h5, h6, h7, h8⟩ := h
  exact ⟨es, clock, l, since, seen, c0, hb.trans h1, h2, h3, h4, h5, h6, hr.trans h7, h8⟩
def itLeft (w : World) (b r : Nat) : Nat := match w.heap[b]?, w.heap[r]? with
  | some (.map es _), some (.mapIter _ _ seen _) => (leftOf es seen).size
  | _, _ => 0
theorem SIter.left_eq {b r : Nat} {D : KS → Option Value} {done : List KS} {cnt : Nat} (h : SIter w b r D done cnt) : itLeft w b r = cnt := by
  obtain ⟨es, clock, l, since, seen, c0, h1, h2, h3, h4, h5, h6, h7, h8, h9, h10, h11, h12, h13, h14⟩ := h
  unfold itLeft
  rw [h1, h7]
  exact h14
theorem SMap.range {b : Nat} {D : KS → Option Value} (h : SMap w b D) {T kt E : TypeId} (hT : P.underlying T = some (.map kt E)) :
    ∃ w' cnt, (Instr.range T (.map (some b))).run P w = .ok (.pointer (some ⟨w.heap.size, 0, none⟩)) w' ∧ SIter w' b w.heap.size D [] cnt ∧ Below w.heap.size w w' ∧ w'.heap.size = w.heap.size + 1 := by
  have hlt := h.lt
  obtain ⟨es, clock, l, h1, h2, h3, h4, h5, h6⟩ := h
  refine ⟨_, _, run_range_map w T kt E b es clock hT h1, ⟨es, clock, l, clock, #[], clock, (Below.heap_alloc w _ b hlt).trans h1, h2, h3, h4, h5, h6, heap_alloc_new w _, h5, Nat.le_refl _, Nat.le_refl _, List.nodup_nil, fun x _ s _ => by simp, fun s hs => absurd hs (by simp), rfl⟩, (Below.refl _ _).alloc (Nat.le_refl _) _, by simp⟩
theorem SIter.next {b r : Nat} {D : KS → Option Value} {done : List KS} {cnt : Nat} (h : SIter w b r D done cnt) (ty : TypeId) :
    ((∀ s, (D s).isSome = true → s ∈ done) ∧ (Instr.next (.pointer (some ⟨r, 0, none⟩)) false ty).run P w = .ok (.tuple #[.bool false]) w) ∨
    ∃ s v w' cnt', s ∉ done ∧ (Instr.next (.pointer (some ⟨r, 0, none⟩)) false ty).run P w = .ok (.tuple #[.bool true, strV s, v]) w' ∧ SIter w' b r D (done ++ [s]) cnt' ∧ cnt' < cnt ∧ w.grownBy w' (some r) ∧ w'.heap.size = w.heap.size ∧
      (Instr.entry (.pointer (some ⟨r, 0, none⟩))).run P w' = .ok (.tuple #[strV s, v]) w' := by
  obtain ⟨es, clock, l, since, seen, c0, h1, h2, h3, h4, h5, h6, h7, h8, h9, h10, h11, h12, h13, h14⟩ := h
  have hne : r ≠ b := by rintro rfl; rw [h1] at h7; cases h7
  obtain ⟨hm1, hm2⟩ := entS_mem h2
  rcases run_next_at (P := P) w ty r b since c0 seen es clock h7 h1 h8 h9 with ⟨h0, hrun⟩ | ⟨e, he, w1, hal, hrun⟩
  · refine .inl ⟨fun s hs => ?_, hrun⟩
    rw [← h3 s, getS_mem] at hs
    obtain ⟨p, hp, rfl⟩ := List.mem_map.1 hs
    obtain ⟨e, he, hk⟩ := hm2 p hp
    exact (h12 e he _ hk).1 (all_seen es seen h0 e he)
  · obtain ⟨hem, hes⟩ := mem_left he
    obtain ⟨p, hp, hk, hv⟩ := hm1 e hem
    have h7' : w1.heap[r]? = some (.mapIter (some b) since seen c0) := by rcases hal with rfl | rfl <;> exact h7
    have h1' : w1.heap[b]? = some (.map es clock) := by rcases hal with rfl | rfl <;> exact h1
    have hset := Go.MapKept.heap_set (o' := .mapIter (some b) since (seen.push e.born) clock) h7'
    have hb' : (Go.ChangeMaps.setBlock w1 r (.mapIter (some b) since (seen.push e.born) clock)).heap[b]? = some (.map es clock) := (hset.2 b (fun e1 => hne e1.symm)).trans h1'
    have hnd : p.1 ∉ done := fun h => by
      have := (h12 e hem _ hk).2 h
      rw [hes] at this
      cases this
    refine .inr ⟨p.1, e.val, _, _, hnd, by rw [← hk]; exact hrun, ⟨es, clock, l, since, seen.push e.born, clock, hb', h2, h3, h4, h5, h6, hset.1, h8, h10, h10, ?_, ?_, ?_, rfl⟩, by rw [← h14]; exact left_shrinks es seen e he, ?_, ?_, by rw [← hk]; exact run_entry_at _ r b since seen es clock e hset.1 hb' hem h6⟩
    · rw [List.nodup_append]
      exact ⟨h11, by simp, fun a ha b hb => by rw [List.mem_singleton.1 hb]; rintro rfl; exact hnd ha⟩
    · intro x hx s hs
      rw [contains_push, Bool.or_eq_true, h12 x hx s hs, List.mem_append, List.mem_singleton, beq_iff_eq]
      refine or_congr Iff.rfl ⟨fun hbe => ?_, fun hse => ?_⟩
      · have hxe : x = e := by
          have h20 := find_born x es.toList h6 hx
          have h21 := find_born e es.toList h6 hem
          rw [hbe] at h20
          exact Option.some.inj (h20.symm.trans h21)
        rw [hxe, hk] at hs
        exact (strV_inj hs).symm
      · subst hse
        have h22 : x.key = e.key := hs.trans hk.symm
        obtain ⟨i, hi, rfl⟩ := List.mem_iff_getElem.1 hx
        obtain ⟨j, hj, rfl⟩ := List.mem_iff_getElem.1 hem
        have hij : i = j := by
          have hlen : es.toList.length = l.length := by have := congrArg List.length h2; simpa using this
          have hki : ∀ (i : Nat) (h : i < es.toList.length), (es.toList[i]).key = strV ((l.map (·.1))[i]'(by rw [List.length_map, ← hlen]; exact h)) := fun i h => by
            have h30 := congrArg (fun z : List (Value × Value) => z[i]?) h2
            simp only [List.getElem?_map, List.getElem?_eq_getElem h, List.getElem?_eq_getElem (show i < l.length by rw [← hlen]; exact h), Option.map_some, Option.some.injEq, Prod.mk.injEq] at h30
            rw [h30.1, List.getElem_map]
          rw [hki i hi, hki j hj] at h22
          exact (List.getElem_inj h4).1 (strV_inj h22)
        subst hij
        rfl
    · intro s hs
      rcases List.mem_append.1 hs with hs | hs
      · exact h13 s hs
      · rw [List.mem_singleton.1 hs, ← h3 p.1, getS_mem]
        exact List.mem_map.2 ⟨p, hp, rfl⟩
    · rcases hal with rfl | rfl <;> exact ⟨rfl, rfl, rfl, by simp [Go.ChangeMaps.setBlock], fun i _ hi => hset.2 i (fun e1 => hi (by rw [e1]))⟩
    · rcases hal with rfl | rfl <;> simp [Go.ChangeMaps.setBlock]
end
structure Con where
  typ : KS
  num : Int
  has : Bool
def z0 : Nod := ⟨0, [], [], 0, 0, 0, 0, 0⟩
def nd (t : Tre) (k : Nat) : Nod := t.l.getD k z0
theorem nd_of {t : Tre} {k : Nat} {x : Nod} (h : t.l[k]? = some x) : nd t k = x := by
  unfold nd
  rw [List.getD_eq_getElem?_getD, h]
  rfl
theorem nd_at {t : Tre} {k : Nat} (h : k < t.l.length) : t.l[k]? = some (nd t k) := by
  unfold nd
  rw [List.getD_eq_getElem?_getD, List.getElem?_eq_getElem h]
  rfl
abbrev CM := KS → Option Con
def put {α : Type} (M : KS → Option α) (s : KS) (v : α) : KS → Option α := fun x => if x = s then some v else M x
def ins (N : KS → Bool) (s : KS) : KS → Bool := fun x => if x = s then true else N x
def conStep (ty : KS) (i : Int) (x : Nod) (M : CM) : CM := if (M x.t).isSome then M else put M x.t ⟨ty, i, decide (0 ≤ x.a)⟩
def conChain (t : Tre) (ty : KS) : Nat → Int → Int → CM → CM
  | 0, _, _, M => M
  | n + 1, c, i, M => if c < 0 then M else conChain t ty n (nd t c.toNat).b (i + 1) (conStep ty i (nd t c.toNat) M)
def consL (t : Tre) : List Int → CM → CM
  | [], M => M
  | k :: ks, M => consL t ks (conChain t (nd t k.toNat).t 501 (nd t k.toNat).a 0 M)
def conMap (t : Tre) : CM := consL t t.y (fun _ => none)
structure TS where
  bad : List Bool
  names : KS → Bool
  met : KS → Bool
def metStep (k : Nat) (x : Nod) (S : TS) : TS := { S with bad := S.bad.set k (S.met x.t), met := ins S.met x.t }
def metChain (t : Tre) : Nat → Int → TS → TS
  | 0, _, S => S
  | n + 1, c, S => if c < 0 then S else metChain t n (nd t c.toNat).b (metStep c.toNat (nd t c.toNat) S)
def tyStep (k : Nat) (x : Nod) (S : TS) : TS := { S with bad := S.bad.set k (S.names x.t), names := ins S.names x.t }
def typesL (t : Tre) : List Int → TS → TS
  | [], S => S
  | k :: ks, S => typesL t ks (metChain t 501 (nd t k.toNat).a (tyStep k.toNat (nd t k.toNat) S))
def conBad (M : CM) (x : Nod) : Bool := match M x.t with
  | none => true
  | some c => c.has != decide (0 ≤ x.a)
def nodeB (M : CM) (N : KS → Bool) (k : Nat) (x : Nod) (b : List Bool) : List Bool :=
  if x.k = 39 then b.set k (!N x.t) else if x.k = 6 ∨ x.k = 34 then b.set k (conBad M x) else b
def nodesB (t : Tre) (M : CM) (N : KS → Bool) : Nat → List Bool → List Bool
  | 0, b => b
  | k + 1, b => nodeB M N k (nd t k) (nodesB t M N k b)
def marksF (t : Tre) (M : CM) (b : List Bool) : List Bool :=
  nodesB t M (typesL t t.y ⟨b, fun _ => false, fun _ => false⟩).names t.l.length (typesL t t.y ⟨b, fun _ => false, fun _ => false⟩).bad
structure NS where
  bad : List Bool
  met : KS → Option Nat
def kidsS (x : Nod) : List Int :=
  if x.k = 32 ∨ x.k = 33 ∨ x.k = 8 ∨ x.k = 9 ∨ x.k = 11 ∨ x.k = 15 ∨ x.k = 16 ∨ x.k = 17 then [x.a, x.b]
  else if x.k = 14 then [x.a, x.b, x.c]
  else if x.k = 20 ∨ x.k = 22 ∨ x.k = 23 then [x.a]
  else if x.k = 34 ∨ x.k = 6 then (if 0 ≤ x.a then [x.a] else [])
  else if x.k = 24 then [x.a, x.b, x.c].filter (fun c => decide (0 ≤ c))
  else if x.k = 25 then [x.a, x.b].filter (fun c => decide (0 ≤ c))
  else []
def nameStep (k : Nat) (x : Nod) (S : NS) : NS × Nat :=
  if x.k = 27 then (match S.met x.t with
    | some a => (⟨S.bad.set (max a k) true, put S.met x.t (min a k)⟩, min a k)
    | none => (⟨S.bad, put S.met x.t k⟩, k))
  else (S, k)
def namesF (t : Tre) : Nat → Nat → NS → NS
  | 0, _, S => S
  | n + 1, k, S => (kidsS (nd t (nameStep k (nd t k) S).2)).foldl (fun S c => namesF t n c.toNat S) (nameStep k (nd t k) S).1
def addB (B : KS → Int) (l : List KS) : KS → Int := fun s => B s + (l.count s : Int)
def addM (B : KS → Int) (m : KS → Option Nat) : KS → Int := fun s => B s + (if (m s).isSome then 1 else 0)
def bindL (s : KS) : List KS := if s = [95] then [] else [s]
def clF (ex : Nat → (KS → Int) → List Bool → List Bool) (t : Tre) : Nat → Int → (KS → Int) → List Bool → List Bool
  | 0, _, _, b => b
  | m + 1, c, B, b => if c < 0 then b else
    clF ex t m (nd t c.toNat).c B (ex (nd t c.toNat).b.toNat (addM B (namesF t 501 (nd t c.toNat).a.toNat ⟨b, fun _ => none⟩).met) (namesF t 501 (nd t c.toNat).a.toNat ⟨b, fun _ => none⟩).bad)
def exprS (t : Tre) : Nat → Nat → (KS → Int) → List Bool → List Bool
  | 0, _, _, b => b
  | n + 1, k, B, b =>
    if (nd t k).k = 5 then b.set k (decide (B (nd t k).t = 0))
    else if (nd t k).k = 10 then exprS t n (nd t k).a.toNat (addB B (bindL (nd t k).t)) b
    else if (nd t k).k = 12 then exprS t n (nd t k).b.toNat (addB B (bindL (nd t k).t)) (exprS t n (nd t k).a.toNat B b)
    else if (nd t k).k = 13 then exprS t n (nd t k).b.toNat (addB B [(nd t k).t]) (exprS t n (nd t k).a.toNat (addB B [(nd t k).t, (nd t k).t2]) b)
    else if (nd t k).k = 21 then exprS t n (nd t k).b.toNat (addB B [(nd t k).t]) (exprS t n (nd t k).a.toNat B b)
    else if (nd t k).k = 18 then clF (exprS t n) t 501 (nd t k).b B (exprS t n (nd t k).a.toNat B b)
    else (kidsS (nd t k)).foldl (fun b c => exprS t n c.toNat B b) b
def badF (t : Tre) : List Bool := exprS t 501 t.r.toNat (fun _ => 0) (marksF t (conMap t) (List.replicate t.l.length false))
def faultF (t : Tre) : Int × Int := match (badF t).findIdx? id with
  | some k => (13, (nd t k).h)
  | none => (0, 0)
def InR (k : Nat) (v : Int) : Prop := 0 ≤ v ∧ v < (k : Int)
structure Shp (t : Tre) : Prop where
  len : t.l.length ≤ 500
  kids : ∀ k, k < t.l.length → ∀ c ∈ kidsS (nd t k), InR k c
  one : ∀ k, k < t.l.length → ((nd t k).k = 10 ∨ (nd t k).k = 12 ∨ (nd t k).k = 13 ∨ (nd t k).k = 21 ∨ (nd t k).k = 18 ∨ (nd t k).k = 19) → InR k (nd t k).a
  two : ∀ k, k < t.l.length → ((nd t k).k = 12 ∨ (nd t k).k = 13 ∨ (nd t k).k = 21 ∨ (nd t k).k = 18 ∨ (nd t k).k = 19) → InR k (nd t k).b
  cl : ∀ k, k < t.l.length → (nd t k).k = 18 → (nd t (nd t k).b.toNat).k = 19
  cl2 : ∀ k, k < t.l.length → (nd t k).k = 19 → (nd t k).c < 0 ∨ InR k (nd t k).c ∧ (nd t (nd t k).c.toNat).k = 19
  ty : ∀ k ∈ t.y, InR t.l.length k ∧ (nd t k.toNat).k = 42
  data : ∀ k, k < t.l.length → (nd t k).k = 42 → InR k (nd t k).a ∧ (nd t (nd t k).a.toNat).k = 43
  con : ∀ k, k < t.l.length → (nd t k).k = 43 → (nd t k).b < 0 ∨ InR k (nd t k).b ∧ (nd t (nd t k).b.toNat).k = 43
theorem child_in {t : Tre} {is a : Int} {me : Nat} (h : childL t is a me = true) (h0 : 97 ≤ is) : InR me a ∧ ∃ x, t.l[a.toNat]? = some x ∧ (ofL x).1.is_ = is := by
  unfold childL at h
  rw [if_neg (by omega), if_neg (by omega)] at h
  split at h
  · rename_i hr
    refine ⟨hr, ?_⟩
    split at h
    · rename_i x hx
      rw [if_neg (by omega)] at h
      exact ⟨x, hx, beq_iff_eq.1 h⟩
    · cases h
  · cases h
theorem child_may {t : Tre} {is a : Int} {me : Nat} (h : childL t is a me = true) (h0 : is ≠ 0) (h1 : is < 97) : a = -1 ∨ InR me a ∧ ∃ x, t.l[a.toNat]? = some x ∧ (ofL x).1.is_ = is + 32 := by
  unfold childL at h
  rw [if_neg h0] at h
  split at h
  · rename_i hr
    exact .inl hr.2
  · split at h
    · rename_i hr
      refine .inr ⟨hr, ?_⟩
      split at h
      · rename_i x hx
        first
          | rw [if_pos h1] at h
            exact ⟨x, hx, beq_iff_eq.1 h⟩
          | exact ⟨x, hx, beq_iff_eq.1 h⟩
      · cases h
    · cases h
theorem rows_is : ∀ k, k < 44 → ((rowsL.getD k zeroR).is_ = 99 → k = 19) ∧ ((rowsL.getD k zeroR).is_ = 107 → k = 43) := by decide
theorem of_is (x : Nod) : (ofL x).1.is_ = (if 1 ≤ x.k ∧ x.k < 44 then (rowsL.getD x.k.toNat zeroR).is_ else 0) := by
  unfold ofL
  split
  · rename_i h; split <;> rfl
  · rename_i h; rfl
theorem is_kind {x : Nod} : ((ofL x).1.is_ = 99 → x.k = 19) ∧ ((ofL x).1.is_ = 107 → x.k = 43) := by
  rw [of_is]
  split
  · rename_i h
    obtain ⟨h1, h2⟩ := rows_is x.k.toNat (by omega)
    exact ⟨fun e => by have := h1 e; omega, fun e => by have := h2 e; omega⟩
  · exact ⟨fun e => absurd e (by decide), fun e => absurd e (by decide)⟩
theorem of_abc {x : Nod} {k : Nat} (h : x.k = (k : Int)) (h1 : 1 ≤ k) (h2 : k < 44) (hn : k ≠ 25) : (ofL x).1 = rowsL.getD k zeroR := by
  unfold ofL
  rw [if_pos (by omega), if_neg (by omega), h]
  rfl
theorem of_host_ab {x : Nod} (h : x.k = 25) : (ofL x).1.a = 69 ∧ (ofL x).1.b = 69 := by
  unfold ofL
  rw [if_pos (by omega), h]
  split <;> exact ⟨rfl, rfl⟩
section
variable {t : Tre} (h : GoodN t) {k : Nat} (hk : k < t.l.length)
include h hk
theorem good_ok : okK t (ofL (nd t k)).1 (nd t k) k 3 := (h.nodes k hk _ (nd_at hk)).2
theorem good_kind : 1 ≤ (nd t k).k ∧ (nd t k).k < 44 := of_in (h.nodes k hk _ (nd_at hk)).1
theorem ok_abc {m : Nat} (hm : (nd t k).k = (m : Int)) (h1 : 1 ≤ m) (h2 : m < 44) (hn : m ≠ 25) :
    childL t (rowsL.getD m zeroR).a (nd t k).a k = true ∧ childL t (rowsL.getD m zeroR).b (nd t k).b k = true ∧ childL t (rowsL.getD m zeroR).c (nd t k).c k = true := by
  have := good_ok h hk
  rw [of_abc hm h1 h2 hn] at this
  exact this
end
theorem may_in {t : Tre} {is a : Int} {me : Nat} (h : childL t is a me = true) (h0 : is ≠ 0) (h1 : is < 97) (ha : 0 ≤ a) : InR me a := by
  rcases child_may h h0 h1 with h2 | h2
  · omega
  · exact h2.1
theorem Shp.of {t : Tre} (h : GoodN t) : Shp t := by
  refine ⟨h.n2, ?_, ?_, ?_, ?_, ?_, ?_, ?_, ?_⟩
  · intro k hk c hc
    have hkd := good_kind h hk
    unfold kidsS at hc
    split at hc
    · rename_i h1
      rcases h1 with h1 | h1 | h1 | h1 | h1 | h1 | h1 | h1
      all_goals (
        obtain ⟨h2, h3, _⟩ := ok_abc h hk (by first | exact h1 | rw [h1]; rfl) (by decide) (by decide) (by decide)
        rcases List.mem_cons.1 hc with rfl | hc
        · exact (child_in h2 (by decide)).1
        · rw [List.mem_singleton.1 hc]; exact (child_in h3 (by decide)).1)
    split at hc
    · rename_i h1
      obtain ⟨h2, h3, h4⟩ := ok_abc h hk (m := 14) h1 (by decide) (by decide) (by decide)
      rcases List.mem_cons.1 hc with rfl | hc
      · exact (child_in h2 (by decide)).1
      · rcases List.mem_cons.1 hc with rfl | hc
        · exact (child_in h3 (by decide)).1
        · rw [List.mem_singleton.1 hc]; exact (child_in h4 (by decide)).1
    split at hc
    · rename_i h1
      rcases h1 with h1 | h1 | h1
      all_goals (
        obtain ⟨h2, _, _⟩ := ok_abc h hk (by first | exact h1 | rw [h1]; rfl) (by decide) (by decide) (by decide)
        rw [List.mem_singleton.1 hc]; exact (child_in h2 (by decide)).1)
    split at hc
    · rename_i h1
      split at hc
      · rename_i h9
        rcases h1 with h1 | h1
        · obtain ⟨h2, _, _⟩ := ok_abc h hk (m := 34) h1 (by decide) (by decide) (by decide)
          rw [List.mem_singleton.1 hc]; exact may_in h2 (by decide) (by decide) h9
        · obtain ⟨h2, _, _⟩ := ok_abc h hk (m := 6) h1 (by decide) (by decide) (by decide)
          rw [List.mem_singleton.1 hc]; exact may_in h2 (by decide) (by decide) h9
      · cases hc
    split at hc
    · rename_i h1
      obtain ⟨h2, h3, h4⟩ := ok_abc h hk (m := 24) h1 (by decide) (by decide) (by decide)
      obtain ⟨hc, h9⟩ := List.mem_filter.1 hc
      have h9 := of_decide_eq_true h9
      rcases List.mem_cons.1 hc with rfl | hc
      · exact (child_in h2 (by decide)).1
      · rcases List.mem_cons.1 hc with rfl | hc
        · exact may_in h3 (by decide) (by decide) h9
        · rw [List.mem_singleton.1 hc] at h9 ⊢; exact may_in h4 (by decide) (by decide) h9
    split at hc
    · rename_i h1
      have hok := good_ok h hk
      obtain ⟨ha, hb⟩ := of_host_ab h1
      obtain ⟨h2, h3, _⟩ := hok
      rw [ha] at h2
      rw [hb] at h3
      obtain ⟨hc, h9⟩ := List.mem_filter.1 hc
      have h9 := of_decide_eq_true h9
      rcases List.mem_cons.1 hc with rfl | hc
      · exact may_in h2 (by decide) (by decide) h9
      · rw [List.mem_singleton.1 hc] at h9 ⊢; exact may_in h3 (by decide) (by decide) h9
    · cases hc
  · intro k hk h1
    rcases h1 with h1 | h1 | h1 | h1 | h1 | h1
    all_goals (
      obtain ⟨h2, _, _⟩ := ok_abc h hk (by first | exact h1 | rw [h1]; rfl) (by decide) (by decide) (by decide)
      exact (child_in h2 (by decide)).1)
  · intro k hk h1
    rcases h1 with h1 | h1 | h1 | h1 | h1
    all_goals (
      obtain ⟨_, h2, _⟩ := ok_abc h hk (by first | exact h1 | rw [h1]; rfl) (by decide) (by decide) (by decide)
      exact (child_in h2 (by decide)).1)
  · intro k hk h1
    obtain ⟨_, h2, _⟩ := ok_abc h hk (m := 18) h1 (by decide) (by decide) (by decide)
    obtain ⟨_, x, hx, hi⟩ := child_in h2 (by decide)
    rw [nd_of hx]
    exact is_kind.1 hi
  · intro k hk h1
    obtain ⟨_, _, h2⟩ := ok_abc h hk (m := 19) h1 (by decide) (by decide) (by decide)
    rcases child_may h2 (by decide) (by decide) with h3 | ⟨h3, x, hx, hi⟩
    · exact .inl (by omega)
    · exact .inr ⟨h3, by rw [nd_of hx]; exact is_kind.1 hi⟩
  · intro k hk
    obtain ⟨j, hj⟩ := List.mem_iff_getElem?.1 hk
    have hlt := (List.getElem?_eq_some_iff.1 hj).1
    obtain ⟨h1, h2, x, hx, h3⟩ := h.types j hlt k hj
    have h0 : -1 ≤ prevY t j := by
      clear h1 h2 hx h3 hj hlt
      induction j with
      | zero => exact Int.le_refl _
      | succ j ih =>
        show -1 ≤ t.y.getD j 0
        by_cases hlt : j < t.y.length
        · have hj : t.y[j]? = some t.y[j] := List.getElem?_eq_getElem hlt
          have h1 := (h.types j hlt _ hj).1
          rw [List.getD_eq_getElem?_getD, hj]
          show -1 ≤ t.y[j]
          omega
        · rw [List.getD_eq_getElem?_getD, List.getElem?_eq_none (by omega)]
          decide
    exact ⟨⟨by omega, h2⟩, by rw [nd_of hx]; exact h3⟩
  · intro k hk h1
    obtain ⟨h2, _, _⟩ := ok_abc h hk (m := 42) h1 (by decide) (by decide) (by decide)
    obtain ⟨h3, x, hx, hi⟩ := child_in h2 (by decide)
    exact ⟨h3, by rw [nd_of hx]; exact is_kind.2 hi⟩
  · intro k hk h1
    obtain ⟨_, h2, _⟩ := ok_abc h hk (m := 43) h1 (by decide) (by decide) (by decide)
    rcases child_may h2 (by decide) (by decide) with h3 | ⟨h3, x, hx, hi⟩
    · exact .inl (by omega)
    · exact .inr ⟨h3, by rw [nd_of hx]; exact is_kind.2 hi⟩
end Go.Proofs.YtphojigdapaaiaaDoor
