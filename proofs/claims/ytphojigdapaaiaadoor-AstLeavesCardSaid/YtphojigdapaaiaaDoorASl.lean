/- The document's places of children: they answer. -/
import Derived.Test.YtphojigdapaaiaaDoorAR6
import Derived.Test.YtphojigdapaaiaaDoorACh
namespace Go.Proofs.YtphojigdapaaiaaDoor
open Go.ChangeShapes Go.WideShapes Go.ChangeAt Go.RowKit
set_option linter.unusedVariables false
set_option linter.unusedSimpArgs false
theorem far6 {w : World} {g b : Nat} {t : TypeId} {cs : Array Value} {v0 v1 v2 v3 v4 v5 : Value} (h : Blk w g t cs) (hne : g ≠ b) :
    Blk ((((((w.setCell ⟨b, 0, none⟩ v0).setCell ⟨b, 1, none⟩ v1).setCell ⟨b, 2, none⟩ v2).setCell ⟨b, 3, none⟩ v3).setCell ⟨b, 4, none⟩ v4).setCell ⟨b, 5, none⟩ v5) g t cs :=
  (((((h.far (p := ⟨b, 0, none⟩) hne v0).far (p := ⟨b, 1, none⟩) hne v1).far (p := ⟨b, 2, none⟩) hne v2).far (p := ⟨b, 3, none⟩) hne v3).far (p := ⟨b, 4, none⟩) hne v4).far (p := ⟨b, 5, none⟩) hne v5
def SlotsEnd (w : World) (e : Ending) (w' : World) : Prop := ∃ (a0 : Int) (b0 : Bool) (a1 : Int) (b1 : Bool) (a2 : Int) (b2 : Bool), e = .returned (.agg #[.int .i64 a0, .bool b0, .int .i64 a1, .bool b1, .int .i64 a2, .bool b2]) ∧ Below w.heap.size w w'
set_option maxRecDepth 100000 in
set_option maxHeartbeats 16000000 in
theorem c20 (x : Nod) (w : World) : Calls Tryd.prog 20 #[.agg (nodC x).toArray] w (SlotsEnd w) := by
  show Calls Tryd.prog 20 #[.agg #[.int .i64 x.k, strV x.t, strV x.t2, .int .i64 x.n, .int .i64 x.a, .int .i64 x.b, .int .i64 x.c, .int .i64 x.h]] w _
  have hI := Blk.new w 30 #[.int .i64 x.k, strV x.t, strV x.t2, .int .i64 x.n, .int .i64 x.a, .int .i64 x.b, .int .i64 x.c, .int .i64 x.h]
  have hB := below_new w (.cells #[.int .i64 x.k, strV x.t, strV x.t2, .int .i64 x.n, .int .i64 x.a, .int .i64 x.b, .int .i64 x.c, .int .i64 x.h] 30)
  generalize hw1 : w.alloc (.cells #[.int .i64 x.k, strV x.t, strV x.t2, .int .i64 x.n, .int .i64 x.a, .int .i64 x.b, .int .i64 x.c, .int .i64 x.h] 30) = w1 at hI hB
  have hR := Blk.new w1 49 #[.int .i64 0, .bool false, .int .i64 0, .bool false, .int .i64 0, .bool false]
  have hb1 := below_new w1 (.cells #[.int .i64 0, .bool false, .int .i64 0, .bool false, .int .i64 0, .bool false] 49)
  have hB1 := next_ hB hb1
  have hI1 := hI.next hb1
  have hle := hB.size
  generalize hw2 : w1.alloc (.cells #[.int .i64 0, .bool false, .int .i64 0, .bool false, .int .i64 0, .bool false] 49) = w2 at hR hB1 hI1
  have hO := Blk.new w2 48 #[.int .i64 1, .bool false]
  have hb2 := below_new w2 (.cells #[.int .i64 1, .bool false] 48)
  have HB := Lib.hid (next_ hB1 hb2)
  have HI := Lib.hid (hI1.next hb2)
  have HR := Lib.hid (hR.next hb2)
  have HO := Lib.hid hO
  have HLE := Lib.hid hle
  clear hI1 hR hB1 hle hI hB hb1 hb2 hO
  go_enter Tryd.func20, Tryd.ntmps20
  go_upto_region 2 with fail
  clear hw1 hw2
  generalize w2.alloc (.cells #[.int .i64 1, .bool false] 48) = w3 at HO HB HI HR ⊢
  generalize w2.heap.size = ob at HO ⊢
  generalize w1.heap.size = rb at HR HLE ⊢
  generalize w.heap.size = ib at HI ⊢
  have x3 : w3.cell? ⟨ib, 3, none⟩ = some (.int .i64 x.n) := HI.out.cell 3
  have o0 : w3.cell? ⟨ob, 0, none⟩ = some (.int .i64 1) := HO.out.cell 0
  have o1 : w3.cell? ⟨ob, 1, none⟩ = some (.bool false) := HO.out.cell 1
  have r0 : w3.cell? ⟨rb, 0, none⟩ = some (.int .i64 0) := HR.out.cell 0
  have f0 := HR.out.frozen 0
  have r1 : w3.cell? ⟨rb, 1, none⟩ = some (.bool false) := HR.out.cell 1
  have f1 := HR.out.frozen 1
  have r2 : w3.cell? ⟨rb, 2, none⟩ = some (.int .i64 0) := HR.out.cell 2
  have f2 := HR.out.frozen 2
  have r3 : w3.cell? ⟨rb, 3, none⟩ = some (.bool false) := HR.out.cell 3
  have f3 := HR.out.frozen 3
  have r4 : w3.cell? ⟨rb, 4, none⟩ = some (.int .i64 0) := HR.out.cell 4
  have f4 := HR.out.frozen 4
  have r5 : w3.cell? ⟨rb, 5, none⟩ = some (.bool false) := HR.out.cell 5
  have f5 := HR.out.frozen 5
  by_cases h24 : x.k = 24
  case neg =>
    have e24 : (x.k == 24) = false := beq_false_of_ne h24
    have x0 : w3.cell? ⟨ib, 0, none⟩ = some (.int .i64 x.k) := HI.out.cell 0
    clear h24
    go_wp2_with fail
    all_goals exact bodyPost_ret (results_cell_row rfl _ _ _ 49 _ (0, 0) _ rfl (row6 HR.out) Tryd.underlying49 rfl (by kernel_rfl)) rfl (⟨_, _, _, _, _, _, rfl, low6 HLE.out HB.out⟩ : SlotsEnd w _ _)
  case pos =>
    rw [h24] at HI
    have z0 : w3.cell? ⟨ib, 0, none⟩ = some (.int .i64 24) := HI.out.cell 0
    have z1 : w3.cell? ⟨ib, 1, none⟩ = some (strV x.t) := HI.out.cell 1
    have z2 : w3.cell? ⟨ib, 2, none⟩ = some (strV x.t2) := HI.out.cell 2
    have z3 : w3.cell? ⟨ib, 3, none⟩ = some (.int .i64 x.n) := HI.out.cell 3
    have z4 : w3.cell? ⟨ib, 4, none⟩ = some (.int .i64 x.a) := HI.out.cell 4
    have z5 : w3.cell? ⟨ib, 5, none⟩ = some (.int .i64 x.b) := HI.out.cell 5
    have z6 : w3.cell? ⟨ib, 6, none⟩ = some (.int .i64 x.c) := HI.out.cell 6
    have z7 : w3.cell? ⟨ib, 7, none⟩ = some (.int .i64 x.h) := HI.out.cell 7
    go_upto_region 27 with fail
    refine wp_region_held_drew (S := fun V => V.cell? ⟨ib, 0, none⟩ = some (.int .i64 24) ∧ V.cell? ⟨ib, 1, none⟩ = some (strV x.t) ∧ V.cell? ⟨ib, 2, none⟩ = some (strV x.t2) ∧ V.cell? ⟨ib, 3, none⟩ = some (.int .i64 x.n) ∧ V.cell? ⟨ib, 4, none⟩ = some (.int .i64 x.a) ∧ V.cell? ⟨ib, 5, none⟩ = some (.int .i64 x.b) ∧ V.cell? ⟨ib, 6, none⟩ = some (.int .i64 x.c) ∧ V.cell? ⟨ib, 7, none⟩ = some (.int .i64 x.h)) (by kernel_rfl) ⟨z0, z1, z2, z3, z4, z5, z6, z7⟩ (fun hHeld => ?_)
    clear z0 z1 z2 z3 z4 z5 z6 z7 x3 o0 o1 r0 f0 r1 f1 r2 f2 r3 f3 r4 f4 r5 f5
    have HIv0 := Lib.hid HI.out.drew
    have HRv0 := Lib.hid HR.out.drew
    have HBv0 := Lib.hid (Below.drew HB.out)
    generalize w3.drew = v0 at HIv0 HRv0 HBv0 hHeld ⊢
    refine wpAnyH_take (i := 0) (oi := ⟨some 50, _, _, _, _, _⟩) (v := ?_) rfl (by kernel_rfl) (by kernel_rfl) (by kernel_rfl) (fun _ _ _ h => h) (Or.inl ⟨by kernel_rfl, ?_⟩) (by assumption) ?_
    rotate_left
    · intro V hSw
      obtain ⟨z0, z1, z2, z3, z4, z5, z6, z7⟩ := hSw
      go_simp
      try with_reducible rfl
    try simp only [Act.put, List.setIfInBounds_toArray, List.set_cons_zero, List.set_cons_succ]
    refine wpAnyH_take (i := 2) (oi := ⟨some 52, _, _, _, _, _⟩) (v := ?_) rfl (by kernel_rfl) (by kernel_rfl) (by kernel_rfl) (fun _ _ _ h => h) (Or.inl ⟨by kernel_rfl, ?_⟩) (by assumption) ?_
    rotate_left
    · intro V hSw
      obtain ⟨z0, z1, z2, z3, z4, z5, z6, z7⟩ := hSw
      go_simp
      try with_reducible rfl
    try simp only [Act.put, List.setIfInBounds_toArray, List.set_cons_zero, List.set_cons_succ]
    refine wpAnyH_take (i := 4) (oi := ⟨some 54, _, _, _, _, _⟩) (v := ?_) rfl (by kernel_rfl) (by kernel_rfl) (by kernel_rfl) (fun _ _ _ h => h) (Or.inl ⟨by kernel_rfl, ?_⟩) (by assumption) ?_
    rotate_left
    · intro V hSw
      obtain ⟨z0, z1, z2, z3, z4, z5, z6, z7⟩ := hSw
      go_simp
      try with_reducible rfl
    try simp only [Act.put, List.setIfInBounds_toArray, List.set_cons_zero, List.set_cons_succ]
    refine wpAnyH_ready (rs := [1]) (by kernel_rfl) (by simp) ?_
    refine AllReadyH.cons (o := ⟨some 51, _, _, _, _, _⟩) rfl (fun K hK => ?_) AllReadyH.nil
    go_simp
    refine (show Calls Tryd.prog 33 #[.agg #[.int .i64 24, strV x.t, strV x.t2, .int .i64 x.n, .int .i64 x.a, .int .i64 x.b, .int .i64 x.c, .int .i64 x.h], .int .i64 0] v0 (SlotEnd v0) from c33 ⟨24, x.t, x.t2, x.n, x.a, x.b, x.c, x.h⟩ 0 v0).mono ?_
    rintro e v1 ⟨a0, b0, rfl, hb⟩
    have HIv1 := Lib.hid (HIv0.out.next hb)
    have HRv1 := Lib.hid (HRv0.out.next hb)
    have HBv1 := Lib.hid (next_ HBv0.out hb)
    clear hb
    go_wp2_with fail
    refine hK.out _ _ ?_ (fun hHeld => ?_)
    · exact ⟨HIv1.out.cell 0, HIv1.out.cell 1, HIv1.out.cell 2, HIv1.out.cell 3, HIv1.out.cell 4, HIv1.out.cell 5, HIv1.out.cell 6, HIv1.out.cell 7⟩
    clear hK K
    try simp only [Act.put, List.setIfInBounds_toArray, List.set_cons_zero, List.set_cons_succ]
    refine wpAnyH_ready (rs := [3]) (by kernel_rfl) (by simp) ?_
    refine AllReadyH.cons (o := ⟨some 53, _, _, _, _, _⟩) rfl (fun K hK => ?_) AllReadyH.nil
    go_simp
    refine (show Calls Tryd.prog 33 #[.agg #[.int .i64 24, strV x.t, strV x.t2, .int .i64 x.n, .int .i64 x.a, .int .i64 x.b, .int .i64 x.c, .int .i64 x.h], .int .i64 1] v1 (SlotEnd v1) from c33 ⟨24, x.t, x.t2, x.n, x.a, x.b, x.c, x.h⟩ 1 v1).mono ?_
    rintro e v2 ⟨a1, b1, rfl, hb⟩
    have HIv2 := Lib.hid (HIv1.out.next hb)
    have HRv2 := Lib.hid (HRv1.out.next hb)
    have HBv2 := Lib.hid (next_ HBv1.out hb)
    clear hb
    go_wp2_with fail
    refine hK.out _ _ ?_ (fun hHeld => ?_)
    · exact ⟨HIv2.out.cell 0, HIv2.out.cell 1, HIv2.out.cell 2, HIv2.out.cell 3, HIv2.out.cell 4, HIv2.out.cell 5, HIv2.out.cell 6, HIv2.out.cell 7⟩
    clear hK K
    try simp only [Act.put, List.setIfInBounds_toArray, List.set_cons_zero, List.set_cons_succ]
    refine wpAnyH_ready (rs := [5]) (by kernel_rfl) (by simp) ?_
    refine AllReadyH.cons (o := ⟨some 55, _, _, _, _, _⟩) rfl (fun K hK => ?_) AllReadyH.nil
    go_simp
    refine (show Calls Tryd.prog 33 #[.agg #[.int .i64 24, strV x.t, strV x.t2, .int .i64 x.n, .int .i64 x.a, .int .i64 x.b, .int .i64 x.c, .int .i64 x.h], .int .i64 2] v2 (SlotEnd v2) from c33 ⟨24, x.t, x.t2, x.n, x.a, x.b, x.c, x.h⟩ 2 v2).mono ?_
    rintro e v3 ⟨a2, b2, rfl, hb⟩
    have HIv3 := Lib.hid (HIv2.out.next hb)
    have HRv3 := Lib.hid (HRv2.out.next hb)
    have HBv3 := Lib.hid (next_ HBv2.out hb)
    clear hb
    go_wp2_with fail
    refine hK.out _ _ ?_ (fun hHeld => ?_)
    · exact ⟨HIv3.out.cell 0, HIv3.out.cell 1, HIv3.out.cell 2, HIv3.out.cell 3, HIv3.out.cell 4, HIv3.out.cell 5, HIv3.out.cell 6, HIv3.out.cell 7⟩
    clear hK K
    try simp only [Act.put, List.setIfInBounds_toArray, List.set_cons_zero, List.set_cons_succ]
    refine wpAnyH_take (i := 6) (oi := ⟨some 56, _, _, _, _, _⟩) (v := ?_) rfl (by kernel_rfl) (by kernel_rfl) (by kernel_rfl) (fun _ _ _ h => h) (Or.inl ⟨by kernel_rfl, ?_⟩) (by assumption) ?_
    rotate_left
    · intro V hSw
      obtain ⟨z0, z1, z2, z3, z4, z5, z6, z7⟩ := hSw
      go_simp
      try with_reducible rfl
    try simp only [Act.put, List.setIfInBounds_toArray, List.set_cons_zero, List.set_cons_succ]
    have r0 : v3.cell? ⟨rb, 0, none⟩ = some (.int .i64 0) := HRv3.out.cell 0
    have f0 := HRv3.out.frozen 0
    have r1 : v3.cell? ⟨rb, 1, none⟩ = some (.bool false) := HRv3.out.cell 1
    have f1 := HRv3.out.frozen 1
    have r2 : v3.cell? ⟨rb, 2, none⟩ = some (.int .i64 0) := HRv3.out.cell 2
    have f2 := HRv3.out.frozen 2
    have r3 : v3.cell? ⟨rb, 3, none⟩ = some (.bool false) := HRv3.out.cell 3
    have f3 := HRv3.out.frozen 3
    have r4 : v3.cell? ⟨rb, 4, none⟩ = some (.int .i64 0) := HRv3.out.cell 4
    have f4 := HRv3.out.frozen 4
    have r5 : v3.cell? ⟨rb, 5, none⟩ = some (.bool false) := HRv3.out.cell 5
    have f5 := HRv3.out.frozen 5
    refine wpAnyH_ready (rs := [7]) (by kernel_rfl) (by simp) ?_
    refine AllReadyH.cons (o := ⟨none, _, _, _, _, _⟩) rfl (fun K hK => ?_) AllReadyH.nil
    go_simp
    have hne := HIv3.out.ne_ HRv3.out (by decide)
    refine hK.out _ _ ?_ (fun hHeld => ?_)
    · exact ⟨(far6 HIv3.out hne).cell 0, (far6 HIv3.out hne).cell 1, (far6 HIv3.out hne).cell 2, (far6 HIv3.out hne).cell 3, (far6 HIv3.out hne).cell 4, (far6 HIv3.out hne).cell 5, (far6 HIv3.out hne).cell 6, (far6 HIv3.out hne).cell 7⟩
    clear hK K
    try simp only [Act.put, List.setIfInBounds_toArray, List.set_cons_zero, List.set_cons_succ]
    refine wpAnyH_done (by kernel_rfl) ?_ _
    go_wp2_with fail
    exact bodyPost_ret (results_cell_row rfl _ _ _ 49 _ (0, 0) _ rfl (row6 HRv3.out) Tryd.underlying49 rfl (by kernel_rfl)) rfl (⟨_, _, _, _, _, _, rfl, low6 HLE.out HBv3.out⟩ : SlotsEnd w _ _)
end Go.Proofs.YtphojigdapaaiaaDoor
