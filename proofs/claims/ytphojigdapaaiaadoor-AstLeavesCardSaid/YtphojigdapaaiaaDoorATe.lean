/- The document's texts of nodes: it answers. -/
import Derived.Test.YtphojigdapaaiaaDoorAR1
namespace Go.Proofs.YtphojigdapaaiaaDoor
open Go.ChangeShapes Go.WideShapes Go.ChangeAt Go.RowKit
set_option linter.unusedVariables false
set_option linter.unusedSimpArgs false
set_option maxRecDepth 100000 in
set_option maxHeartbeats 16000000 in
theorem c19 (x : Nod) (ht : x.t.length ≤ 3000) (ht2 : x.t2.length ≤ 3000) (w : World) : Calls Tryd.prog 19 #[.agg (nodC x).toArray] w (BoolEnd w) := by
  show Calls Tryd.prog 19 #[.agg #[.int .i64 x.k, strV x.t, strV x.t2, .int .i64 x.n, .int .i64 x.a, .int .i64 x.b, .int .i64 x.c, .int .i64 x.h]] w _
  have hI := Blk.new w 30 #[.int .i64 x.k, strV x.t, strV x.t2, .int .i64 x.n, .int .i64 x.a, .int .i64 x.b, .int .i64 x.c, .int .i64 x.h]
  have hB := below_new w (.cells #[.int .i64 x.k, strV x.t, strV x.t2, .int .i64 x.n, .int .i64 x.a, .int .i64 x.b, .int .i64 x.c, .int .i64 x.h] 30)
  have hz1 := strV_size x.t
  have hz2 := strV_size x.t2
  have HLT := Lib.hid (show (⟨x.t.toArray⟩ : ByteArray).size ≤ 3000 by omega)
  have HLT2 := Lib.hid (show (⟨x.t2.toArray⟩ : ByteArray).size ≤ 3000 by omega)
  clear hz1 hz2
  generalize hw1 : w.alloc (.cells #[.int .i64 x.k, strV x.t, strV x.t2, .int .i64 x.n, .int .i64 x.a, .int .i64 x.b, .int .i64 x.c, .int .i64 x.h] 30) = w1 at hI hB
  have HI1 := Lib.hid hI
  have HB1 := Lib.hid hB
  clear hI hB
  go_enter Tryd.func19, Tryd.ntmps19
  go_upto_region 1 with fail
  clear hw1
  generalize w.heap.size = ib at HI1 ⊢
  have x1 : w1.cell? ⟨ib, 1, none⟩ = some (strV x.t) := HI1.out.cell 1
  go_wp2_with fail
  clear x1
  refine (c30 _ HLT.out w1).mono ?_
  rintro e w2 ⟨b, rfl, hb⟩
  have HI2 := Lib.hid (HI1.out.next hb)
  have HB2 := Lib.hid (next_ HB1.out hb)
  clear hb
  go_upto_region 2 with fail
  refine wp_region_held_drew (S := fun V => V.cell? ⟨ib, 1, none⟩ = some (strV x.t) ∧ V.cell? ⟨ib, 3, none⟩ = some (.int .i64 x.n)) (by kernel_rfl) ⟨HI2.out.cell 1, HI2.out.cell 3⟩ (fun hHeld => ?_)
  have HI3 := Lib.hid HI2.out.drew
  have HB3 := Lib.hid (Below.drew HB2.out)
  generalize w2.drew = w3 at HI3 HB3 hHeld ⊢
  refine wpAnyH_take (i := 0) (oi := ⟨some 9, _, _, _, _, _⟩) (v := ?_) rfl (by kernel_rfl) (by kernel_rfl) (by kernel_rfl) (fun _ _ _ h => h) (Or.inl ⟨by kernel_rfl, ?_⟩) (by assumption) ?_
  rotate_left
  · intro V hSw
    obtain ⟨z0, z1⟩ := hSw
    go_simp
    try with_reducible rfl
  try simp only [Act.put, List.setIfInBounds_toArray, List.set_cons_zero, List.set_cons_succ]
  refine wpAnyH_take (i := 1) (oi := ⟨some 10, _, _, _, _, _⟩) (v := ?_) rfl (by kernel_rfl) (by kernel_rfl) (by kernel_rfl) (fun _ _ _ h => h) (Or.inl ⟨by kernel_rfl, ?_⟩) (by assumption) ?_
  rotate_left
  · intro V hSw
    obtain ⟨z0, z1⟩ := hSw
    go_simp
    try with_reducible rfl
  try simp only [Act.put, List.setIfInBounds_toArray, List.set_cons_zero, List.set_cons_succ]
  refine wpAnyH_take (i := 2) (oi := ⟨some 11, _, _, _, _, _⟩) (v := ?_) rfl (by kernel_rfl) (by kernel_rfl) (by kernel_rfl) (fun _ _ _ h => h) (Or.inl ⟨by kernel_rfl, ?_⟩) (by assumption) ?_
  rotate_left
  · intro V hSw
    obtain ⟨z0, z1⟩ := hSw
    go_simp
    try with_reducible rfl
  try simp only [Act.put, List.setIfInBounds_toArray, List.set_cons_zero, List.set_cons_succ]
  refine wpAnyH_take (i := 3) (oi := ⟨some 12, _, _, _, _, _⟩) (v := ?_) rfl (by kernel_rfl) (by kernel_rfl) (by kernel_rfl) (fun _ _ _ h => h) (Or.inl ⟨by kernel_rfl, ?_⟩) (by assumption) ?_
  rotate_left
  · intro V hSw
    obtain ⟨z0, z1⟩ := hSw
    go_simp
    try with_reducible rfl
  try simp only [Act.put, List.setIfInBounds_toArray, List.set_cons_zero, List.set_cons_succ]
  refine wpAnyH_take (i := 4) (oi := ⟨some 13, _, _, _, _, _⟩) (v := ?_) rfl (by kernel_rfl) (by kernel_rfl) (by kernel_rfl) (fun _ _ _ h => h) (Or.inl ⟨by kernel_rfl, ?_⟩) (by assumption) ?_
  rotate_left
  · intro V hSw
    obtain ⟨z0, z1⟩ := hSw
    go_simp
    try with_reducible rfl
  try simp only [Act.put, List.setIfInBounds_toArray, List.set_cons_zero, List.set_cons_succ]
  refine wpAnyH_take (i := 5) (oi := ⟨some 14, _, _, _, _, _⟩) (v := ?_) rfl (by kernel_rfl) (by kernel_rfl) (by kernel_rfl) (fun _ _ _ h => h) (Or.inl ⟨by kernel_rfl, ?_⟩) (by assumption) ?_
  rotate_left
  · intro V hSw
    obtain ⟨z0, z1⟩ := hSw
    go_simp
    try with_reducible rfl
  try simp only [Act.put, List.setIfInBounds_toArray, List.set_cons_zero, List.set_cons_succ]
  refine wpAnyH_take (i := 6) (oi := ⟨some 4, _, _, _, _, _⟩) (v := ?_) rfl (by kernel_rfl) (by kernel_rfl) (by kernel_rfl) (fun _ _ _ h => h) (Or.inl ⟨by kernel_rfl, ?_⟩) (by assumption) ?_
  rotate_left
  · intro V hSw
    obtain ⟨z0, z1⟩ := hSw
    go_simp
    try with_reducible rfl
  try simp only [Act.put, List.setIfInBounds_toArray, List.set_cons_zero, List.set_cons_succ]
  refine wpAnyH_take (i := 7) (oi := ⟨some 5, _, _, _, _, _⟩) (v := ?_) rfl (by kernel_rfl) (by kernel_rfl) (by kernel_rfl) (fun _ _ _ h => h) (Or.inl ⟨by kernel_rfl, ?_⟩) (by assumption) ?_
  rotate_left
  · intro V hSw
    obtain ⟨z0, z1⟩ := hSw
    go_simp
    try with_reducible rfl
  try simp only [Act.put, List.setIfInBounds_toArray, List.set_cons_zero, List.set_cons_succ]
  refine wpAnyH_done (by kernel_rfl) ?_ _
  have z0 : w3.cell? ⟨ib, 0, none⟩ = some (.int .i64 x.k) := HI3.out.cell 0
  have z1 : w3.cell? ⟨ib, 1, none⟩ = some (strV x.t) := HI3.out.cell 1
  have z2 : w3.cell? ⟨ib, 2, none⟩ = some (strV x.t2) := HI3.out.cell 2
  have z3 : w3.cell? ⟨ib, 3, none⟩ = some (.int .i64 x.n) := HI3.out.cell 3
  by_cases h13 : x.k = 13
  · rw [h13] at z0
    cases b with
    | false =>
      go_wp2_with fail
      all_goals (go_ret; exact ⟨_, rfl, HB3.out⟩)
    | true =>
      go_wp2_with fail
      refine (c30 _ HLT2.out w3).mono ?_
      rintro e w4 ⟨b4, rfl, hb4⟩
      clear z0 z1 z2 z3
      have HB4 := Lib.hid (next_ HB3.out hb4)
      have HI4 := Lib.hid (HI3.out.next hb4)
      clear hb4
      have z0 : w4.cell? ⟨ib, 0, none⟩ = some (.int .i64 x.k) := HI4.out.cell 0
      have z1 : w4.cell? ⟨ib, 1, none⟩ = some (strV x.t) := HI4.out.cell 1
      have z2 : w4.cell? ⟨ib, 2, none⟩ = some (strV x.t2) := HI4.out.cell 2
      have z3 : w4.cell? ⟨ib, 3, none⟩ = some (.int .i64 x.n) := HI4.out.cell 3
      go_wp2_with fail
      all_goals (go_ret; exact ⟨_, rfl, HB4.out⟩)
  by_cases h4 : x.k = 4
  · rw [h4] at z0
    go_wp2_with fail
    refine (c32 _ HLT.out w3).mono ?_
    rintro e w4 ⟨q4, rfl, hb4⟩
    clear z0 z1 z2 z3
    have HB4 := Lib.hid (next_ HB3.out hb4)
    have HI4 := Lib.hid (HI3.out.next hb4)
    clear hb4
    have z0 : w4.cell? ⟨ib, 0, none⟩ = some (.int .i64 x.k) := HI4.out.cell 0
    have z1 : w4.cell? ⟨ib, 1, none⟩ = some (strV x.t) := HI4.out.cell 1
    have z2 : w4.cell? ⟨ib, 2, none⟩ = some (strV x.t2) := HI4.out.cell 2
    have z3 : w4.cell? ⟨ib, 3, none⟩ = some (.int .i64 x.n) := HI4.out.cell 3
    go_wp2_with fail
    all_goals (go_ret; exact ⟨_, rfl, HB4.out⟩)
  by_cases h6 : x.k = 6 ∨ x.k = 34 ∨ x.k = 43
  · rcases h6 with h6 | h6 | h6
    all_goals (
    rw [h6] at z0
    go_wp2_with fail
    refine (c31 _ HLT.out w3).mono ?_
    rintro e w4 ⟨b4, rfl, hb4⟩
    clear z0 z1 z2 z3
    have HB4 := Lib.hid (next_ HB3.out hb4)
    have HI4 := Lib.hid (HI3.out.next hb4)
    clear hb4
    have z0 : w4.cell? ⟨ib, 0, none⟩ = some (.int .i64 x.k) := HI4.out.cell 0
    have z1 : w4.cell? ⟨ib, 1, none⟩ = some (strV x.t) := HI4.out.cell 1
    have z2 : w4.cell? ⟨ib, 2, none⟩ = some (strV x.t2) := HI4.out.cell 2
    have z3 : w4.cell? ⟨ib, 3, none⟩ = some (.int .i64 x.n) := HI4.out.cell 3
    go_wp2_with fail
    all_goals (go_ret; exact ⟨_, rfl, HB4.out⟩))
  have e13 : (x.k == 13) = false := beq_false_of_ne h13
  have e4 : (x.k == 4) = false := beq_false_of_ne h4
  have e6 : (x.k == 6) = false := beq_false_of_ne (by omega)
  have e34 : (x.k == 34) = false := beq_false_of_ne (by omega)
  have e43 : (x.k == 43) = false := beq_false_of_ne (by omega)
  clear h13 h4 h6
  go_wp2_with fail
  all_goals (go_ret; exact ⟨_, rfl, HB3.out⟩)
end Go.Proofs.YtphojigdapaaiaaDoor
