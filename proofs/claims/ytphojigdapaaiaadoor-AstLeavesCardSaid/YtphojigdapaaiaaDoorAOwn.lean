/- keep.OwnTree. -/
import Derived.Test.YtphojigdapaaiaaDoorALg
namespace Go.Proofs.YtphojigdapaaiaaDoor
open Go.ChangeShapes Go.WideShapes Go.ChangeAt Go.RowKit
set_option linter.unusedVariables false
set_option linter.unusedSimpArgs false
theorem nod_one1 (p : Nod) : ∀ u ∈ nodC p, u.oneCell' = true := by simp [nodC, Value.oneCell']
theorem nod_one (l : List Nod) : ∀ u ∈ l.flatMap nodC, u.oneCell' = true := fun u hu => by
  obtain ⟨p, _, h⟩ := List.mem_flatMap.1 hu
  exact nod_one1 p u h
theorem int_one (l : List Int) : ∀ u ∈ l.map intV, u.oneCell' = true := fun u hu => by
  obtain ⟨p, _, rfl⟩ := List.mem_map.1 hu
  rfl
theorem node_info : (Tryd.prog.info? 30).map (fun i => (i.zero, i.size, i.bytes)) = some (some (.agg #[.int .i64 0, .string ⟨#[]⟩, .string ⟨#[]⟩, .int .i64 0, .int .i64 0, .int .i64 0, .int .i64 0, .int .i64 0]), 8, 80) := by kernel_rfl
theorem int_info : (Tryd.prog.info? 3).map (fun i => (i.zero, i.size, i.bytes)) = some (some (.int .i64 0), 1, 8) := by kernel_rfl
theorem tree_end {w W : World} {x y x0 y0 u0 : Value} {rb n m : Nat} {xs ys : List Value} (hA : w.ownsRow W.heap.size 30 8 x n xs) (hB : w.ownsRow W.heap.size 3 1 y m ys) (R : Blk w rb 25 #[x0, y0, u0]) (L : Below W.heap.size W w) (hrb : W.heap.size ≤ rb) (r : Int) :
    (((w.setCell ⟨rb, 0, none⟩ x).setCell ⟨rb, 1, none⟩ y).setCell ⟨rb, 2, none⟩ (.int .i64 r)).ownsRow W.heap.size 30 8 x n xs ∧ (((w.setCell ⟨rb, 0, none⟩ x).setCell ⟨rb, 1, none⟩ y).setCell ⟨rb, 2, none⟩ (.int .i64 r)).ownsRow W.heap.size 3 1 y m ys ∧ Blk (((w.setCell ⟨rb, 0, none⟩ x).setCell ⟨rb, 1, none⟩ y).setCell ⟨rb, 2, none⟩ (.int .i64 r)) rb 25 #[x, y, .int .i64 r] ∧ Below W.heap.size W (((w.setCell ⟨rb, 0, none⟩ x).setCell ⟨rb, 1, none⟩ y).setCell ⟨rb, 2, none⟩ (.int .i64 r)) := by
  have r1 := R.set_ 0 x
  have r2 := r1.set_ 1 y
  exact ⟨own_set (own_set (own_set hA R (by decide)) r1 (by decide)) r2 (by decide), own_set (own_set (own_set hB R (by decide)) r1 (by decide)) r2 (by decide), r2.set_ 2 _, ((L.setCell (p := ⟨rb, 0, none⟩) hrb x).setCell (p := ⟨rb, 1, none⟩) hrb y).setCell (p := ⟨rb, 2, none⟩) hrb _⟩
/-- A tree of the call's own. -/
def TreeBack (t : Tre) (W : World) (e : Ending) (W' : World) : Prop := ∃ A c A' c', e = .returned (treV A c A' c' t) ∧ W'.ownsRow W.heap.size 30 8 (.slice A t.l.length c) t.l.length (t.l.flatMap nodC) ∧ W'.ownsRow W.heap.size 3 1 (.slice A' t.y.length c') t.y.length (t.y.map intV) ∧ Below W.heap.size W W'
set_option maxRecDepth 100000 in
set_option maxHeartbeats 8000000 in
theorem c9 (t : Tre) (A A' : Option Addr) (c c' : Nat) (W : World) (ht : TreIs W A A' t) (hl : t.l.length ≤ 3000) (hy : t.y.length ≤ 3000) :
    Calls Tryd.prog 9 #[treV A c A' c' t] W (TreeBack t W) := by
  have HT := Lib.hid ht
  clear ht
  obtain ⟨i30, fi30, hz0, hz1, hz2⟩ := info_parts node_info
  obtain ⟨i3, fi3, iz0, iz1, iz2⟩ := info_parts int_info
  have H30 := Lib.hid (show i30.zero = some (.agg #[.int .i64 0, .string ⟨#[]⟩, .string ⟨#[]⟩, .int .i64 0, .int .i64 0, .int .i64 0, .int .i64 0, .int .i64 0]) ∧ i30.size = 8 ∧ i30.bytes = 80 from ⟨hz0, hz1, hz2⟩)
  have H3 := Lib.hid (show i3.zero = some (.int .i64 0) ∧ i3.size = 1 ∧ i3.bytes = 8 from ⟨iz0, iz1, iz2⟩)
  clear hz0 hz1 hz2 iz0 iz1 iz2
  show Calls Tryd.prog 9 #[.agg #[.slice A t.l.length c, .slice A' t.y.length c', .int .i64 t.r]] W _
  go_enter Tryd.func9, Tryd.ntmps9
  go_upto_region 1 with fail
  have hX := Blk.new W 25 #[.slice A t.l.length c, .slice A' t.y.length c', .int .i64 t.r]
  have hb0 := below_new W (.cells #[.slice A t.l.length c, .slice A' t.y.length c', .int .i64 t.r] 25)
  have hs0 : (W.alloc (.cells #[.slice A t.l.length c, .slice A' t.y.length c', .int .i64 t.r] 25)).heap.size = W.heap.size + 1 := by rw [World.size_alloc]
  have hR := Blk.new (W.alloc (.cells #[.slice A t.l.length c, .slice A' t.y.length c', .int .i64 t.r] 25)) 25 #[.slice none 0 0, .slice none 0 0, .int .i64 0]
  rw [hs0] at hR
  have hX1 := hX.alloc (.cells #[.slice none 0 0, .slice none 0 0, .int .i64 0] 25)
  have hb1 := hb0.alloc hb0.size (.cells #[.slice none 0 0, .slice none 0 0, .int .i64 0] 25)
  have hN := Reads.below HT.out.nodes hb1
  have hY := Reads.below HT.out.types hb1
  generalize (W.alloc (.cells #[.slice A t.l.length c, .slice A' t.y.length c', .int .i64 t.r] 25)).alloc (.cells #[.slice none 0 0, .slice none 0 0, .int .i64 0] 25) = w1 at hR hX1 hb1 hN hY ⊢
  clear hX hb0 hs0
  have hrb : W.heap.size ≤ W.heap.size + 1 := by omega
  generalize W.heap.size + 1 = rb at hR hrb ⊢
  generalize W.heap.size = xb at hX1 ⊢
  refine wp_region_last (S := fun V => V.cell? ⟨xb, 0, none⟩ = some (.slice A t.l.length c) ∧ V.cell? ⟨xb, 1, none⟩ = some (.slice A' t.y.length c') ∧ V.cell? ⟨xb, 2, none⟩ = some (.int .i64 t.r)) 11 (by kernel_rfl) (by kernel_rfl) (by kernel_rfl) (by kernel_rfl) ⟨hX1.cell 0, hX1.cell 1, hX1.cell 2⟩ (fun hHeld => ?_)
  have Ld := Below.drew hb1
  have Xd := hX1.drew
  have Rd := hR.drew
  have Nd := Reads.below hN (Below.drew (Below.refl _ w1))
  have Yd := Reads.below hY (Below.drew (Below.refl _ w1))
  generalize w1.drew = d at Ld Xd Rd Nd Yd hHeld ⊢
  clear hX1 hb1 hN hY hR
  refine wpAnyH_take (i := 1) (oi := ⟨some 4, _, _, _, _, _⟩) (v := ?_) rfl (by kernel_rfl) (by kernel_rfl) (by kernel_rfl) (fun _ _ _ h => h) (Or.inl ⟨by kernel_rfl, ?_⟩) (by assumption) ?_
  rotate_left
  · intro V hSw
    obtain ⟨z0, z1, z2⟩ := hSw
    go_simp
    try with_reducible rfl
  try simp only [Act.put, List.setIfInBounds_toArray, List.set_cons_zero, List.set_cons_succ]
  refine wpAnyH_take (i := 2) (oi := ⟨some 5, _, _, _, _, _⟩) (v := ?_) rfl (by kernel_rfl) (by kernel_rfl) (by kernel_rfl) (fun _ _ _ h => h) (Or.inl ⟨by kernel_rfl, ?_⟩) (by assumption) ?_
  rotate_left
  · intro V hSw
    obtain ⟨z0, z1, z2⟩ := hSw
    go_simp
    try with_reducible rfl
  try simp only [Act.put, List.setIfInBounds_toArray, List.set_cons_zero, List.set_cons_succ]
  refine wpAnyH_take (i := 5) (oi := ⟨some 8, _, _, _, _, _⟩) (v := ?_) rfl (by kernel_rfl) (by kernel_rfl) (by kernel_rfl) (fun _ _ _ h => h) (Or.inl ⟨by kernel_rfl, ?_⟩) (by assumption) ?_
  rotate_left
  · intro V hSw
    obtain ⟨z0, z1, z2⟩ := hSw
    go_simp
    try with_reducible rfl
  try simp only [Act.put, List.setIfInBounds_toArray, List.set_cons_zero, List.set_cons_succ]
  refine wpAnyH_take (i := 6) (oi := ⟨some 9, _, _, _, _, _⟩) (v := ?_) rfl (by kernel_rfl) (by kernel_rfl) (by kernel_rfl) (fun _ _ _ h => h) (Or.inl ⟨by kernel_rfl, ?_⟩) (by assumption) ?_
  rotate_left
  · intro V hSw
    obtain ⟨z0, z1, z2⟩ := hSw
    go_simp
    try with_reducible rfl
  try simp only [Act.put, List.setIfInBounds_toArray, List.set_cons_zero, List.set_cons_succ]
  refine wpAnyH_take (i := 8) (oi := ⟨some 11, _, _, _, _, _⟩) (v := ?_) rfl (by kernel_rfl) (by kernel_rfl) (by kernel_rfl) (fun _ _ _ h => h) (Or.inl ⟨by kernel_rfl, ?_⟩) (by assumption) ?_
  rotate_left
  · intro V hSw
    obtain ⟨z0, z1, z2⟩ := hSw
    go_simp
    try with_reducible rfl
  try simp only [Act.put, List.setIfInBounds_toArray, List.set_cons_zero, List.set_cons_succ]
  refine wpAnyH_take (i := 9) (oi := ⟨some 12, _, _, _, _, _⟩) (v := ?_) rfl (by kernel_rfl) (by kernel_rfl) (by kernel_rfl) (fun _ _ _ h => h) (Or.inl ⟨by kernel_rfl, ?_⟩) (by assumption) ?_
  rotate_left
  · intro V hSw
    obtain ⟨z0, z1, z2⟩ := hSw
    go_simp
    try with_reducible rfl
  try simp only [Act.put, List.setIfInBounds_toArray, List.set_cons_zero, List.set_cons_succ]
  refine wpAnyH_ready (rs := [0, 4]) (by kernel_rfl) (by simp) ?_
  refine (AllReadyH.cons (o := ⟨some 3, _, _, _, _, _⟩) rfl (fun K hK => ?_) (AllReadyH.cons (o := ⟨some 7, _, _, _, _, _⟩) rfl (fun K hK => ?_) AllReadyH.nil))
  · go_simp
    refine hK.out _ _ ?_ (fun hHeld => ?_)
    · exact ⟨(Xd.alloc _).cell 0, (Xd.alloc _).cell 1, (Xd.alloc _).cell 2⟩
    clear hK K
    try simp only [Act.put, List.setIfInBounds_toArray, List.set_cons_zero, List.set_cons_succ]
    have Ad0 := own_new d (b := W.heap.size) (n := 0) (e := 30) (s := 8) (xs := []) Ld.size rfl (by unfold maxLen; decide)
    have Ld0 := Ld.alloc Ld.size (.cells #[] 30)
    have Xd0 := Xd.alloc (.cells #[] 30)
    have Rd0 := Rd.alloc (.cells #[] 30)
    have Nd0 := Nd.alloc Ld.size (.cells #[] 30)
    have Yd0 := Yd.alloc Ld.size (.cells #[] 30)
    generalize d.heap.size = b0 at Ad0 ⊢
    generalize d.alloc (.cells #[] 30) = d0 at Ld0 Xd0 Rd0 Nd0 Yd0 Ad0 hHeld ⊢
    refine wpAnyH_ready (rs := [3, 4]) (by kernel_rfl) (by simp) ?_
    refine (AllReadyH.cons (o := ⟨some 6, _, _, _, _, _⟩) rfl (fun K hK => ?_) (AllReadyH.cons (o := ⟨some 7, _, _, _, _, _⟩) rfl (fun K hK => ?_) AllReadyH.nil))
    · refine step_append_any _ (by rfl) (.tmp 3) (.tmp 5) 22 (by rfl) W.heap.size 30 i30 _ 8 80 Tryd.underlying22 fi30 H30.out.1 H30.out.2.1 H30.out.2.2 rfl (by omega) (.slice (some ⟨b0, 0, none⟩) 0 0) 0 [] (by rfl) Ad0 W.heap.size A t.l.length c (t.l.flatMap nodC) (by rfl) Nd0 (nod_one _) (by unfold maxLen; omega) (by omega) Ld0.size ?_
      intro e3 d03 od03 gd03 nd03
      rw [Nat.zero_add, List.nil_append] at od03
      obtain ⟨V3, d3, rfl⟩ := own_form od03
      have Xd03 := Xd0.grown gd03 (fun e => own_blk_ne Ad0 Xd0 (by decide) e.symm)
      have Rd03 := Rd0.grown gd03 (fun e => own_blk_ne Ad0 Rd0 (by decide) e.symm)
      have Ld03' := (Below.refl W.heap.size d0).grown gd03 Ld0.size (fun k e => (Ad0.lt k e).1)
      have Ld03 := Ld0.trans Ld03'
      have Nd03 := Reads.below Nd0 Ld03'
      have Yd03 := Reads.below Yd0 Ld03'
      have Ad03 := od03
      refine hK.out _ _ ?_ (fun hHeld => ?_)
      · exact ⟨Xd03.cell 0, Xd03.cell 1, Xd03.cell 2⟩
      clear hK K
      try simp only [Act.put, List.setIfInBounds_toArray, List.set_cons_zero, List.set_cons_succ]
      refine wpAnyH_ready (rs := [4]) (by kernel_rfl) (by simp) ?_
      refine (AllReadyH.cons (o := ⟨some 7, _, _, _, _, _⟩) rfl (fun K hK => ?_) AllReadyH.nil)
      · go_simp
        refine hK.out _ _ ?_ (fun hHeld => ?_)
        · exact ⟨(Xd03.alloc _).cell 0, (Xd03.alloc _).cell 1, (Xd03.alloc _).cell 2⟩
        clear hK K
        try simp only [Act.put, List.setIfInBounds_toArray, List.set_cons_zero, List.set_cons_succ]
        have Bd034 := own_new d03 (b := W.heap.size) (n := 0) (e := 3) (s := 1) (xs := []) Ld03.size rfl (by unfold maxLen; decide)
        have Ld034 := Ld03.alloc Ld03.size (.cells #[] 3)
        have Xd034 := Xd03.alloc (.cells #[] 3)
        have Rd034 := Rd03.alloc (.cells #[] 3)
        have Nd034 := Nd03.alloc Ld03.size (.cells #[] 3)
        have Yd034 := Yd03.alloc Ld03.size (.cells #[] 3)
        have Ad034 := Ad03.alloc (.cells #[] 3)
        generalize d03.heap.size = b4 at Bd034 ⊢
        generalize d03.alloc (.cells #[] 3) = d034 at Ld034 Xd034 Rd034 Nd034 Yd034 Bd034 Ad034 hHeld ⊢
        refine wpAnyH_ready (rs := [7]) (by kernel_rfl) (by simp) ?_
        refine (AllReadyH.cons (o := ⟨some 10, _, _, _, _, _⟩) rfl (fun K hK => ?_) AllReadyH.nil)
        · refine step_append_any _ (by rfl) (.tmp 7) (.tmp 9) 23 (by rfl) W.heap.size 3 i3 _ 1 8 Tryd.underlying23 fi3 H3.out.1 H3.out.2.1 H3.out.2.2 rfl (by omega) (.slice (some ⟨b4, 0, none⟩) 0 0) 0 [] (by rfl) Bd034 W.heap.size A' t.y.length c' (t.y.map intV) (by rfl) Yd034 (int_one _) (by unfold maxLen; omega) (by omega) Ld034.size ?_
          intro e7 d0347 od0347 gd0347 nd0347
          rw [Nat.zero_add, List.nil_append] at od0347
          obtain ⟨V7, d7, rfl⟩ := own_form od0347
          have Xd0347 := Xd034.grown gd0347 (fun e => own_blk_ne Bd034 Xd034 (by decide) e.symm)
          have Rd0347 := Rd034.grown gd0347 (fun e => own_blk_ne Bd034 Rd034 (by decide) e.symm)
          have Ld0347' := (Below.refl W.heap.size d034).grown gd0347 Ld034.size (fun k e => (Bd034.lt k e).1)
          have Ld0347 := Ld034.trans Ld0347'
          have Nd0347 := Reads.below Nd034 Ld0347'
          have Yd0347 := Reads.below Yd034 Ld0347'
          have Bd0347 := od0347
          have Ad0347 := Ad034.kept gd0347 (own_own_ne Ad034 Bd034 (by decide))
          refine hK.out _ _ ?_ (fun hHeld => ?_)
          · exact ⟨Xd0347.cell 0, Xd0347.cell 1, Xd0347.cell 2⟩
          clear hK K
          try simp only [Act.put, List.setIfInBounds_toArray, List.set_cons_zero, List.set_cons_succ]
          refine wpAnyH_take (i := 10) (oi := ⟨some 13, _, _, _, _, _⟩) (v := ?_) rfl (by kernel_rfl) (by kernel_rfl) (by kernel_rfl) (fun _ _ _ h => h) (Or.inl ⟨by kernel_rfl, ?_⟩) (by assumption) ?_
          rotate_left
          · intro V hSw
            go_simp
            try with_reducible rfl
          try simp only [Act.put, List.setIfInBounds_toArray, List.set_cons_zero, List.set_cons_succ]
          refine wpAnyH_done (by kernel_rfl) ?_ _
          have r0 := Rd0347.cell 0
          have r1 := Rd0347.cell 1
          have r2 := Rd0347.cell 2
          have z0 := Rd0347.frozen 0
          have z1 := Rd0347.frozen 1
          have z2 := Rd0347.frozen 2
          refine lastPost_run (o := ⟨none, _, _, _, _, _⟩) rfl (fun K hK => ?_)
          go_simp
          refine hK.out _ _ ?_
          clear hK K r0 r1 r2 z0 z1 z2 hHeld
          have hend := tree_end (Ad0347) (Bd0347) Rd0347 Ld0347 hrb t.r
          obtain ⟨k1, k2, k3, k4⟩ := hend
          go_wp2_with fail
          exact bodyPost_ret (results_cell_row rfl _ _ _ 25 _ (0, 0) _ rfl k3 Tryd.underlying25 rfl (by kernel_rfl)) rfl ⟨_, _, _, _, rfl, k1, k2, k4⟩



    · go_simp
      refine hK.out _ _ ?_ (fun hHeld => ?_)
      · exact ⟨(Xd0.alloc _).cell 0, (Xd0.alloc _).cell 1, (Xd0.alloc _).cell 2⟩
      clear hK K
      try simp only [Act.put, List.setIfInBounds_toArray, List.set_cons_zero, List.set_cons_succ]
      have Bd04 := own_new d0 (b := W.heap.size) (n := 0) (e := 3) (s := 1) (xs := []) Ld0.size rfl (by unfold maxLen; decide)
      have Ld04 := Ld0.alloc Ld0.size (.cells #[] 3)
      have Xd04 := Xd0.alloc (.cells #[] 3)
      have Rd04 := Rd0.alloc (.cells #[] 3)
      have Nd04 := Nd0.alloc Ld0.size (.cells #[] 3)
      have Yd04 := Yd0.alloc Ld0.size (.cells #[] 3)
      have Ad04 := Ad0.alloc (.cells #[] 3)
      generalize d0.heap.size = b4 at Bd04 ⊢
      generalize d0.alloc (.cells #[] 3) = d04 at Ld04 Xd04 Rd04 Nd04 Yd04 Bd04 Ad04 hHeld ⊢
      refine wpAnyH_ready (rs := [3]) (by kernel_rfl) (by simp) ?_
      refine (AllReadyH.cons (o := ⟨some 6, _, _, _, _, _⟩) rfl (fun K hK => ?_) AllReadyH.nil)
      · refine step_append_any _ (by rfl) (.tmp 3) (.tmp 5) 22 (by rfl) W.heap.size 30 i30 _ 8 80 Tryd.underlying22 fi30 H30.out.1 H30.out.2.1 H30.out.2.2 rfl (by omega) (.slice (some ⟨b0, 0, none⟩) 0 0) 0 [] (by rfl) Ad04 W.heap.size A t.l.length c (t.l.flatMap nodC) (by rfl) Nd04 (nod_one _) (by unfold maxLen; omega) (by omega) Ld04.size ?_
        intro e3 d043 od043 gd043 nd043
        rw [Nat.zero_add, List.nil_append] at od043
        obtain ⟨V3, d3, rfl⟩ := own_form od043
        have Xd043 := Xd04.grown gd043 (fun e => own_blk_ne Ad04 Xd04 (by decide) e.symm)
        have Rd043 := Rd04.grown gd043 (fun e => own_blk_ne Ad04 Rd04 (by decide) e.symm)
        have Ld043' := (Below.refl W.heap.size d04).grown gd043 Ld04.size (fun k e => (Ad04.lt k e).1)
        have Ld043 := Ld04.trans Ld043'
        have Nd043 := Reads.below Nd04 Ld043'
        have Yd043 := Reads.below Yd04 Ld043'
        have Ad043 := od043
        have Bd043 := Bd04.kept gd043 (own_own_ne Bd04 Ad04 (by decide))
        refine hK.out _ _ ?_ (fun hHeld => ?_)
        · exact ⟨Xd043.cell 0, Xd043.cell 1, Xd043.cell 2⟩
        clear hK K
        try simp only [Act.put, List.setIfInBounds_toArray, List.set_cons_zero, List.set_cons_succ]
        refine wpAnyH_ready (rs := [7]) (by kernel_rfl) (by simp) ?_
        refine (AllReadyH.cons (o := ⟨some 10, _, _, _, _, _⟩) rfl (fun K hK => ?_) AllReadyH.nil)
        · refine step_append_any _ (by rfl) (.tmp 7) (.tmp 9) 23 (by rfl) W.heap.size 3 i3 _ 1 8 Tryd.underlying23 fi3 H3.out.1 H3.out.2.1 H3.out.2.2 rfl (by omega) (.slice (some ⟨b4, 0, none⟩) 0 0) 0 [] (by rfl) Bd043 W.heap.size A' t.y.length c' (t.y.map intV) (by rfl) Yd043 (int_one _) (by unfold maxLen; omega) (by omega) Ld043.size ?_
          intro e7 d0437 od0437 gd0437 nd0437
          rw [Nat.zero_add, List.nil_append] at od0437
          obtain ⟨V7, d7, rfl⟩ := own_form od0437
          have Xd0437 := Xd043.grown gd0437 (fun e => own_blk_ne Bd043 Xd043 (by decide) e.symm)
          have Rd0437 := Rd043.grown gd0437 (fun e => own_blk_ne Bd043 Rd043 (by decide) e.symm)
          have Ld0437' := (Below.refl W.heap.size d043).grown gd0437 Ld043.size (fun k e => (Bd043.lt k e).1)
          have Ld0437 := Ld043.trans Ld0437'
          have Nd0437 := Reads.below Nd043 Ld0437'
          have Yd0437 := Reads.below Yd043 Ld0437'
          have Bd0437 := od0437
          have Ad0437 := Ad043.kept gd0437 (own_own_ne Ad043 Bd043 (by decide))
          refine hK.out _ _ ?_ (fun hHeld => ?_)
          · exact ⟨Xd0437.cell 0, Xd0437.cell 1, Xd0437.cell 2⟩
          clear hK K
          try simp only [Act.put, List.setIfInBounds_toArray, List.set_cons_zero, List.set_cons_succ]
          refine wpAnyH_take (i := 10) (oi := ⟨some 13, _, _, _, _, _⟩) (v := ?_) rfl (by kernel_rfl) (by kernel_rfl) (by kernel_rfl) (fun _ _ _ h => h) (Or.inl ⟨by kernel_rfl, ?_⟩) (by assumption) ?_
          rotate_left
          · intro V hSw
            go_simp
            try with_reducible rfl
          try simp only [Act.put, List.setIfInBounds_toArray, List.set_cons_zero, List.set_cons_succ]
          refine wpAnyH_done (by kernel_rfl) ?_ _
          have r0 := Rd0437.cell 0
          have r1 := Rd0437.cell 1
          have r2 := Rd0437.cell 2
          have z0 := Rd0437.frozen 0
          have z1 := Rd0437.frozen 1
          have z2 := Rd0437.frozen 2
          refine lastPost_run (o := ⟨none, _, _, _, _, _⟩) rfl (fun K hK => ?_)
          go_simp
          refine hK.out _ _ ?_
          clear hK K r0 r1 r2 z0 z1 z2 hHeld
          have hend := tree_end (Ad0437) (Bd0437) Rd0437 Ld0437 hrb t.r
          obtain ⟨k1, k2, k3, k4⟩ := hend
          go_wp2_with fail
          exact bodyPost_ret (results_cell_row rfl _ _ _ 25 _ (0, 0) _ rfl k3 Tryd.underlying25 rfl (by kernel_rfl)) rfl ⟨_, _, _, _, rfl, k1, k2, k4⟩




  · go_simp
    refine hK.out _ _ ?_ (fun hHeld => ?_)
    · exact ⟨(Xd.alloc _).cell 0, (Xd.alloc _).cell 1, (Xd.alloc _).cell 2⟩
    clear hK K
    try simp only [Act.put, List.setIfInBounds_toArray, List.set_cons_zero, List.set_cons_succ]
    have Bd4 := own_new d (b := W.heap.size) (n := 0) (e := 3) (s := 1) (xs := []) Ld.size rfl (by unfold maxLen; decide)
    have Ld4 := Ld.alloc Ld.size (.cells #[] 3)
    have Xd4 := Xd.alloc (.cells #[] 3)
    have Rd4 := Rd.alloc (.cells #[] 3)
    have Nd4 := Nd.alloc Ld.size (.cells #[] 3)
    have Yd4 := Yd.alloc Ld.size (.cells #[] 3)
    generalize d.heap.size = b4 at Bd4 ⊢
    generalize d.alloc (.cells #[] 3) = d4 at Ld4 Xd4 Rd4 Nd4 Yd4 Bd4 hHeld ⊢
    refine wpAnyH_ready (rs := [0]) (by kernel_rfl) (by simp) ?_
    refine (AllReadyH.cons (o := ⟨some 3, _, _, _, _, _⟩) rfl (fun K hK => ?_) AllReadyH.nil)
    · go_simp
      refine hK.out _ _ ?_ (fun hHeld => ?_)
      · exact ⟨(Xd4.alloc _).cell 0, (Xd4.alloc _).cell 1, (Xd4.alloc _).cell 2⟩
      clear hK K
      try simp only [Act.put, List.setIfInBounds_toArray, List.set_cons_zero, List.set_cons_succ]
      have Ad40 := own_new d4 (b := W.heap.size) (n := 0) (e := 30) (s := 8) (xs := []) Ld4.size rfl (by unfold maxLen; decide)
      have Ld40 := Ld4.alloc Ld4.size (.cells #[] 30)
      have Xd40 := Xd4.alloc (.cells #[] 30)
      have Rd40 := Rd4.alloc (.cells #[] 30)
      have Nd40 := Nd4.alloc Ld4.size (.cells #[] 30)
      have Yd40 := Yd4.alloc Ld4.size (.cells #[] 30)
      have Bd40 := Bd4.alloc (.cells #[] 30)
      generalize d4.heap.size = b0 at Ad40 ⊢
      generalize d4.alloc (.cells #[] 30) = d40 at Ld40 Xd40 Rd40 Nd40 Yd40 Ad40 Bd40 hHeld ⊢
      refine wpAnyH_ready (rs := [3]) (by kernel_rfl) (by simp) ?_
      refine (AllReadyH.cons (o := ⟨some 6, _, _, _, _, _⟩) rfl (fun K hK => ?_) AllReadyH.nil)
      · refine step_append_any _ (by rfl) (.tmp 3) (.tmp 5) 22 (by rfl) W.heap.size 30 i30 _ 8 80 Tryd.underlying22 fi30 H30.out.1 H30.out.2.1 H30.out.2.2 rfl (by omega) (.slice (some ⟨b0, 0, none⟩) 0 0) 0 [] (by rfl) Ad40 W.heap.size A t.l.length c (t.l.flatMap nodC) (by rfl) Nd40 (nod_one _) (by unfold maxLen; omega) (by omega) Ld40.size ?_
        intro e3 d403 od403 gd403 nd403
        rw [Nat.zero_add, List.nil_append] at od403
        obtain ⟨V3, d3, rfl⟩ := own_form od403
        have Xd403 := Xd40.grown gd403 (fun e => own_blk_ne Ad40 Xd40 (by decide) e.symm)
        have Rd403 := Rd40.grown gd403 (fun e => own_blk_ne Ad40 Rd40 (by decide) e.symm)
        have Ld403' := (Below.refl W.heap.size d40).grown gd403 Ld40.size (fun k e => (Ad40.lt k e).1)
        have Ld403 := Ld40.trans Ld403'
        have Nd403 := Reads.below Nd40 Ld403'
        have Yd403 := Reads.below Yd40 Ld403'
        have Ad403 := od403
        have Bd403 := Bd40.kept gd403 (own_own_ne Bd40 Ad40 (by decide))
        refine hK.out _ _ ?_ (fun hHeld => ?_)
        · exact ⟨Xd403.cell 0, Xd403.cell 1, Xd403.cell 2⟩
        clear hK K
        try simp only [Act.put, List.setIfInBounds_toArray, List.set_cons_zero, List.set_cons_succ]
        refine wpAnyH_ready (rs := [7]) (by kernel_rfl) (by simp) ?_
        refine (AllReadyH.cons (o := ⟨some 10, _, _, _, _, _⟩) rfl (fun K hK => ?_) AllReadyH.nil)
        · refine step_append_any _ (by rfl) (.tmp 7) (.tmp 9) 23 (by rfl) W.heap.size 3 i3 _ 1 8 Tryd.underlying23 fi3 H3.out.1 H3.out.2.1 H3.out.2.2 rfl (by omega) (.slice (some ⟨b4, 0, none⟩) 0 0) 0 [] (by rfl) Bd403 W.heap.size A' t.y.length c' (t.y.map intV) (by rfl) Yd403 (int_one _) (by unfold maxLen; omega) (by omega) Ld403.size ?_
          intro e7 d4037 od4037 gd4037 nd4037
          rw [Nat.zero_add, List.nil_append] at od4037
          obtain ⟨V7, d7, rfl⟩ := own_form od4037
          have Xd4037 := Xd403.grown gd4037 (fun e => own_blk_ne Bd403 Xd403 (by decide) e.symm)
          have Rd4037 := Rd403.grown gd4037 (fun e => own_blk_ne Bd403 Rd403 (by decide) e.symm)
          have Ld4037' := (Below.refl W.heap.size d403).grown gd4037 Ld403.size (fun k e => (Bd403.lt k e).1)
          have Ld4037 := Ld403.trans Ld4037'
          have Nd4037 := Reads.below Nd403 Ld4037'
          have Yd4037 := Reads.below Yd403 Ld4037'
          have Bd4037 := od4037
          have Ad4037 := Ad403.kept gd4037 (own_own_ne Ad403 Bd403 (by decide))
          refine hK.out _ _ ?_ (fun hHeld => ?_)
          · exact ⟨Xd4037.cell 0, Xd4037.cell 1, Xd4037.cell 2⟩
          clear hK K
          try simp only [Act.put, List.setIfInBounds_toArray, List.set_cons_zero, List.set_cons_succ]
          refine wpAnyH_take (i := 10) (oi := ⟨some 13, _, _, _, _, _⟩) (v := ?_) rfl (by kernel_rfl) (by kernel_rfl) (by kernel_rfl) (fun _ _ _ h => h) (Or.inl ⟨by kernel_rfl, ?_⟩) (by assumption) ?_
          rotate_left
          · intro V hSw
            go_simp
            try with_reducible rfl
          try simp only [Act.put, List.setIfInBounds_toArray, List.set_cons_zero, List.set_cons_succ]
          refine wpAnyH_done (by kernel_rfl) ?_ _
          have r0 := Rd4037.cell 0
          have r1 := Rd4037.cell 1
          have r2 := Rd4037.cell 2
          have z0 := Rd4037.frozen 0
          have z1 := Rd4037.frozen 1
          have z2 := Rd4037.frozen 2
          refine lastPost_run (o := ⟨none, _, _, _, _, _⟩) rfl (fun K hK => ?_)
          go_simp
          refine hK.out _ _ ?_
          clear hK K r0 r1 r2 z0 z1 z2 hHeld
          have hend := tree_end (Ad4037) (Bd4037) Rd4037 Ld4037 hrb t.r
          obtain ⟨k1, k2, k3, k4⟩ := hend
          go_wp2_with fail
          exact bodyPost_ret (results_cell_row rfl _ _ _ 25 _ (0, 0) _ rfl k3 Tryd.underlying25 rfl (by kernel_rfl)) rfl ⟨_, _, _, _, rfl, k1, k2, k4⟩




end Go.Proofs.YtphojigdapaaiaaDoor
