/- The first region of ast.same: two nodes are read and laid, in either order. -/
import Derived.Test.YtphojigdapaaiaaDoorADp
namespace Go.Proofs.YtphojigdapaaiaaDoor
open Go.ChangeShapes Go.WideShapes Go.ChangeAt Go.RowKit
set_option linter.unusedVariables false
set_option linter.unusedSimpArgs false
/-- Region n of a text. -/
def regionOf (n : Nat) : Code → Option Code
  | .region m ops d => if m = n then some (.region m ops d) else none
  | .seq a b => match regionOf n a with
    | some c => some c
    | none => regionOf n b
  | .cond _ a b => match regionOf n a with
    | some c => some c
    | none => regionOf n b
  | .block _ c => regionOf n c
  | .loop c => regionOf n c
  | .scope c => regionOf n c
  | _ => none
noncomputable def code25 (n : Nat) : Code := ((Tryd.f25.body).bind (regionOf n)).getD .skip
theorem Below.nod {w V : World} (hb : Below w.heap.size w V) {a : Addr} {p : Nod} (ha : a.block < w.heap.size) (h : ∀ j v, (nodC p)[j]? = some v → w.cell? (a.add j) = some v) :
    V.cell? a = some (.int .i64 p.k) ∧ V.cell? ⟨a.block, a.off + 1, none⟩ = some (strV p.t) ∧ V.cell? ⟨a.block, a.off + 2, none⟩ = some (strV p.t2) ∧ V.cell? ⟨a.block, a.off + 3, none⟩ = some (.int .i64 p.n) ∧ V.cell? ⟨a.block, a.off + 4, none⟩ = some (.int .i64 p.a) ∧ V.cell? ⟨a.block, a.off + 5, none⟩ = some (.int .i64 p.b) ∧ V.cell? ⟨a.block, a.off + 6, none⟩ = some (.int .i64 p.c) ∧ V.cell? ⟨a.block, a.off + 7, none⟩ = some (.int .i64 p.h) :=
  ⟨(hb.cell ha).trans (h 0 _ rfl), (hb.cell (p := ⟨a.block, a.off + 1, none⟩) ha).trans (h 1 _ rfl), (hb.cell (p := ⟨a.block, a.off + 2, none⟩) ha).trans (h 2 _ rfl), (hb.cell (p := ⟨a.block, a.off + 3, none⟩) ha).trans (h 3 _ rfl), (hb.cell (p := ⟨a.block, a.off + 4, none⟩) ha).trans (h 4 _ rfl), (hb.cell (p := ⟨a.block, a.off + 5, none⟩) ha).trans (h 5 _ rfl), (hb.cell (p := ⟨a.block, a.off + 6, none⟩) ha).trans (h 6 _ rfl), (hb.cell (p := ⟨a.block, a.off + 7, none⟩) ha).trans (h 7 _ rfl)⟩
set_option maxRecDepth 100000 in
set_option maxHeartbeats 8000000 in
theorem reg25 {ta tb u6 u7 u8 u9 u10 u11 u12 u13 u14 u15 u16 u17 u18 u19 u20 u21 u22 u23 u24 u25 u26 u27 u28 u29 u30 u31 u32 u33 u34 u35 u36 u37 u38 u39 u40 u41 u42 u43 u44 u45 u46 u47 u48 u49 u50 u51 u52 u53 u54 u55 u56 u57 u58 u59 u60 u61 u62 u63 u64 u65 u66 u67 u68 u69 u70 u71 u72 u73 u74 u75 u76 u77 u78 u79 u80 u81 u82 u83 u84 u85 : Value} {Q : Exit → Act → World → Prop} (xb yb k l n n' c c' : Nat) (p q : Nod) (ad ad' : Addr) (w : World) (hi : k < n) (hj : l < n')
    (hxb : xb < w.heap.size) (hyb : yb < w.heap.size) (m1 : w.cell? ⟨xb, 0, none⟩ = some (.slice (some ad) n c)) (m2 : w.cell? ⟨yb, 0, none⟩ = some (.slice (some ad') n' c')) (hb1 : ad.block < w.heap.size) (hb2 : ad'.block < w.heap.size)
    (hp : ∀ j v, (nodC p)[j]? = some v → w.cell? ((ad.add (k * 8)).add j) = some v) (hq : ∀ j v, (nodC q)[j]? = some v → w.cell? ((ad'.add (l * 8)).add j) = some v)
    (hQ : ∀ c (a : Act) d v w', Q (.panic c) (a.put d v) w' → Q (.panic c) a w')
    (hend : ∀ (b7 b8 : Nat) (w' : World) (v14 v15 v16 v17 v18 v19 v20 v21 v22 v23 : Value), Blk w' b7 30 #[.int .i64 p.k, strV p.t, strV p.t2, .int .i64 p.n, .int .i64 p.a, .int .i64 p.b, .int .i64 p.c, .int .i64 p.h] → Blk w' b8 30 #[.int .i64 q.k, strV q.t, strV q.t2, .int .i64 q.n, .int .i64 q.a, .int .i64 q.b, .int .i64 q.c, .int .i64 q.h] → Below w.heap.size w w' → w.heap.size ≤ b7 → w.heap.size ≤ b8 → b7 ≠ b8 → Q .normal ⟨#[ta, tb, .int .i64 (k : Int), .int .i64 (l : Int), ptr xb, ptr yb, u6, u7, u8, ptr b7, ptr b8, u11, u12, u13, v14, v15, v16, v17, v18, v19, v20, v21, v22, v23, u24, u25, u26, u27, u28, u29, u30, u31, u32, u33, u34, u35, u36, u37, u38, u39, u40, u41, u42, u43, u44, u45, u46, u47, u48, u49, u50, u51, u52, u53, u54, u55, u56, u57, u58, u59, u60, u61, u62, u63, u64, u65, u66, u67, u68, u69, u70, u71, u72, u73, u74, u75, u76, u77, u78, u79, u80, u81, u82, u83, u84, u85], []⟩ w') :
    Code.wp Tryd.prog (code25 1) Q ⟨#[ta, tb, .int .i64 (k : Int), .int .i64 (l : Int), ptr xb, ptr yb, u6, u7, u8, u9, u10, u11, u12, u13, u14, u15, u16, u17, u18, u19, u20, u21, u22, u23, u24, u25, u26, u27, u28, u29, u30, u31, u32, u33, u34, u35, u36, u37, u38, u39, u40, u41, u42, u43, u44, u45, u46, u47, u48, u49, u50, u51, u52, u53, u54, u55, u56, u57, u58, u59, u60, u61, u62, u63, u64, u65, u66, u67, u68, u69, u70, u71, u72, u73, u74, u75, u76, u77, u78, u79, u80, u81, u82, u83, u84, u85], []⟩ w := by
  have HEND := Lib.hid hend
  have HQ := Lib.hid hQ
  clear hend hQ
  have hi0 : (0 : Int) ≤ (k : Int) := by omega
  have hj0 : (0 : Int) ≤ (l : Int) := by omega
  have hi1 : (k : Int) < (n : Int) := by omega
  have hj1 : (l : Int) < (n' : Int) := by omega
  have FM1 := Lib.hid (show ∀ V, Below w.heap.size w V → V.cell? ⟨xb, 0, none⟩ = some (.slice (some ad) n c) from fun V h => (h.cell (p := ⟨xb, 0, none⟩) hxb).trans m1)
  have FM2 := Lib.hid (show ∀ V, Below w.heap.size w V → V.cell? ⟨yb, 0, none⟩ = some (.slice (some ad') n' c') from fun V h => (h.cell (p := ⟨yb, 0, none⟩) hyb).trans m2)
  have FP := Lib.hid hp
  have FQ := Lib.hid hq
  have FPb := Lib.hid (show (ad.add (k * 8)).block < w.heap.size by rw [block_of_add]; exact hb1)
  have FQb := Lib.hid (show (ad'.add (l * 8)).block < w.heap.size by rw [block_of_add]; exact hb2)
  clear hp hq m1 m2 hi hj
  conv => arg 2; whnf
  refine wp_region_last (S := fun V => Below w.heap.size w V) 13 (by kernel_rfl) (by kernel_rfl) (by kernel_rfl) (by kernel_rfl) (Below.drew (Below.refl _ _)) (fun hHeld => ?_)
  generalize w.drew = d at hHeld ⊢
  refine wpAnyH_take (i := 0) (oi := ⟨some 14, _, _, _, _, _⟩) (v := ?_) rfl (by kernel_rfl) (by kernel_rfl) (by kernel_rfl) (fun _ _ _ h => HQ.out _ _ _ _ _ h) (Or.inl ⟨by kernel_rfl, ?_⟩) (by assumption) ?_
  rotate_left
  · intro V hSw
    go_simp
    try with_reducible rfl
  try simp only [Act.put, List.setIfInBounds_toArray, List.set_cons_zero, List.set_cons_succ]
  refine wpAnyH_take (i := 1) (oi := ⟨some 15, _, _, _, _, _⟩) (v := ?_) rfl (by kernel_rfl) (by kernel_rfl) (by kernel_rfl) (fun _ _ _ h => HQ.out _ _ _ _ _ h) (Or.inl ⟨by kernel_rfl, ?_⟩) (by assumption) ?_
  rotate_left
  · intro V hSw
    have m1 := FM1.out V hSw
    go_simp
    try with_reducible rfl
  try simp only [Act.put, List.setIfInBounds_toArray, List.set_cons_zero, List.set_cons_succ]
  refine wpAnyH_take (i := 2) (oi := ⟨some 16, _, _, _, _, _⟩) (v := ?_) rfl (by kernel_rfl) (by kernel_rfl) (by kernel_rfl) (fun _ _ _ h => HQ.out _ _ _ _ _ h) (Or.inl ⟨by kernel_rfl, ?_⟩) (by assumption) ?_
  rotate_left
  · intro V hSw
    go_simp
    try with_reducible rfl
  try simp only [Act.put, List.setIfInBounds_toArray, List.set_cons_zero, List.set_cons_succ]
  refine wpAnyH_take (i := 3) (oi := ⟨some 17, _, _, _, _, _⟩) (v := ?_) rfl (by kernel_rfl) (by kernel_rfl) (by kernel_rfl) (fun _ _ _ h => HQ.out _ _ _ _ _ h) (Or.inl ⟨by kernel_rfl, ?_⟩) (by assumption) ?_
  rotate_left
  · intro V hSw
    go_simp
    try with_reducible rfl
  try simp only [Act.put, List.setIfInBounds_toArray, List.set_cons_zero, List.set_cons_succ]
  refine wpAnyH_take (i := 4) (oi := ⟨some 18, _, _, _, _, _⟩) (v := ?_) rfl (by kernel_rfl) (by kernel_rfl) (by kernel_rfl) (fun _ _ _ h => HQ.out _ _ _ _ _ h) (Or.inl ⟨by kernel_rfl, ?_⟩) (by assumption) ?_
  rotate_left
  · intro V hSw
    obtain ⟨p0, p1, p2, p3, p4, p5, p6, p7⟩ := Below.nod hSw FPb.out FP.out
    go_simp
    try with_reducible rfl
  try simp only [Act.put, List.setIfInBounds_toArray, List.set_cons_zero, List.set_cons_succ]
  refine wpAnyH_take (i := 5) (oi := ⟨some 19, _, _, _, _, _⟩) (v := ?_) rfl (by kernel_rfl) (by kernel_rfl) (by kernel_rfl) (fun _ _ _ h => HQ.out _ _ _ _ _ h) (Or.inl ⟨by kernel_rfl, ?_⟩) (by assumption) ?_
  rotate_left
  · intro V hSw
    go_simp
    try with_reducible rfl
  try simp only [Act.put, List.setIfInBounds_toArray, List.set_cons_zero, List.set_cons_succ]
  refine wpAnyH_take (i := 6) (oi := ⟨some 20, _, _, _, _, _⟩) (v := ?_) rfl (by kernel_rfl) (by kernel_rfl) (by kernel_rfl) (fun _ _ _ h => HQ.out _ _ _ _ _ h) (Or.inl ⟨by kernel_rfl, ?_⟩) (by assumption) ?_
  rotate_left
  · intro V hSw
    have m2 := FM2.out V hSw
    go_simp
    try with_reducible rfl
  try simp only [Act.put, List.setIfInBounds_toArray, List.set_cons_zero, List.set_cons_succ]
  refine wpAnyH_take (i := 7) (oi := ⟨some 21, _, _, _, _, _⟩) (v := ?_) rfl (by kernel_rfl) (by kernel_rfl) (by kernel_rfl) (fun _ _ _ h => HQ.out _ _ _ _ _ h) (Or.inl ⟨by kernel_rfl, ?_⟩) (by assumption) ?_
  rotate_left
  · intro V hSw
    go_simp
    try with_reducible rfl
  try simp only [Act.put, List.setIfInBounds_toArray, List.set_cons_zero, List.set_cons_succ]
  refine wpAnyH_take (i := 8) (oi := ⟨some 22, _, _, _, _, _⟩) (v := ?_) rfl (by kernel_rfl) (by kernel_rfl) (by kernel_rfl) (fun _ _ _ h => HQ.out _ _ _ _ _ h) (Or.inl ⟨by kernel_rfl, ?_⟩) (by assumption) ?_
  rotate_left
  · intro V hSw
    go_simp
    try with_reducible rfl
  try simp only [Act.put, List.setIfInBounds_toArray, List.set_cons_zero, List.set_cons_succ]
  refine wpAnyH_take (i := 9) (oi := ⟨some 23, _, _, _, _, _⟩) (v := ?_) rfl (by kernel_rfl) (by kernel_rfl) (by kernel_rfl) (fun _ _ _ h => HQ.out _ _ _ _ _ h) (Or.inl ⟨by kernel_rfl, ?_⟩) (by assumption) ?_
  rotate_left
  · intro V hSw
    obtain ⟨p0, p1, p2, p3, p4, p5, p6, p7⟩ := Below.nod hSw FQb.out FQ.out
    go_simp
    try with_reducible rfl
  try simp only [Act.put, List.setIfInBounds_toArray, List.set_cons_zero, List.set_cons_succ]
  have hds := hHeld.size
  have HB0 := Lib.hid hHeld
  refine wpAnyH_ready (rs := [10, 11]) (by kernel_rfl) (by simp) ?_
  refine (AllReadyH.cons (o := ⟨some 9, _, _, _, _, _⟩) rfl (fun K hK => ?_) (AllReadyH.cons (o := ⟨some 10, _, _, _, _, _⟩) rfl (fun K hK => ?_) AllReadyH.nil))
  · go_simp
    refine hK.out _ _ ?_ (fun hHeld => ?_)
    · first | exact hHeld.alloc hHeld.size _ | exact (HB0.out.alloc hds _).alloc (by rw [World.size_alloc]; omega) _ | exact HB0.out.alloc hds _
    clear hK K
    try simp only [Act.put, List.setIfInBounds_toArray, List.set_cons_zero, List.set_cons_succ]
    refine wpAnyH_ready (rs := [11]) (by kernel_rfl) (by simp) ?_
    refine AllReadyH.cons (o := ⟨some 10, _, _, _, _, _⟩) rfl (fun K hK => ?_) AllReadyH.nil
    go_simp
    refine hK.out _ _ ?_ (fun hHeld => ?_)
    · first | exact hHeld.alloc hHeld.size _ | exact (HB0.out.alloc hds _).alloc (by rw [World.size_alloc]; omega) _ | exact HB0.out.alloc hds _
    clear hK K
    try simp only [Act.put, List.setIfInBounds_toArray, List.set_cons_zero, List.set_cons_succ]
    refine wpAnyH_ready (rs := [12]) (by kernel_rfl) (by simp) ?_
    refine AllReadyH.cons (o := ⟨none, _, _, _, _, _⟩) rfl (fun K hK => ?_) AllReadyH.nil
    go_simp
    refine hK.out _ _ ?_ (fun hHeld => ?_)
    · first | exact hHeld.alloc hHeld.size _ | exact (HB0.out.alloc hds _).alloc (by rw [World.size_alloc]; omega) _ | exact HB0.out.alloc hds _
    clear hK K
    try simp only [Act.put, List.setIfInBounds_toArray, List.set_cons_zero, List.set_cons_succ]
    refine wpAnyH_done (by kernel_rfl) ?_ _
    refine lastPost_run (o := ⟨none, _, _, _, _, _⟩) rfl (fun K hK => ?_)
    go_simp
    refine hK.out _ _ ?_
    clear hK K
    refine HEND.out _ _ ((d.alloc (.cells #[.int .i64 p.k, strV p.t, strV p.t2, .int .i64 p.n, .int .i64 p.a, .int .i64 p.b, .int .i64 p.c, .int .i64 p.h] 30)).alloc (.cells #[.int .i64 q.k, strV q.t, strV q.t2, .int .i64 q.n, .int .i64 q.a, .int .i64 q.b, .int .i64 q.c, .int .i64 q.h] 30)) _ _ _ _ _ _ _ _ _ _ ((Blk.new d 30 #[.int .i64 p.k, strV p.t, strV p.t2, .int .i64 p.n, .int .i64 p.a, .int .i64 p.b, .int .i64 p.c, .int .i64 p.h]).alloc (.cells #[.int .i64 q.k, strV q.t, strV q.t2, .int .i64 q.n, .int .i64 q.a, .int .i64 q.b, .int .i64 q.c, .int .i64 q.h] 30)) (by have h := Blk.new (d.alloc (.cells #[.int .i64 p.k, strV p.t, strV p.t2, .int .i64 p.n, .int .i64 p.a, .int .i64 p.b, .int .i64 p.c, .int .i64 p.h] 30)) 30 #[.int .i64 q.k, strV q.t, strV q.t2, .int .i64 q.n, .int .i64 q.a, .int .i64 q.b, .int .i64 q.c, .int .i64 q.h]; rw [World.size_alloc] at h; exact h) ((HB0.out.alloc hds _).alloc (by rw [World.size_alloc]; omega) _) (by omega) (by omega) (by omega)
  · go_simp
    refine hK.out _ _ ?_ (fun hHeld => ?_)
    · first | exact hHeld.alloc hHeld.size _ | exact (HB0.out.alloc hds _).alloc (by rw [World.size_alloc]; omega) _ | exact HB0.out.alloc hds _
    clear hK K
    try simp only [Act.put, List.setIfInBounds_toArray, List.set_cons_zero, List.set_cons_succ]
    refine wpAnyH_ready (rs := [10]) (by kernel_rfl) (by simp) ?_
    refine AllReadyH.cons (o := ⟨some 9, _, _, _, _, _⟩) rfl (fun K hK => ?_) AllReadyH.nil
    go_simp
    refine hK.out _ _ ?_ (fun hHeld => ?_)
    · first | exact hHeld.alloc hHeld.size _ | exact (HB0.out.alloc hds _).alloc (by rw [World.size_alloc]; omega) _ | exact HB0.out.alloc hds _
    clear hK K
    try simp only [Act.put, List.setIfInBounds_toArray, List.set_cons_zero, List.set_cons_succ]
    refine wpAnyH_ready (rs := [12]) (by kernel_rfl) (by simp) ?_
    refine AllReadyH.cons (o := ⟨none, _, _, _, _, _⟩) rfl (fun K hK => ?_) AllReadyH.nil
    go_simp
    refine hK.out _ _ ?_ (fun hHeld => ?_)
    · first | exact hHeld.alloc hHeld.size _ | exact (HB0.out.alloc hds _).alloc (by rw [World.size_alloc]; omega) _ | exact HB0.out.alloc hds _
    clear hK K
    try simp only [Act.put, List.setIfInBounds_toArray, List.set_cons_zero, List.set_cons_succ]
    refine wpAnyH_done (by kernel_rfl) ?_ _
    refine lastPost_run (o := ⟨none, _, _, _, _, _⟩) rfl (fun K hK => ?_)
    go_simp
    refine hK.out _ _ ?_
    clear hK K
    refine HEND.out _ _ ((d.alloc (.cells #[.int .i64 q.k, strV q.t, strV q.t2, .int .i64 q.n, .int .i64 q.a, .int .i64 q.b, .int .i64 q.c, .int .i64 q.h] 30)).alloc (.cells #[.int .i64 p.k, strV p.t, strV p.t2, .int .i64 p.n, .int .i64 p.a, .int .i64 p.b, .int .i64 p.c, .int .i64 p.h] 30)) _ _ _ _ _ _ _ _ _ _ (by have h := Blk.new (d.alloc (.cells #[.int .i64 q.k, strV q.t, strV q.t2, .int .i64 q.n, .int .i64 q.a, .int .i64 q.b, .int .i64 q.c, .int .i64 q.h] 30)) 30 #[.int .i64 p.k, strV p.t, strV p.t2, .int .i64 p.n, .int .i64 p.a, .int .i64 p.b, .int .i64 p.c, .int .i64 p.h]; rw [World.size_alloc] at h; exact h) ((Blk.new d 30 #[.int .i64 q.k, strV q.t, strV q.t2, .int .i64 q.n, .int .i64 q.a, .int .i64 q.b, .int .i64 q.c, .int .i64 q.h]).alloc (.cells #[.int .i64 p.k, strV p.t, strV p.t2, .int .i64 p.n, .int .i64 p.a, .int .i64 p.b, .int .i64 p.c, .int .i64 p.h] 30)) ((HB0.out.alloc hds _).alloc (by rw [World.size_alloc]; omega) _) (by omega) (by omega) (by omega)
end Go.Proofs.YtphojigdapaaiaaDoor
