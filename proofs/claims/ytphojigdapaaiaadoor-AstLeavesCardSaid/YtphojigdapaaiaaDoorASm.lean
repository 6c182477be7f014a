/- ast.same: one step. -/
import Derived.Test.YtphojigdapaaiaaDoorARe
namespace Go.Proofs.YtphojigdapaaiaaDoor
open Go.ChangeShapes Go.WideShapes Go.ChangeAt Go.RowKit
set_option linter.unusedVariables false
set_option linter.unusedSimpArgs false
theorem row4z {w : World} {b : Nat} {u0 u1 u2 u3 u4 u5 u6 u7 z : Value} (h : Blk w b 30 #[u0, u1, u2, u3, u4, u5, u6, u7]) :
    Blk ((((w.setCell ⟨b, 4, none⟩ z).setCell ⟨b, 5, none⟩ z).setCell ⟨b, 6, none⟩ z).setCell ⟨b, 7, none⟩ z) b 30 #[u0, u1, u2, u3, z, z, z, z] := by
  have h1 := (((h.set_ 4 z).set_ 5 z).set_ 6 z).set_ 7 z
  simpa only [List.setIfInBounds_toArray, List.set_cons_zero, List.set_cons_succ] using h1
theorem far4z {w : World} {b g : Nat} {t : TypeId} {cs : Array Value} {z : Value} (h : Blk w g t cs) (hne : g ≠ b) :
    Blk ((((w.setCell ⟨b, 4, none⟩ z).setCell ⟨b, 5, none⟩ z).setCell ⟨b, 6, none⟩ z).setCell ⟨b, 7, none⟩ z) g t cs :=
  (((h.far (p := ⟨b, 4, none⟩) hne z).far (p := ⟨b, 5, none⟩) hne z).far (p := ⟨b, 6, none⟩) hne z).far (p := ⟨b, 7, none⟩) hne z
theorem low4z {w a : World} {B b : Nat} {z : Value} (hB : B ≤ b) (h : Below B a w) :
    Below B a ((((w.setCell ⟨b, 4, none⟩ z).setCell ⟨b, 5, none⟩ z).setCell ⟨b, 6, none⟩ z).setCell ⟨b, 7, none⟩ z) :=
  (((h.setCell (p := ⟨b, 4, none⟩) hB z).setCell (p := ⟨b, 5, none⟩) hB z).setCell (p := ⟨b, 6, none⟩) hB z).setCell (p := ⟨b, 7, none⟩) hB z
theorem own4z {w : World} {b base n : Nat} {z v : Value} {xs : List Value} {cs : Array Value} (h : w.ownsRow base 3 1 v n xs) (hb : Blk w b 30 cs) :
    ((((w.setCell ⟨b, 4, none⟩ z).setCell ⟨b, 5, none⟩ z).setCell ⟨b, 6, none⟩ z).setCell ⟨b, 7, none⟩ z).ownsRow base 3 1 v n xs :=
  own_set (own_set (own_set (own_set h hb (by decide)) (hb.set_ 4 z) (by decide)) ((hb.set_ 4 z).set_ 5 z) (by decide)) (((hb.set_ 4 z).set_ 5 z).set_ 6 z) (by decide)
def eqN (x y : Nod) : Bool := x.k == y.k && x.t == y.t && x.t2 == y.t2 && x.n == y.n
def sameB (x y : Nod) (sm : Int → Int → Bool) : Bool := eqN x y && (kidsL x).length == (kidsL y).length && ((kidsL x).zip (kidsL y)).all fun p => sm p.1 p.2
def SameEnd (r : Bool) (w : World) (e : Ending) (w' : World) : Prop := e = .returned (.bool r) ∧ Below w.heap.size w w'
set_option maxRecDepth 100000 in
set_option maxHeartbeats 16000000 in
theorem c25 (a b : Tre) (A A' D D' : Option Addr) (c c' d d' : Nat) (k l : Nat) (x y : Nod) (sm : Int → Int → Bool) (w : World) (hA : TreIs w A A' a) (hD : TreIs w D D' b) (hS : AstTab w) (hx : a.l[k]? = some x) (hy : b.l[l]? = some y) (hk : x.k ≠ 43)
    (hal : a.l.length ≤ 281474976710656) (hbl : b.l.length ≤ 281474976710656)
    (hrec : ∀ w', Below w.heap.size w w' → ∀ (i : Nat) (p q : Int), (kidsL x)[i]? = some p → (kidsL y)[i]? = some q → Calls Tryd.prog 25 #[treV A c A' c' a, treV D d D' d' b, .int .i64 p, .int .i64 q] w' (SameEnd (sm p q) w')) :
    Calls Tryd.prog 25 #[treV A c A' c' a, treV D d D' d' b, .int .i64 (k : Int), .int .i64 (l : Int)] w (SameEnd (sameB x y sm) w) := by
  have hkl : k < a.l.length := (List.getElem?_eq_some_iff.1 hx).1
  have hll : l < b.l.length := (List.getElem?_eq_some_iff.1 hy).1
  have HREC := Lib.hid hrec
  have HA := Lib.hid hA
  have HD := Lib.hid hD
  have HS := Lib.hid hS
  have HXK := Lib.hid hx
  have HYK := Lib.hid hy
  clear hrec hA hD hS
  show Calls Tryd.prog 25 #[.agg #[.slice A a.l.length c, .slice A' a.y.length c', .int .i64 a.r], .agg #[.slice D b.l.length d, .slice D' b.y.length d', .int .i64 b.r], .int .i64 (k : Int), .int .i64 (l : Int)] w _
  have hX := Blk.new w 25 #[.slice A a.l.length c, .slice A' a.y.length c', .int .i64 a.r]
  have hb1 := below_new w (.cells #[.slice A a.l.length c, .slice A' a.y.length c', .int .i64 a.r] 25)
  generalize hw1 : w.alloc (.cells #[.slice A a.l.length c, .slice A' a.y.length c', .int .i64 a.r] 25) = w1 at hX hb1
  have hY := Blk.new w1 25 #[.slice D b.l.length d, .slice D' b.y.length d', .int .i64 b.r]
  have hb2 := next_ hb1 (below_new w1 (.cells #[.slice D b.l.length d, .slice D' b.y.length d', .int .i64 b.r] 25))
  have hX2 := hX.next (below_new w1 (.cells #[.slice D b.l.length d, .slice D' b.y.length d', .int .i64 b.r] 25))
  generalize hw2 : w1.alloc (.cells #[.slice D b.l.length d, .slice D' b.y.length d', .int .i64 b.r] 25) = w2 at hY hb2 hX2
  have HX := Lib.hid hX2
  have HY := Lib.hid hY
  have HB := Lib.hid hb2
  clear hX hb1 hX2 hY hb2
  go_enter Tryd.func25, Tryd.ntmps25
  go_upto_region 1 with fail
  clear hw1 hw2
  generalize w1.heap.size = yb at HY ⊢
  generalize hxb : w.heap.size = xb at HX ⊢
  clear hxb
  obtain ⟨ad, rfl, had, hcs⟩ := (HA.out.next HB.out).nodes.nodAt hx
  obtain ⟨ad', rfl, had', hcs'⟩ := (HD.out.next HB.out).nodes.nodAt hy
  refine reg25 xb yb k l a.l.length b.l.length c d x y ad ad' w2 hkl hll HX.out.lt HY.out.lt (HX.out.cell 0) (HY.out.cell 0) had had' hcs hcs' (fun _ _ d _ _ h => by cases d <;> exact h) ?_
  intro n7 n8 w3 v14 v15 v16 v17 v18 v19 v20 v21 v22 v23 h7 h8 hb3 hn7 hn8 hn78
  dsimp only [ptr]
  have H7 := Lib.hid h7
  have H8 := Lib.hid h8
  have HX3 := Lib.hid (HX.out.next hb3)
  have HY3 := Lib.hid (HY.out.next hb3)
  have HB3 := Lib.hid (next_ HB.out hb3)
  have HN7 := Lib.hid (Nat.le_trans HB.out.size hn7)
  have HN8 := Lib.hid (Nat.le_trans HB.out.size hn8)
  have HN78 := Lib.hid hn78
  clear hn7 hn8 hn78 h7 h8 hb3 hcs hcs' had had' hx hy
  go_upto_region 2 with fail
  refine wp_region_held_drew (S := fun V => V.cell? ⟨xb, 0, none⟩ = some (.slice (some ad) a.l.length c) ∧ V.cell? ⟨xb, 1, none⟩ = some (.slice A' a.y.length c') ∧ V.cell? ⟨xb, 2, none⟩ = some (.int .i64 a.r) ∧ V.cell? ⟨yb, 0, none⟩ = some (.slice (some ad') b.l.length d) ∧ V.cell? ⟨yb, 1, none⟩ = some (.slice D' b.y.length d') ∧ V.cell? ⟨yb, 2, none⟩ = some (.int .i64 b.r)) (by kernel_rfl) ⟨HX3.out.cell 0, HX3.out.cell 1, HX3.out.cell 2, HY3.out.cell 0, HY3.out.cell 1, HY3.out.cell 2⟩ (fun hHeld => ?_)
  have H7d := Lib.hid H7.out.drew
  have H8d := Lib.hid H8.out.drew
  have HXd := Lib.hid HX3.out.drew
  have HYd := Lib.hid HY3.out.drew
  have HBd := Lib.hid (Below.drew HB3.out)
  generalize w3.drew = v0 at H7d H8d HXd HYd HBd hHeld ⊢
  refine wpAnyH_take (i := 0) (oi := ⟨some 24, _, _, _, _, _⟩) (v := ?_) rfl (by kernel_rfl) (by kernel_rfl) (by kernel_rfl) (fun _ _ _ h => h) (Or.inl ⟨by kernel_rfl, ?_⟩) (by assumption) ?_
  rotate_left
  · intro V hSw
    obtain ⟨z0, z1, z2, z3, z4, z5⟩ := hSw
    go_simp
    try with_reducible rfl
  try simp only [Act.put, List.setIfInBounds_toArray, List.set_cons_zero, List.set_cons_succ]
  refine wpAnyH_take (i := 1) (oi := ⟨some 25, _, _, _, _, _⟩) (v := ?_) rfl (by kernel_rfl) (by kernel_rfl) (by kernel_rfl) (fun _ _ _ h => h) (Or.inl ⟨by kernel_rfl, ?_⟩) (by assumption) ?_
  rotate_left
  · intro V hSw
    obtain ⟨z0, z1, z2, z3, z4, z5⟩ := hSw
    go_simp
    try with_reducible rfl
  try simp only [Act.put, List.setIfInBounds_toArray, List.set_cons_zero, List.set_cons_succ]
  refine wpAnyH_take (i := 3) (oi := ⟨some 27, _, _, _, _, _⟩) (v := ?_) rfl (by kernel_rfl) (by kernel_rfl) (by kernel_rfl) (fun _ _ _ h => h) (Or.inl ⟨by kernel_rfl, ?_⟩) (by assumption) ?_
  rotate_left
  · intro V hSw
    obtain ⟨z0, z1, z2, z3, z4, z5⟩ := hSw
    go_simp
    try with_reducible rfl
  try simp only [Act.put, List.setIfInBounds_toArray, List.set_cons_zero, List.set_cons_succ]
  refine wpAnyH_take (i := 4) (oi := ⟨some 28, _, _, _, _, _⟩) (v := ?_) rfl (by kernel_rfl) (by kernel_rfl) (by kernel_rfl) (fun _ _ _ h => h) (Or.inl ⟨by kernel_rfl, ?_⟩) (by assumption) ?_
  rotate_left
  · intro V hSw
    obtain ⟨z0, z1, z2, z3, z4, z5⟩ := hSw
    go_simp
    try with_reducible rfl
  try simp only [Act.put, List.setIfInBounds_toArray, List.set_cons_zero, List.set_cons_succ]
  refine wpAnyH_ready (rs := [2]) (by kernel_rfl) (by simp) ?_
  refine AllReadyH.cons (o := ⟨some 26, _, _, _, _, _⟩) rfl (fun K hK => ?_) AllReadyH.nil
  go_simp
  refine (c24 a (some ad) A' c c' k x v0 (HA.out.next HBd.out) (HS.out.next HBd.out) HXK.out hal).mono ?_
  rintro e v1 ⟨AP, cP, rfl, hI⟩
  have H7v1 := Lib.hid (H7d.out.next hI.low)
  have H8v1 := Lib.hid (H8d.out.next hI.low)
  have HXv1 := Lib.hid (HXd.out.next hI.low)
  have HYv1 := Lib.hid (HYd.out.next hI.low)
  have HBv1 := Lib.hid (next_ HBd.out hI.low)
  have HIP := Lib.hid hI.own
  clear hI
  go_wp2_with fail
  refine hK.out _ _ ?_ (fun hHeld => ?_)
  · exact ⟨HXv1.out.cell 0, HXv1.out.cell 1, HXv1.out.cell 2, HYv1.out.cell 0, HYv1.out.cell 1, HYv1.out.cell 2⟩
  clear hK K
  try simp only [Act.put, List.setIfInBounds_toArray, List.set_cons_zero, List.set_cons_succ]
  refine wpAnyH_ready (rs := [5]) (by kernel_rfl) (by simp) ?_
  refine AllReadyH.cons (o := ⟨some 29, _, _, _, _, _⟩) rfl (fun K hK => ?_) AllReadyH.nil
  go_simp
  refine (c24 b (some ad') D' d d' l y v1 (HD.out.next HBv1.out) (HS.out.next HBv1.out) HYK.out hbl).mono ?_
  rintro e v2 ⟨AQ, cQ, rfl, hI⟩
  have H7v2 := Lib.hid (H7v1.out.next hI.low)
  have H8v2 := Lib.hid (H8v1.out.next hI.low)
  have HXv2 := Lib.hid (HXv1.out.next hI.low)
  have HYv2 := Lib.hid (HYv1.out.next hI.low)
  have HBv2 := Lib.hid (next_ HBv1.out hI.low)
  have HIQ := Lib.hid hI.own
  have HIP2 := Lib.hid (own_next HIP.out hI.low)
  clear hI
  go_wp2_with fail
  refine hK.out _ _ ?_ (fun hHeld => ?_)
  · exact ⟨HXv2.out.cell 0, HXv2.out.cell 1, HXv2.out.cell 2, HYv2.out.cell 0, HYv2.out.cell 1, HYv2.out.cell 2⟩
  clear hK K
  try simp only [Act.put, List.setIfInBounds_toArray, List.set_cons_zero, List.set_cons_succ]
  refine wpAnyH_take (i := 6) (oi := ⟨some 11, _, _, _, _, _⟩) (v := ?_) rfl (by kernel_rfl) (by kernel_rfl) (by kernel_rfl) (fun _ _ _ h => h) (Or.inl ⟨by kernel_rfl, ?_⟩) (by assumption) ?_
  rotate_left
  · intro V hSw
    obtain ⟨z0, z1, z2, z3, z4, z5⟩ := hSw
    go_simp
    try with_reducible rfl
  try simp only [Act.put, List.setIfInBounds_toArray, List.set_cons_zero, List.set_cons_succ]
  refine wpAnyH_take (i := 7) (oi := ⟨some 12, _, _, _, _, _⟩) (v := ?_) rfl (by kernel_rfl) (by kernel_rfl) (by kernel_rfl) (fun _ _ _ h => h) (Or.inl ⟨by kernel_rfl, ?_⟩) (by assumption) ?_
  rotate_left
  · intro V hSw
    obtain ⟨z0, z1, z2, z3, z4, z5⟩ := hSw
    go_simp
    try with_reducible rfl
  try simp only [Act.put, List.setIfInBounds_toArray, List.set_cons_zero, List.set_cons_succ]
  refine wpAnyH_done (by kernel_rfl) ?_ _
  have a0 : v2.cell? ⟨n7, 0, none⟩ = some (.int .i64 x.k) := H7v2.out.cell 0
  go_upto_region 3 with fail
  have c4 : v2.cell? ⟨n7, 4, none⟩ = some (.int .i64 x.a) := H7v2.out.cell 4
  have f4 := H7v2.out.frozen 4
  have c5 : v2.cell? ⟨n7, 5, none⟩ = some (.int .i64 x.b) := H7v2.out.cell 5
  have f5 := H7v2.out.frozen 5
  have c6 : v2.cell? ⟨n7, 6, none⟩ = some (.int .i64 x.c) := H7v2.out.cell 6
  have f6 := H7v2.out.frozen 6
  have c7 : v2.cell? ⟨n7, 7, none⟩ = some (.int .i64 x.h) := H7v2.out.cell 7
  have f7 := H7v2.out.frozen 7
  have H7e := Lib.hid (row4z (z := .int .i64 0) H7v2.out)
  have H8e := Lib.hid (far4z (z := .int .i64 0) H8v2.out (fun e => HN78.out e.symm))
  have HXe := Lib.hid (far4z (z := .int .i64 0) HXv2.out (HXv2.out.ne_ H7v2.out (by decide)))
  have HYe := Lib.hid (far4z (z := .int .i64 0) HYv2.out (HYv2.out.ne_ H7v2.out (by decide)))
  have HPe := Lib.hid (own4z (z := .int .i64 0) HIP2.out H7v2.out)
  have HQe := Lib.hid (own4z (z := .int .i64 0) HIQ.out H7v2.out)
  have HBe := Lib.hid (low4z (z := .int .i64 0) HN7.out HBv2.out)
  go_upto_region 4 with fail
  clear a0 c4 c5 c6 c7 f4 f5 f6 f7
  generalize (((v2.setCell ⟨n7, 4, none⟩ (.int .i64 0)).setCell ⟨n7, 5, none⟩ (.int .i64 0)).setCell ⟨n7, 6, none⟩ (.int .i64 0)).setCell ⟨n7, 7, none⟩ (.int .i64 0) = v3 at H7e H8e HXe HYe HPe HQe HBe ⊢
  have c4 : v3.cell? ⟨n8, 4, none⟩ = some (.int .i64 y.a) := H8e.out.cell 4
  have f4 := H8e.out.frozen 4
  have c5 : v3.cell? ⟨n8, 5, none⟩ = some (.int .i64 y.b) := H8e.out.cell 5
  have f5 := H8e.out.frozen 5
  have c6 : v3.cell? ⟨n8, 6, none⟩ = some (.int .i64 y.c) := H8e.out.cell 6
  have f6 := H8e.out.frozen 6
  have c7 : v3.cell? ⟨n8, 7, none⟩ = some (.int .i64 y.h) := H8e.out.cell 7
  have f7 := H8e.out.frozen 7
  have H8f := Lib.hid (row4z (z := .int .i64 0) H8e.out)
  have H7f := Lib.hid (far4z (z := .int .i64 0) H7e.out HN78.out)
  have HXf := Lib.hid (far4z (z := .int .i64 0) HXe.out (HXe.out.ne_ H8e.out (by decide)))
  have HYf := Lib.hid (far4z (z := .int .i64 0) HYe.out (HYe.out.ne_ H8e.out (by decide)))
  have HPf := Lib.hid (own4z (z := .int .i64 0) HPe.out H8e.out)
  have HQf := Lib.hid (own4z (z := .int .i64 0) HQe.out H8e.out)
  have HBf := Lib.hid (low4z (z := .int .i64 0) HN8.out HBe.out)
  go_upto_region 5 with fail
  clear c4 c5 c6 c7 f4 f5 f6 f7
  generalize (((v3.setCell ⟨n8, 4, none⟩ (.int .i64 0)).setCell ⟨n8, 5, none⟩ (.int .i64 0)).setCell ⟨n8, 6, none⟩ (.int .i64 0)).setCell ⟨n8, 7, none⟩ (.int .i64 0) = v4 at H8f H7f HXf HYf HPf HQf HBf ⊢
  clear H7e H8e HXe HYe HPe HQe HBe H7v2 H8v2 HXv2 HYv2 HBv2 HIP2 HIQ HIP
  have c0 : v4.cell? ⟨n7, 0, none⟩ = some (.int .i64 x.k) := H7f.out.cell 0
  have c1 : v4.cell? ⟨n7, 1, none⟩ = some (strV x.t) := H7f.out.cell 1
  have c2 : v4.cell? ⟨n7, 2, none⟩ = some (strV x.t2) := H7f.out.cell 2
  have c3 : v4.cell? ⟨n7, 3, none⟩ = some (.int .i64 x.n) := H7f.out.cell 3
  have c4 : v4.cell? ⟨n7, 4, none⟩ = some (.int .i64 0) := H7f.out.cell 4
  have c5 : v4.cell? ⟨n7, 5, none⟩ = some (.int .i64 0) := H7f.out.cell 5
  have c6 : v4.cell? ⟨n7, 6, none⟩ = some (.int .i64 0) := H7f.out.cell 6
  have c7 : v4.cell? ⟨n7, 7, none⟩ = some (.int .i64 0) := H7f.out.cell 7
  have d0 : v4.cell? ⟨n8, 0, none⟩ = some (.int .i64 y.k) := H8f.out.cell 0
  have d1 : v4.cell? ⟨n8, 1, none⟩ = some (strV y.t) := H8f.out.cell 1
  have d2 : v4.cell? ⟨n8, 2, none⟩ = some (strV y.t2) := H8f.out.cell 2
  have d3 : v4.cell? ⟨n8, 3, none⟩ = some (.int .i64 y.n) := H8f.out.cell 3
  have d4 : v4.cell? ⟨n8, 4, none⟩ = some (.int .i64 0) := H8f.out.cell 4
  have d5 : v4.cell? ⟨n8, 5, none⟩ = some (.int .i64 0) := H8f.out.cell 5
  have d6 : v4.cell? ⟨n8, 6, none⟩ = some (.int .i64 0) := H8f.out.cell 6
  have d7 : v4.cell? ⟨n8, 7, none⟩ = some (.int .i64 0) := H8f.out.cell 7
  by_cases hk1 : x.k = y.k
  case neg =>
    have e1 : (x.k == y.k) = false := beq_false_of_ne hk1
    have HF := Lib.hid e1
    clear hk1
    go_wp2_with fail
    go_ret
    exact ⟨by rw [show sameB x y sm = false from by unfold sameB eqN; rw [HF.out]; rfl]; rfl, HBf.out⟩
  by_cases ht1 : x.t = y.t
  case neg =>
    have e1 : (x.k == y.k) = true := beq_iff_eq.2 hk1
    have e2 : (x.t == y.t) = false := beq_false_of_ne ht1
    have HF := Lib.hid (And.intro e1 e2)
    clear hk1 ht1
    go_wp2_with fail
    go_ret
    exact ⟨by rw [show sameB x y sm = false from by unfold sameB eqN; rw [HF.out.1, HF.out.2]; rfl]; rfl, HBf.out⟩
  by_cases ht2 : x.t2 = y.t2
  case neg =>
    have e1 : (x.k == y.k) = true := beq_iff_eq.2 hk1
    have e2 : (x.t == y.t) = true := beq_iff_eq.2 ht1
    have e3 : (x.t2 == y.t2) = false := beq_false_of_ne ht2
    have HF := Lib.hid (And.intro e1 (And.intro e2 e3))
    clear hk1 ht1 ht2
    go_wp2_with fail
    go_ret
    exact ⟨by rw [show sameB x y sm = false from by unfold sameB eqN; rw [HF.out.1, HF.out.2.1, HF.out.2.2]; rfl]; rfl, HBf.out⟩
  by_cases hn1 : x.n = y.n
  case neg =>
    have e1 : (x.k == y.k) = true := beq_iff_eq.2 hk1
    have e2 : (x.t == y.t) = true := beq_iff_eq.2 ht1
    have e3 : (x.t2 == y.t2) = true := beq_iff_eq.2 ht2
    have e4 : (x.n == y.n) = false := beq_false_of_ne hn1
    have HF := Lib.hid (And.intro e1 (And.intro e2 (And.intro e3 e4)))
    clear hk1 ht1 ht2 hn1
    go_wp2_with fail
    go_ret
    exact ⟨by rw [show sameB x y sm = false from by unfold sameB eqN; rw [HF.out.1, HF.out.2.1, HF.out.2.2.1, HF.out.2.2.2]; rfl]; rfl, HBf.out⟩
  have HE := Lib.hid (show eqN x y = true by unfold eqN; rw [hk1, ht1, ht2, hn1]; simp)
  have e1 : (x.k == y.k) = true := beq_iff_eq.2 hk1
  have e2 : (x.t == y.t) = true := beq_iff_eq.2 ht1
  have e3 : (x.t2 == y.t2) = true := beq_iff_eq.2 ht2
  have e4 : (x.n == y.n) = true := beq_iff_eq.2 hn1
  clear hk1 ht1 ht2 hn1
  have HSB := Lib.hid (show sameB x y sm = ((kidsL x).length == (kidsL y).length && ((kidsL x).zip (kidsL y)).all fun p => sm p.1 p.2) by unfold sameB; rw [HE.out]; rfl)
  have hL1 : (kidsL x).length ≤ 3 := kidTo_len _ _ _
  have hL2 : (kidsL y).length ≤ 3 := kidTo_len _ _ _
  generalize kidsL x = L at HREC HPf HSB hL1 ⊢
  generalize kidsL y = M at HREC HQf HSB hL2 ⊢
  by_cases hlm : L.length = M.length
  case neg =>
    have e5 : ((L.length : Int) == (M.length : Int)) = false := beq_false_of_ne (by omega)
    have e6 : ((L.length : Int) != (M.length : Int)) = true := bne_iff_ne.2 (by omega)
    have HF := Lib.hid (show (L.length == M.length) = false from beq_false_of_ne hlm)
    clear hlm
    go_wp2_with fail
    go_ret
    exact ⟨by rw [show sameB x y sm = false from by rw [HSB.out, HF.out]; rfl]; rfl, HBf.out⟩
  have HLM := Lib.hid hlm
  have HF := Lib.hid (show (L.length == M.length) = true from beq_iff_eq.2 hlm)
  have hZL : (L.zip M).length = L.length := by rw [List.length_zip]; omega
  rw [← hlm] at HQf ⊢
  have e5 : ((L.length : Int) != (L.length : Int)) = false := by simp
  have e43 : (x.k == 43) = false := beq_false_of_ne hk
  clear hlm
  go_upto_region 7 with fail
  go_quiet (fail)
  have HXg := Lib.hid (HXf.out.drewN nq)
  have HYg := Lib.hid (HYf.out.drewN nq)
  have HPg := Lib.hid (show (v4.drewN nq).ownsRow v0.heap.size 3 1 (.slice AP L.length cP) L.length (L.map intV) from HPf.out)
  have HQg := Lib.hid (show (v4.drewN nq).ownsRow v1.heap.size 3 1 (.slice AQ L.length cQ) L.length (M.map intV) from HQf.out)
  have HBg := Lib.hid (below_drewN HBf.out nq)
  clear c0 d0 c1 d1 c2 d2 c3 d3 c4 d4 c5 d5 c6 d6 c7 d7 e1 e2 e3 e4
  generalize v4.drewN nq = v5 at HXg HYg HPg HQg HBg ⊢
  generalize v0.heap.size = B0 at HPg
  generalize v1.heap.size = B1 at HQg
  go_wp2_with fail
  go_loopw [70] (fun i wr => ∃ j : Nat, j ≤ L.length ∧ i = .int .i64 j ∧ ((L.zip M).take j).all (fun p => sm p.1 p.2) = true ∧ Blk wr xb 25 #[.slice (some ad) a.l.length c, .slice A' a.y.length c', .int .i64 a.r] ∧ Blk wr yb 25 #[.slice (some ad') b.l.length d, .slice D' b.y.length d', .int .i64 b.r] ∧ wr.ownsRow B0 3 1 (.slice AP L.length cP) L.length (L.map intV) ∧ wr.ownsRow B1 3 1 (.slice AQ L.length cQ) L.length (M.map intV) ∧ Below w.heap.size w wr) (fun i _ => L.length - (intOf i).toNat)
  case atStart => exact ⟨0, by omega, rfl, rfl, HXg.out, HYg.out, HPg.out, HQg.out, HBg.out⟩
  case round =>
    obtain ⟨j, hj, rfl, hall, hX, hY, hP, hQ, hB⟩ := hrel
    have HALL := Lib.hid hall
    have HX := Lib.hid hX
    have HY := Lib.hid hY
    have HP := Lib.hid hP
    have HQ := Lib.hid hQ
    have HB := Lib.hid hB
    clear hall hX hY hP hQ hB HXg HYg HPg HQg HBg
    by_cases hjt : j < L.length
    case neg =>
      obtain rfl : j = L.length := by omega
      have hjt2 : ¬ ((L.length : Int) < (L.length : Int)) := by omega
      have HA9 := Lib.hid (show (L.zip M).all (fun p => sm p.1 p.2) = true by have h9 := HALL.out; rwa [List.take_of_length_le (by omega)] at h9)
      go_wp2_with fail
      go_ret
      exact ⟨by rw [HSB.out, HF.out, HA9.out]; rfl, HB.out⟩
    case pos =>
      have hj1 : (j : Int) < (L.length : Int) := by omega
      have hj0 : (0 : Int) ≤ (j : Int) := by omega
      have hjm : j < M.length := by have := HLM.out; omega
      have hp1 : L[j]? = some L[j] := List.getElem?_eq_getElem hjt
      have hq1 : M[j]? = some M[j] := List.getElem?_eq_getElem hjm
      have HZ := Lib.hid (show (L.zip M)[j]'(by omega) = (L[j], M[j]) from List.getElem_zip)
      obtain ⟨ap, u1, rfl, _, hu1, hc1⟩ := (Reads.of_own HP.out).at_ hjt
      obtain ⟨aq, u2, rfl, _, hu2, hc2⟩ := (Reads.of_own HQ.out).at_ hjt
      rw [List.getElem?_map, hp1] at hu1
      rw [List.getElem?_map, hq1] at hu2
      obtain rfl := Option.some.inj hu1
      obtain rfl := Option.some.inj hu2
      have HR := Lib.hid (fun (V : World) (h : Below w.heap.size w V) => HREC.out V h j L[j] M[j] hp1 hq1)
      generalize L[j] = p at hc1 HZ HR hp1
      generalize M[j] = q at hc2 HZ HR hq1
      clear hp1 hq1 hu1 hu2
      replace hc1 : wr.cell? (ap.add j) = some (.int .i64 p) := hc1
      replace hc2 : wr.cell? (aq.add j) = some (.int .i64 q) := hc2
      go_upto_region 12 with fail
      refine wp_region_held_drew (S := fun V => V.cell? ⟨xb, 0, none⟩ = some (.slice (some ad) a.l.length c) ∧ V.cell? ⟨xb, 1, none⟩ = some (.slice A' a.y.length c') ∧ V.cell? ⟨xb, 2, none⟩ = some (.int .i64 a.r) ∧ V.cell? ⟨yb, 0, none⟩ = some (.slice (some ad') b.l.length d) ∧ V.cell? ⟨yb, 1, none⟩ = some (.slice D' b.y.length d') ∧ V.cell? ⟨yb, 2, none⟩ = some (.int .i64 b.r) ∧ V.cell? (ap.add j) = some (.int .i64 p) ∧ V.cell? (aq.add j) = some (.int .i64 q)) (by kernel_rfl) ⟨HX.out.cell 0, HX.out.cell 1, HX.out.cell 2, HY.out.cell 0, HY.out.cell 1, HY.out.cell 2, hc1, hc2⟩ (fun hHeld => ?_)
      have HXd := Lib.hid HX.out.drew
      have HYd := Lib.hid HY.out.drew
      have HPd := Lib.hid (show wr.drew.ownsRow B0 3 1 (.slice (some ap) L.length cP) L.length (L.map intV) from HP.out)
      have HQd := Lib.hid (show wr.drew.ownsRow B1 3 1 (.slice (some aq) L.length cQ) L.length (M.map intV) from HQ.out)
      have HBd := Lib.hid (Below.drew HB.out)
      have hc1d : wr.drew.cell? (ap.add j) = some (.int .i64 p) := hc1
      have hc2d : wr.drew.cell? (aq.add j) = some (.int .i64 q) := hc2
      clear hc1 hc2
      generalize wr.drew = w6 at HXd HYd HPd HQd HBd hc1d hc2d hHeld ⊢
      refine wpAnyH_take (i := 0) (oi := ⟨some 73, _, _, _, _, _⟩) (v := ?_) rfl (by kernel_rfl) (by kernel_rfl) (by kernel_rfl) (fun _ _ _ h => h) (Or.inl ⟨by kernel_rfl, ?_⟩) (by assumption) ?_
      rotate_left
      · intro V hSw
        obtain ⟨z0, z1, z2, z3, z4, z5, z6, z7⟩ := hSw
        go_simp
        try with_reducible rfl
      try simp only [Act.put, List.setIfInBounds_toArray, List.set_cons_zero, List.set_cons_succ]
      refine wpAnyH_take (i := 1) (oi := ⟨some 74, _, _, _, _, _⟩) (v := ?_) rfl (by kernel_rfl) (by kernel_rfl) (by kernel_rfl) (fun _ _ _ h => h) (Or.inl ⟨by kernel_rfl, ?_⟩) (by assumption) ?_
      rotate_left
      · intro V hSw
        obtain ⟨z0, z1, z2, z3, z4, z5, z6, z7⟩ := hSw
        go_simp
        try with_reducible rfl
      try simp only [Act.put, List.setIfInBounds_toArray, List.set_cons_zero, List.set_cons_succ]
      refine wpAnyH_take (i := 2) (oi := ⟨some 75, _, _, _, _, _⟩) (v := ?_) rfl (by kernel_rfl) (by kernel_rfl) (by kernel_rfl) (fun _ _ _ h => h) (Or.inl ⟨by kernel_rfl, ?_⟩) (by assumption) ?_
      rotate_left
      · intro V hSw
        obtain ⟨z0, z1, z2, z3, z4, z5, z6, z7⟩ := hSw
        go_simp
        try with_reducible rfl
      try simp only [Act.put, List.setIfInBounds_toArray, List.set_cons_zero, List.set_cons_succ]
      refine wpAnyH_take (i := 3) (oi := ⟨some 76, _, _, _, _, _⟩) (v := ?_) rfl (by kernel_rfl) (by kernel_rfl) (by kernel_rfl) (fun _ _ _ h => h) (Or.inl ⟨by kernel_rfl, ?_⟩) (by assumption) ?_
      rotate_left
      · intro V hSw
        obtain ⟨z0, z1, z2, z3, z4, z5, z6, z7⟩ := hSw
        go_simp
        try with_reducible rfl
      try simp only [Act.put, List.setIfInBounds_toArray, List.set_cons_zero, List.set_cons_succ]
      refine wpAnyH_take (i := 4) (oi := ⟨some 77, _, _, _, _, _⟩) (v := ?_) rfl (by kernel_rfl) (by kernel_rfl) (by kernel_rfl) (fun _ _ _ h => h) (Or.inl ⟨by kernel_rfl, ?_⟩) (by assumption) ?_
      rotate_left
      · intro V hSw
        obtain ⟨z0, z1, z2, z3, z4, z5, z6, z7⟩ := hSw
        go_simp
        try with_reducible rfl
      try simp only [Act.put, List.setIfInBounds_toArray, List.set_cons_zero, List.set_cons_succ]
      refine wpAnyH_take (i := 5) (oi := ⟨some 78, _, _, _, _, _⟩) (v := ?_) rfl (by kernel_rfl) (by kernel_rfl) (by kernel_rfl) (fun _ _ _ h => h) (Or.inl ⟨by kernel_rfl, ?_⟩) (by assumption) ?_
      rotate_left
      · intro V hSw
        obtain ⟨z0, z1, z2, z3, z4, z5, z6, z7⟩ := hSw
        go_simp
        try with_reducible rfl
      try simp only [Act.put, List.setIfInBounds_toArray, List.set_cons_zero, List.set_cons_succ]
      refine wpAnyH_take (i := 6) (oi := ⟨some 79, _, _, _, _, _⟩) (v := ?_) rfl (by kernel_rfl) (by kernel_rfl) (by kernel_rfl) (fun _ _ _ h => h) (Or.inl ⟨by kernel_rfl, ?_⟩) (by assumption) ?_
      rotate_left
      · intro V hSw
        obtain ⟨z0, z1, z2, z3, z4, z5, z6, z7⟩ := hSw
        go_simp
        try with_reducible rfl
      try simp only [Act.put, List.setIfInBounds_toArray, List.set_cons_zero, List.set_cons_succ]
      refine wpAnyH_take (i := 7) (oi := ⟨some 80, _, _, _, _, _⟩) (v := ?_) rfl (by kernel_rfl) (by kernel_rfl) (by kernel_rfl) (fun _ _ _ h => h) (Or.inl ⟨by kernel_rfl, ?_⟩) (by assumption) ?_
      rotate_left
      · intro V hSw
        obtain ⟨z0, z1, z2, z3, z4, z5, z6, z7⟩ := hSw
        go_simp
        try with_reducible rfl
      try simp only [Act.put, List.setIfInBounds_toArray, List.set_cons_zero, List.set_cons_succ]
      refine wpAnyH_take (i := 8) (oi := ⟨some 81, _, _, _, _, _⟩) (v := ?_) rfl (by kernel_rfl) (by kernel_rfl) (by kernel_rfl) (fun _ _ _ h => h) (Or.inl ⟨by kernel_rfl, ?_⟩) (by assumption) ?_
      rotate_left
      · intro V hSw
        obtain ⟨z0, z1, z2, z3, z4, z5, z6, z7⟩ := hSw
        go_simp
        try with_reducible rfl
      try simp only [Act.put, List.setIfInBounds_toArray, List.set_cons_zero, List.set_cons_succ]
      refine wpAnyH_take (i := 9) (oi := ⟨some 82, _, _, _, _, _⟩) (v := ?_) rfl (by kernel_rfl) (by kernel_rfl) (by kernel_rfl) (fun _ _ _ h => h) (Or.inl ⟨by kernel_rfl, ?_⟩) (by assumption) ?_
      rotate_left
      · intro V hSw
        obtain ⟨z0, z1, z2, z3, z4, z5, z6, z7⟩ := hSw
        go_simp
        try with_reducible rfl
      try simp only [Act.put, List.setIfInBounds_toArray, List.set_cons_zero, List.set_cons_succ]
      refine wpAnyH_ready (rs := [10]) (by kernel_rfl) (by simp) ?_
      refine AllReadyH.cons (o := ⟨some 83, _, _, _, _, _⟩) rfl (fun K hK => ?_) AllReadyH.nil
      go_simp
      refine (HR.out w6 HBd.out).mono ?_
      rintro e w7 ⟨rfl, hb7⟩
      have HX7 := Lib.hid (HXd.out.next hb7)
      have HY7 := Lib.hid (HYd.out.next hb7)
      have HP7 := Lib.hid (own_next HPd.out hb7)
      have HQ7 := Lib.hid (own_next HQd.out hb7)
      have HB7 := Lib.hid (next_ HBd.out hb7)
      have hc17 : w7.cell? (ap.add j) = some (.int .i64 p) := (hb7.cell (p := ap.add j) (World.block_lt_of_cell? w6 _ hc1d)).trans hc1d
      have hc27 : w7.cell? (aq.add j) = some (.int .i64 q) := (hb7.cell (p := aq.add j) (World.block_lt_of_cell? w6 _ hc2d)).trans hc2d
      clear hb7
      go_wp2_with fail
      refine hK.out _ _ ?_ (fun hHeld => ?_)
      · exact ⟨HX7.out.cell 0, HX7.out.cell 1, HX7.out.cell 2, HY7.out.cell 0, HY7.out.cell 1, HY7.out.cell 2, hc17, hc27⟩
      clear hK K hc17 hc27 hc1d hc2d
      try simp only [Act.put, List.setIfInBounds_toArray, List.set_cons_zero, List.set_cons_succ]
      refine wpAnyH_take (i := 11) (oi := ⟨some 84, _, _, _, _, _⟩) (v := ?_) rfl (by kernel_rfl) (by kernel_rfl) (by kernel_rfl) (fun _ _ _ h => h) (Or.inl ⟨by kernel_rfl, ?_⟩) (by assumption) ?_
      rotate_left
      · intro V hSw
        obtain ⟨z0, z1, z2, z3, z4, z5, z6, z7⟩ := hSw
        go_simp
        try with_reducible rfl
      try simp only [Act.put, List.setIfInBounds_toArray, List.set_cons_zero, List.set_cons_succ]
      refine wpAnyH_done (by kernel_rfl) ?_ _
      cases hsm : sm p q with
      | false =>
        have HF9 := Lib.hid (show (L.zip M).all (fun p => sm p.1 p.2) = false from all_not1 (k := j) (by omega) (by rw [HZ.out]; exact hsm))
        clear hsm
        go_wp2_with fail
        go_ret
        exact ⟨by rw [HSB.out, HF9.out, Bool.and_false]; rfl, HB7.out⟩
      | true =>
        have HF9 := Lib.hid (show ((L.zip M).take (j + 1)).all (fun p => sm p.1 p.2) = true from all_take1 (k := j) (by omega) HALL.out (by rw [HZ.out]; exact hsm))
        clear hsm
        go_wp2_with fail
        go_roundw
        case rel => exact ⟨j + 1, by omega, by go_num, HF9.out, HX7.out, HY7.out, HP7.out, HQ7.out, HB7.out⟩
        case measure => simp [intOf]; omega
end Go.Proofs.YtphojigdapaaiaaDoor
