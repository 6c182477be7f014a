/- ast.of. -/
import Derived.Test.YtphojigdapaaiaaDoorAOf
import Derived.Laws.ResultCell
namespace Go.Proofs.YtphojigdapaaiaaDoor
open Go.ChangeShapes Go.WideShapes Go.ChangeAt Go.RowKit
set_option linter.unusedVariables false
set_option linter.unusedSimpArgs false
theorem results_row_tmp {P : Program} {fn : Func} {p u : Tmp} {ty : TypeId} (h : fn.results = #[.cell p ty, .tmp u]) (tmps : Array Value) (w : World) (g : Nat) (t : TypeId) (cs : Array Value) (fr : Nat × Nat) (d : TypeDesc)
    (hp : tmps.getD p undef = .pointer (some ⟨g, 0, none⟩)) (hg : w.heap[g]? = some (.cells cs t fr))
    (hu : P.underlying ty = some d) (hd : (match d with | .struct _ | .array _ _ => true | _ => false) = true) (hi : (P.info? ty).map (·.size) = some cs.size) :
    (results fn tmps).run P w = .ok (.tuple #[.agg cs, tmps.getD u undef]) w := by
  rw [results_cell_tmp h, hp]
  simp [asAddr, run_loadVar_row w g t ty cs fr d hg hu hd hi]
def zeroR : RowA := ⟨0, 0, 0, 0, 0, 0, 0, 0⟩
def ofL (x : Nod) : RowA × Bool :=
  if 1 ≤ x.k ∧ x.k < 44 then (if x.k = 25 ∧ x.n = 3 then { rowsL.getD x.k.toNat zeroR with c := 116 } else rowsL.getD x.k.toNat zeroR, true) else (zeroR, false)
def OfEnd (x : Nod) (w : World) (e : Ending) (w' : World) : Prop := e = .returned (.tuple #[.agg (rowC (ofL x).1).toArray, .bool (ofL x).2]) ∧ Below w.heap.size w w'
theorem row8 {w : World} {b : Nat} {t : TypeId} {u0 u1 u2 u3 u4 u5 u6 u7 v0 v1 v2 v3 v4 v5 v6 v7 : Value} (h : Blk w b t #[u0, u1, u2, u3, u4, u5, u6, u7]) :
    Blk ((((((((w.setCell ⟨b, 0, none⟩ v0).setCell ⟨b, 1, none⟩ v1).setCell ⟨b, 2, none⟩ v2).setCell ⟨b, 3, none⟩ v3).setCell ⟨b, 4, none⟩ v4).setCell ⟨b, 5, none⟩ v5).setCell ⟨b, 6, none⟩ v6).setCell ⟨b, 7, none⟩ v7) b t #[v0, v1, v2, v3, v4, v5, v6, v7] := by
  have h1 := (((((((h.set_ 0 v0).set_ 1 v1).set_ 2 v2).set_ 3 v3).set_ 4 v4).set_ 5 v5).set_ 6 v6).set_ 7 v7
  simpa only [List.setIfInBounds_toArray, List.set_cons_zero, List.set_cons_succ] using h1
theorem low8 {w a : World} {B b : Nat} {v0 v1 v2 v3 v4 v5 v6 v7 : Value} (hB : B ≤ b) (h : Below B a w) :
    Below B a ((((((((w.setCell ⟨b, 0, none⟩ v0).setCell ⟨b, 1, none⟩ v1).setCell ⟨b, 2, none⟩ v2).setCell ⟨b, 3, none⟩ v3).setCell ⟨b, 4, none⟩ v4).setCell ⟨b, 5, none⟩ v5).setCell ⟨b, 6, none⟩ v6).setCell ⟨b, 7, none⟩ v7) :=
  (((((((h.setCell (p := ⟨b, 0, none⟩) hB v0).setCell (p := ⟨b, 1, none⟩) hB v1).setCell (p := ⟨b, 2, none⟩) hB v2).setCell (p := ⟨b, 3, none⟩) hB v3).setCell (p := ⟨b, 4, none⟩) hB v4).setCell (p := ⟨b, 5, none⟩) hB v5).setCell (p := ⟨b, 6, none⟩) hB v6).setCell (p := ⟨b, 7, none⟩) hB v7
theorem rows_at {k : Nat} (h : k < 44) : ∃ r, rowsL[k]? = some r := ⟨rowsL[k]'(by rw [show rowsL.length = 44 from rfl]; exact h), List.getElem?_eq_getElem _⟩
set_option maxRecDepth 100000 in
set_option maxHeartbeats 4000000 in
theorem c34 (x : Nod) (w : World) (ht : AstTab w) : Calls Tryd.prog 34 #[.agg (nodC x).toArray] w (OfEnd x w) := by
  have HT := Lib.hid ht
  clear ht
  show Calls Tryd.prog 34 #[.agg #[.int .i64 x.k, strV x.t, strV x.t2, .int .i64 x.n, .int .i64 x.a, .int .i64 x.b, .int .i64 x.c, .int .i64 x.h]] w _
  have hN := Blk.new w 30 #[.int .i64 x.k, strV x.t, strV x.t2, .int .i64 x.n, .int .i64 x.a, .int .i64 x.b, .int .i64 x.c, .int .i64 x.h]
  have hs : (w.alloc (.cells #[.int .i64 x.k, strV x.t, strV x.t2, .int .i64 x.n, .int .i64 x.a, .int .i64 x.b, .int .i64 x.c, .int .i64 x.h] 30)).heap.size = w.heap.size + 1 := by rw [World.size_alloc]
  have hR := (Blk.new (w.alloc (.cells #[.int .i64 x.k, strV x.t, strV x.t2, .int .i64 x.n, .int .i64 x.a, .int .i64 x.b, .int .i64 x.c, .int .i64 x.h] 30)) 59 (rowC zeroR).toArray)
  have hB0 := below_new w (.cells #[.int .i64 x.k, strV x.t, strV x.t2, .int .i64 x.n, .int .i64 x.a, .int .i64 x.b, .int .i64 x.c, .int .i64 x.h] 30)
  have hB := hB0.alloc hB0.size (.cells (rowC zeroR).toArray 59)
  have hN1 := hN.alloc (.cells (rowC zeroR).toArray 59)
  rw [hs] at hR
  clear hN hB0
  go_enter Tryd.func34, Tryd.ntmps34
  go_upto_region 1 with fail
  have hr0 : (rowC zeroR).toArray = #[.int .u8 0, .int .u8 0, .int .u8 0, .int .u8 0, .int .i64 0, .int .i64 0, .int .i64 0, .int .i64 0] := rfl
  rw [hr0] at hR hN1 hB
  clear hs
  generalize (w.alloc (.cells #[.int .i64 x.k, strV x.t, strV x.t2, .int .i64 x.n, .int .i64 x.a, .int .i64 x.b, .int .i64 x.c, .int .i64 x.h] 30)).alloc (.cells #[.int .u8 0, .int .u8 0, .int .u8 0, .int .u8 0, .int .i64 0, .int .i64 0, .int .i64 0, .int .i64 0] 59) = w1 at hR hN1 hB ⊢
  have HB := Lib.hid hB
  have HLE := Lib.hid (show w.heap.size ≤ w.heap.size + 1 by omega)
  have HR := Lib.hid hR
  have HN := Lib.hid hN1
  generalize w.heap.size + 1 = rb at HR HLE ⊢
  generalize hxb : w.heap.size = xb at HN ⊢
  have HXB := Lib.hid hxb
  have x0 : w1.cell? ⟨xb, 0, none⟩ = some (.int .i64 x.k) := HN.out.cell 0
  have x3 : w1.cell? ⟨xb, 3, none⟩ = some (.int .i64 x.n) := HN.out.cell 3
  clear hR hN1 hB hxb hr0
  have HKR := HR
  have r0 : w1.cell? ⟨rb, 0, none⟩ = some (.int .u8 0) := HR.out.cell 0
  have f0 := HR.out.frozen 0
  have f1 := HR.out.frozen 1
  have f2 := HR.out.frozen 2
  have f3 := HR.out.frozen 3
  have f4 := HR.out.frozen 4
  have f5 := HR.out.frozen 5
  have f6 := HR.out.frozen 6
  have f7 := HR.out.frozen 7
  have r1 : w1.cell? ⟨rb, 1, none⟩ = some (.int .u8 0) := HR.out.cell 1
  have r2 : w1.cell? ⟨rb, 2, none⟩ = some (.int .u8 0) := HR.out.cell 2
  have r3 : w1.cell? ⟨rb, 3, none⟩ = some (.int .u8 0) := HR.out.cell 3
  have r4 : w1.cell? ⟨rb, 4, none⟩ = some (.int .i64 0) := HR.out.cell 4
  have r5 : w1.cell? ⟨rb, 5, none⟩ = some (.int .i64 0) := HR.out.cell 5
  have r6 : w1.cell? ⟨rb, 6, none⟩ = some (.int .i64 0) := HR.out.cell 6
  have r7 : w1.cell? ⟨rb, 7, none⟩ = some (.int .i64 0) := HR.out.cell 7
  by_cases h1 : x.k < 1
  · have H := Lib.hid (show ofL x = (zeroR, false) by unfold ofL; rw [if_neg (by omega)])
    go_wp2_with fail
    exact bodyPost_ret (results_row_tmp rfl _ _ _ 59 _ (0,0) _ rfl (row8 HR.out) Tryd.underlying59 rfl (by kernel_rfl)) rfl ⟨by rw [H.out]; rfl, low8 HLE.out HB.out⟩
  by_cases h2 : 44 ≤ x.k
  · have H := Lib.hid (show ofL x = (zeroR, false) by unfold ofL; rw [if_neg (by omega)])
    go_wp2_with fail
    exact bodyPost_ret (results_row_tmp rfl _ _ _ 59 _ (0,0) _ rfl (row8 HR.out) Tryd.underlying59 rfl (by kernel_rfl)) rfl ⟨by rw [H.out]; rfl, low8 HLE.out HB.out⟩
  obtain ⟨k, hk⟩ : ∃ k : Nat, x.k = (k : Int) := ⟨x.k.toNat, by omega⟩
  have hk1 : k < 44 := by omega
  obtain ⟨r, hr⟩ := rows_at hk1
  have HD := Lib.hid (show ofL x = (if x.k = 25 ∧ x.n = 3 then { r with c := 116 } else r, true) by
    unfold ofL; rw [if_pos (by omega), show x.k.toNat = k by omega, List.getD_eq_getElem?_getD, hr]; rfl)
  have hc := (HT.out.next HB.out).at_ hr
  have HC := Lib.hid hc
  have HP := Lib.hid (Blk.new w1 59 #[.int .u8 r.is_, .int .u8 r.a, .int .u8 r.b, .int .u8 r.c, .int .i64 r.text, .int .i64 r.second, .int .i64 r.lo, .int .i64 r.hi])
  have hb2 := below_new w1 (.cells #[.int .u8 r.is_, .int .u8 r.a, .int .u8 r.b, .int .u8 r.c, .int .i64 r.text, .int .i64 r.second, .int .i64 r.lo, .int .i64 r.hi] 59)
  have HB2 := Lib.hid (next_ HB.out hb2)
  have HR2 := Lib.hid (HR.out.next hb2)
  have HN2 := Lib.hid (HN.out.next hb2)
  have HLT := Lib.hid (show rb < w1.heap.size from HR.out.lt)
  clear hb2 hc r0 r1 r2 r3 r4 r5 r6 r7 f0 f1 f2 f3 f4 f5 f6 f7 HKR
  clear x3
  rw [hk] at x0 h1 h2
  go_upto_region 3 with fail
  go_upto_region 4 with (first | (refine wpList_load_at rfl 59 (.tmp 16) rfl ⟨0, k * 8, none⟩ rfl [.int .u8 r.is_, .int .u8 r.a, .int .u8 r.b, .int .u8 r.c, .int .i64 r.text, .int .i64 r.second, .int .i64 r.lo, .int .i64 r.hi] _ HC.out Tryd.underlying59 rfl (by kernel_rfl) ?_))
  clear x0
  generalize w1.alloc (.cells #[.int .u8 r.is_, .int .u8 r.a, .int .u8 r.b, .int .u8 r.c, .int .i64 r.text, .int .i64 r.second, .int .i64 r.lo, .int .i64 r.hi] 59) = w3 at HP HB2 HR2 HN2 ⊢
  generalize w1.heap.size = pb at HP HLT ⊢
  have x0 : w3.cell? ⟨xb, 0, none⟩ = some (.int .i64 (k : Int)) := by rw [← hk]; exact HN2.out.cell 0
  have x3 : w3.cell? ⟨xb, 3, none⟩ = some (.int .i64 x.n) := HN2.out.cell 3
  by_cases hA : k = 25
  · by_cases hn : x.n = 3
    · rw [if_pos ⟨by omega, hn⟩] at HD
      have e1 : ((k : Int) == 25) = true := beq_iff_eq.2 (by omega)
      rw [hn] at x3
      have q3 : w3.cell? ⟨pb, 3, none⟩ = some (.int .u8 r.c) := HP.out.cell 3
      have g3 := HP.out.frozen 3
      have hs := HP.out.set_ 3 (.int .u8 116)
      simp only [List.setIfInBounds_toArray, List.set_cons_zero, List.set_cons_succ] at hs
      have HP3 := Lib.hid hs
      have HR3 := Lib.hid (HR2.out.far (p := ⟨pb, 3, none⟩) (by show rb ≠ pb; have := HLT.out; omega) (.int .u8 116))
      have HB3 := Lib.hid (HB2.out.setCell (p := ⟨pb, 3, none⟩) (by show w.heap.size ≤ pb; have := HLT.out; have := HLE.out; omega) (.int .u8 116))
      clear hs
      go_upto_region 6 with fail
      clear x0 x3 q3 g3
      generalize w3.setCell ⟨pb, 3, none⟩ (.int .u8 116) = w4 at HP3 HR3 HB3 ⊢
      have p0 : w4.cell? ⟨pb, 0, none⟩ = some (.int .u8 r.is_) := HP3.out.cell 0
      have p1 : w4.cell? ⟨pb, 1, none⟩ = some (.int .u8 r.a) := HP3.out.cell 1
      have p2 : w4.cell? ⟨pb, 2, none⟩ = some (.int .u8 r.b) := HP3.out.cell 2
      have p3 : w4.cell? ⟨pb, 3, none⟩ = some (.int .u8 116) := HP3.out.cell 3
      have p4 : w4.cell? ⟨pb, 4, none⟩ = some (.int .i64 r.text) := HP3.out.cell 4
      have p5 : w4.cell? ⟨pb, 5, none⟩ = some (.int .i64 r.second) := HP3.out.cell 5
      have p6 : w4.cell? ⟨pb, 6, none⟩ = some (.int .i64 r.lo) := HP3.out.cell 6
      have p7 : w4.cell? ⟨pb, 7, none⟩ = some (.int .i64 r.hi) := HP3.out.cell 7
      have r0 : w4.cell? ⟨rb, 0, none⟩ = some (.int .u8 0) := HR3.out.cell 0
      have f0 := HR3.out.frozen 0
      have r1 : w4.cell? ⟨rb, 1, none⟩ = some (.int .u8 0) := HR3.out.cell 1
      have f1 := HR3.out.frozen 1
      have r2 : w4.cell? ⟨rb, 2, none⟩ = some (.int .u8 0) := HR3.out.cell 2
      have f2 := HR3.out.frozen 2
      have r3 : w4.cell? ⟨rb, 3, none⟩ = some (.int .u8 0) := HR3.out.cell 3
      have f3 := HR3.out.frozen 3
      have r4 : w4.cell? ⟨rb, 4, none⟩ = some (.int .i64 0) := HR3.out.cell 4
      have f4 := HR3.out.frozen 4
      have r5 : w4.cell? ⟨rb, 5, none⟩ = some (.int .i64 0) := HR3.out.cell 5
      have f5 := HR3.out.frozen 5
      have r6 : w4.cell? ⟨rb, 6, none⟩ = some (.int .i64 0) := HR3.out.cell 6
      have f6 := HR3.out.frozen 6
      have r7 : w4.cell? ⟨rb, 7, none⟩ = some (.int .i64 0) := HR3.out.cell 7
      have f7 := HR3.out.frozen 7
      go_wp2_with fail
      exact bodyPost_ret (results_row_tmp rfl _ _ _ 59 _ (0,0) _ rfl (row8 HR3.out) Tryd.underlying59 rfl (by kernel_rfl)) rfl ⟨by rw [HD.out]; rfl, low8 HLE.out HB3.out⟩
    · rw [if_neg (by rintro ⟨_, h⟩; exact hn h)] at HD
      have e1 : ((k : Int) == 25) = true := beq_iff_eq.2 (by omega)
      have e2 : (x.n == 3) = false := beq_false_of_ne hn
      have p0 : w3.cell? ⟨pb, 0, none⟩ = some (.int .u8 r.is_) := HP.out.cell 0
      have p1 : w3.cell? ⟨pb, 1, none⟩ = some (.int .u8 r.a) := HP.out.cell 1
      have p2 : w3.cell? ⟨pb, 2, none⟩ = some (.int .u8 r.b) := HP.out.cell 2
      have p3 : w3.cell? ⟨pb, 3, none⟩ = some (.int .u8 r.c) := HP.out.cell 3
      have p4 : w3.cell? ⟨pb, 4, none⟩ = some (.int .i64 r.text) := HP.out.cell 4
      have p5 : w3.cell? ⟨pb, 5, none⟩ = some (.int .i64 r.second) := HP.out.cell 5
      have p6 : w3.cell? ⟨pb, 6, none⟩ = some (.int .i64 r.lo) := HP.out.cell 6
      have p7 : w3.cell? ⟨pb, 7, none⟩ = some (.int .i64 r.hi) := HP.out.cell 7
      have r0 : w3.cell? ⟨rb, 0, none⟩ = some (.int .u8 0) := HR2.out.cell 0
      have f0 := HR2.out.frozen 0
      have r1 : w3.cell? ⟨rb, 1, none⟩ = some (.int .u8 0) := HR2.out.cell 1
      have f1 := HR2.out.frozen 1
      have r2 : w3.cell? ⟨rb, 2, none⟩ = some (.int .u8 0) := HR2.out.cell 2
      have f2 := HR2.out.frozen 2
      have r3 : w3.cell? ⟨rb, 3, none⟩ = some (.int .u8 0) := HR2.out.cell 3
      have f3 := HR2.out.frozen 3
      have r4 : w3.cell? ⟨rb, 4, none⟩ = some (.int .i64 0) := HR2.out.cell 4
      have f4 := HR2.out.frozen 4
      have r5 : w3.cell? ⟨rb, 5, none⟩ = some (.int .i64 0) := HR2.out.cell 5
      have f5 := HR2.out.frozen 5
      have r6 : w3.cell? ⟨rb, 6, none⟩ = some (.int .i64 0) := HR2.out.cell 6
      have f6 := HR2.out.frozen 6
      have r7 : w3.cell? ⟨rb, 7, none⟩ = some (.int .i64 0) := HR2.out.cell 7
      have f7 := HR2.out.frozen 7
      go_wp2_with fail
      exact bodyPost_ret (results_row_tmp rfl _ _ _ 59 _ (0,0) _ rfl (row8 HR2.out) Tryd.underlying59 rfl (by kernel_rfl)) rfl ⟨by rw [HD.out]; rfl, low8 HLE.out HB2.out⟩
  · rw [if_neg (by rintro ⟨h, _⟩; omega)] at HD
    have e1 : ((k : Int) == 25) = false := beq_false_of_ne (by omega)
    have p0 : w3.cell? ⟨pb, 0, none⟩ = some (.int .u8 r.is_) := HP.out.cell 0
    have p1 : w3.cell? ⟨pb, 1, none⟩ = some (.int .u8 r.a) := HP.out.cell 1
    have p2 : w3.cell? ⟨pb, 2, none⟩ = some (.int .u8 r.b) := HP.out.cell 2
    have p3 : w3.cell? ⟨pb, 3, none⟩ = some (.int .u8 r.c) := HP.out.cell 3
    have p4 : w3.cell? ⟨pb, 4, none⟩ = some (.int .i64 r.text) := HP.out.cell 4
    have p5 : w3.cell? ⟨pb, 5, none⟩ = some (.int .i64 r.second) := HP.out.cell 5
    have p6 : w3.cell? ⟨pb, 6, none⟩ = some (.int .i64 r.lo) := HP.out.cell 6
    have p7 : w3.cell? ⟨pb, 7, none⟩ = some (.int .i64 r.hi) := HP.out.cell 7
    have r0 : w3.cell? ⟨rb, 0, none⟩ = some (.int .u8 0) := HR2.out.cell 0
    have f0 := HR2.out.frozen 0
    have r1 : w3.cell? ⟨rb, 1, none⟩ = some (.int .u8 0) := HR2.out.cell 1
    have f1 := HR2.out.frozen 1
    have r2 : w3.cell? ⟨rb, 2, none⟩ = some (.int .u8 0) := HR2.out.cell 2
    have f2 := HR2.out.frozen 2
    have r3 : w3.cell? ⟨rb, 3, none⟩ = some (.int .u8 0) := HR2.out.cell 3
    have f3 := HR2.out.frozen 3
    have r4 : w3.cell? ⟨rb, 4, none⟩ = some (.int .i64 0) := HR2.out.cell 4
    have f4 := HR2.out.frozen 4
    have r5 : w3.cell? ⟨rb, 5, none⟩ = some (.int .i64 0) := HR2.out.cell 5
    have f5 := HR2.out.frozen 5
    have r6 : w3.cell? ⟨rb, 6, none⟩ = some (.int .i64 0) := HR2.out.cell 6
    have f6 := HR2.out.frozen 6
    have r7 : w3.cell? ⟨rb, 7, none⟩ = some (.int .i64 0) := HR2.out.cell 7
    have f7 := HR2.out.frozen 7
    go_wp2_with fail
    exact bodyPost_ret (results_row_tmp rfl _ _ _ 59 _ (0,0) _ rfl (row8 HR2.out) Tryd.underlying59 rfl (by kernel_rfl)) rfl ⟨by rw [HD.out]; rfl, low8 HLE.out HB2.out⟩
end Go.Proofs.YtphojigdapaaiaaDoor
