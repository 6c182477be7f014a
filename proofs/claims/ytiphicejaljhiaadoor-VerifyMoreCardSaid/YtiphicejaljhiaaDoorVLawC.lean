/- The walk of VerifyMore: it returns true, whatever the program and the number are. -/
import Derived.Test.YtiphicejaljhiaaDoorVWakes
import Derived.Test.YtiphicejaljhiaaDoorVMoreP
import Derived.Test.YtiphicejaljhiaaDoorOwn
namespace Go.Proofs.YtiphicejaljhiaaDoor
open Go.ChangeShapes Go.WideShapes Go.ChangeAt Go.RowKit
set_option linter.unusedSimpArgs false
theorem SmallP.of_pr {q q' : PrMem} (h : SmallP q) (e : q'.pr = q.pr) : SmallP q' := by
  have e1 : q'.L.map (·.fn) = q.L.map (·.fn) := congrArg Pr.funcs e
  have e2 : q'.S = q.S := congrArg Pr.strs e
  have e3 : q'.M.map (·.fm) = q.M.map (·.fm) := congrArg Pr.forms e
  have l1 : q'.L.length = q.L.length := by rw [← List.length_map (f := (·.fn)), e1, List.length_map]
  have l3 : q'.M.length = q.M.length := by rw [← List.length_map (f := (·.fm)), e3, List.length_map]
  refine ⟨by rw [l1]; exact h.F, by rw [e2]; exact h.S, by rw [l3]; exact h.M, fun x hx => ?_, fun x hx => ?_⟩
  · obtain ⟨y, hy, he⟩ := List.mem_map.1 (e1 ▸ List.mem_map_of_mem (f := fun x : Fnv => x.fn) hx)
    rw [← he]
    exact h.f y hy
  · obtain ⟨y, hy, he⟩ := List.mem_map.1 (e3 ▸ List.mem_map_of_mem (f := fun x : Fmv => x.fm) hx)
    rw [← he]
    exact h.m y hy
theorem own_new (w : World) {b n cap : Nat} {e : TypeId} {s : Nat} {xs : List Value} (hb : b ≤ w.heap.size) (hn : xs.length = n * s) (hm : n ≤ maxLen) (hc : cap = n) :
    (w.alloc (.cells xs.toArray e)).ownsRow b e s (.slice (some ⟨w.heap.size, 0, none⟩) n cap) n xs := by
  subst hc
  exact ⟨hn, .inr ⟨w.heap.size, cap, xs.toArray, rfl, hb, heap_alloc_new w _, Nat.le_refl _, hm, by simpa using hn, by rw [List.take_of_length_le (by simp [hn])]⟩⟩
/-- A copy: its header at p, its rows from b on; what was there before is as it was. -/
structure CopySt (w W : World) (b p : Nat) (q : PrMem) : Prop where
  low : Below w.heap.size w W
  wp : w.heap.size ≤ p
  wb : w.heap.size ≤ b
  Q : Blk W p 42 #[.slice q.AF q.L.length q.cF, .slice q.AS q.S.length q.cS, .slice q.AM q.M.length q.cM]
  own : OwnPr W b q
section
variable {w W W' W1 : World} {b p : Nat} {q : PrMem}
theorem CopySt.next (h : CopySt w W b p q) (hb : Below W.heap.size W W') : CopySt w W' b p q := ⟨next_ h.low hb, h.wp, h.wb, h.Q.next hb, h.own.next hb⟩
theorem CopySt.ok (h : CopySt w W b p q) (hs : SmallP q) : PrOk W W.heap.size q := h.own.ok hs
theorem CopySt.pushF (h : CopySt w W b p q) {x : Fnv} (hx : W.ownsRow b 23 3 (.slice x.ad x.fn.code.length x.cap) x.fn.code.length (x.fn.code.flatMap insCells)) {a1 : Option Addr} {c1 : Nat}
    (hg : W.grownBy W1 (Value.slice q.AF q.L.length q.cF).ownBlock) (ho : W1.ownsRow b 60 3 (.slice a1 (q.L.length + 1) c1) (q.L.length + 1) (q.L.flatMap Fnv.cells ++ x.cells)) :
    CopySt w (W1.setCell ⟨p, 0, none⟩ (.slice a1 (q.L.length + 1) c1)) b p ⟨a1, c1, q.L ++ [x], q.AS, q.cS, q.S, q.AM, q.cM, q.M⟩ := by
  have Q1 := blk_row h.Q h.own.oF hg (by decide)
  have hrow : ∀ k, (Value.slice q.AF q.L.length q.cF).ownBlock = some k → b ≤ k := fun k e => (h.own.oF.lt k e).1
  refine ⟨(h.low.grown hg h.low.size (fun k e => by have := hrow k e; have := h.wb; omega)).setCell (p := ⟨p, 0, none⟩) h.wp _, h.wp, h.wb, ?_, (h.own.pushF hx hg ho).set Q1 _⟩
  simp only [List.length_append, List.length_cons, List.length_nil]
  exact Q1.set_ 0 _
theorem CopySt.pushS (h : CopySt w W b p q) {x : List UInt8} {a1 : Option Addr} {c1 : Nat}
    (hg : W.grownBy W1 (Value.slice q.AS q.S.length q.cS).ownBlock) (ho : W1.ownsRow b 9 1 (.slice a1 (q.S.length + 1) c1) (q.S.length + 1) (q.S.map strV ++ [strV x])) :
    CopySt w (W1.setCell ⟨p, 1, none⟩ (.slice a1 (q.S.length + 1) c1)) b p ⟨q.AF, q.cF, q.L, a1, c1, q.S ++ [x], q.AM, q.cM, q.M⟩ := by
  have Q1 := blk_row h.Q h.own.oS hg (by decide)
  have hrow : ∀ k, (Value.slice q.AS q.S.length q.cS).ownBlock = some k → b ≤ k := fun k e => (h.own.oS.lt k e).1
  refine ⟨(h.low.grown hg h.low.size (fun k e => by have := hrow k e; have := h.wb; omega)).setCell (p := ⟨p, 1, none⟩) h.wp _, h.wp, h.wb, ?_, (h.own.pushS hg ho).set Q1 _⟩
  simp only [List.length_append, List.length_cons, List.length_nil]
  exact Q1.set_ 1 _
theorem CopySt.pushM (h : CopySt w W b p q) {x : Fmv} (hx : W.ownsRow b 3 1 (.slice x.ad x.fm.cons.length x.cap) x.fm.cons.length (x.fm.cons.map (Value.int .i64))) {a1 : Option Addr} {c1 : Nat}
    (hg : W.grownBy W1 (Value.slice q.AM q.M.length q.cM).ownBlock) (ho : W1.ownsRow b 63 4 (.slice a1 (q.M.length + 1) c1) (q.M.length + 1) (q.M.flatMap Fmv.cells ++ x.cells)) :
    CopySt w (W1.setCell ⟨p, 2, none⟩ (.slice a1 (q.M.length + 1) c1)) b p ⟨q.AF, q.cF, q.L, q.AS, q.cS, q.S, a1, c1, q.M ++ [x]⟩ := by
  have Q1 := blk_row h.Q h.own.oM hg (by decide)
  have hrow : ∀ k, (Value.slice q.AM q.M.length q.cM).ownBlock = some k → b ≤ k := fun k e => (h.own.oM.lt k e).1
  refine ⟨(h.low.grown hg h.low.size (fun k e => by have := hrow k e; have := h.wb; omega)).setCell (p := ⟨p, 2, none⟩) h.wp _, h.wp, h.wb, ?_, (h.own.pushM hx hg ho).set Q1 _⟩
  simp only [List.length_append, List.length_cons, List.length_nil]
  exact Q1.set_ 2 _
end
set_option maxRecDepth 100000 in
set_option maxHeartbeats 8000000 in
theorem c13 (q0 : PrMem) (g : Nat) (hg8 : g ≤ 255) (w : World) (ht : VTab w) (hq : PrOk w w.heap.size q0) (hz : SizedP q0) : Calls Tryd.prog 13 #[q0.val, .int .u8 g] w fun e w' => e = .returned (.bool true) ∧ Below w.heap.size w w' := by
  have HT := Lib.hid ht
  have HZ := Lib.hid hz
  obtain ⟨i60, fi60, fz60, fz61, fz62⟩ := info_parts fn_info
  obtain ⟨i63, fi63, gz60, gz61, gz62⟩ := info_parts fm_info
  obtain ⟨i9, fi9, hz90, hz91, hz92⟩ := info_parts str_info
  obtain ⟨q, hqe⟩ : ∃ q, q = q0 := ⟨_, rfl⟩
  obtain ⟨AF, cF, L, AS, cS, S, AM, cM, M⟩ := q0
  have lF := hq.lF
  have lS := hq.lS
  have lM := hq.lM
  simp only [PrMem.val] at lF lS lM ⊢
  unfold maxLen at lF lS lM
  have P1 := Blk.new w 42 #[.slice AF L.length cF, .slice AS S.length cS, .slice AM M.length cM]
  have B1 := Lib.hid (below_new w (.cells #[.slice AF L.length cF, .slice AS S.length cS, .slice AM M.length cM] 42))
  have Q1 := Lib.hid (hq.next B1.out)
  clear hq ht hz
  go_enter Tryd.func13, Tryd.ntmps13
  go_wp2_with fail
  refine (c25 _ _ Q1.out).mono ?_
  rintro e w2 ⟨rfl, b2⟩
  have B2 := Lib.hid (next_ B1.out b2)
  have Q2 := Lib.hid (Q1.out.next b2)
  have P2 := P1.next b2
  clear b2 P1
  have n0 := P2.cell 0
  have n1 := P2.cell 1
  have n2 := P2.cell 2
  cases hbig : gLarge _
  case true =>
    clear hbig
    go_wp2_with fail
    refine (c36 w2 (HT.out.next B2.out)).mono ?_
    rintro e w3 ⟨rfl, b3⟩
    go_wp2_with fail
    go_ret
    exact ⟨by simp, next_ B2.out b3⟩
  case false =>
    have HS := Lib.hid (small_of hbig HZ.out)
    clear hbig
    by_cases l1 : 60 ≤ L.length
    · have f1 : decide ((60 : Int) ≤ (L.length : Int)) = true := decide_eq_true (by omega)
      clear l1
      go_wp2_with fail
      refine (c36 w2 (HT.out.next B2.out)).mono ?_
      rintro e w3 ⟨rfl, b3⟩
      go_wp2_with fail
      go_ret
      exact ⟨by simp, next_ B2.out b3⟩
    have f1 : decide ((60 : Int) ≤ (L.length : Int)) = false := decide_eq_false (by omega)
    by_cases l2 : 40 ≤ S.length
    · have f2 : decide ((40 : Int) ≤ (S.length : Int)) = true := decide_eq_true (by omega)
      clear l1 l2
      go_wp2_with fail
      refine (c36 w2 (HT.out.next B2.out)).mono ?_
      rintro e w3 ⟨rfl, b3⟩
      go_wp2_with fail
      go_ret
      exact ⟨by simp, next_ B2.out b3⟩
    have f2 : decide ((40 : Int) ≤ (S.length : Int)) = false := decide_eq_false (by omega)
    by_cases l3 : 40 ≤ M.length
    · have f3 : decide ((40 : Int) ≤ (M.length : Int)) = true := decide_eq_true (by omega)
      clear l1 l2 l3
      go_wp2_with fail
      refine (c36 w2 (HT.out.next B2.out)).mono ?_
      rintro e w3 ⟨rfl, b3⟩
      go_wp2_with fail
      go_ret
      exact ⟨by simp, next_ B2.out b3⟩
    have f3 : decide ((40 : Int) ≤ (M.length : Int)) = false := decide_eq_false (by omega)
    go_wp2_with fail
    have hc := c40 (PrMem.mk AF cF L AS cS S AM cM M) g w2 (HT.out.next B2.out) Q2.out
    generalize hpr : (PrMem.mk AF cF L AS cS S AM cM M).pr = p at hc
    have HP := Lib.hid hpr
    clear hpr
    simp only [PrMem.val] at hc
    refine hc.mono ?_
    clear hc
    rintro e w3 ⟨rfl, b3⟩
    have B3 := Lib.hid (next_ B2.out b3)
    have Q3 := Lib.hid (Q2.out.next b3)
    have P3 := P2.next b3
    clear b3 P2 n0 n1 n2 f1 f2 f3
    have n0 := P3.cell 0
    have n1 := P3.cell 1
    have n2 := P3.cell 2
    go_wp2_with fail
    have hc := c27 (PrMem.mk AF cF L AS cS S AM cM M) HS.out w3 Q3.out
    simp only [PrMem.val] at hc
    refine hc.mono ?_
    clear hc
    rintro e w4 ⟨q1, rfl, hp1, ho1, b4⟩
    rw [HP.out] at hp1
    have C1 := Lib.hid (show CopySt w3 (w4.alloc (.cells #[.slice q1.AF q1.L.length q1.cF, .slice q1.AS q1.S.length q1.cS, .slice q1.AM q1.M.length q1.cM] 42)) w3.heap.size w4.heap.size q1 from ⟨next_ b4 (below_new w4 _), b4.size, Nat.le_refl _, Blk.new w4 42 _, ho1.alloc _⟩)
    have HP1 := Lib.hid hp1
    have hw3 : w3.heap.size ≤ w4.heap.size := b4.size
    clear hp1 ho1 b4 n0 n1 n2
    -- WALK
    have o5 := own_new (w4.alloc (.cells #[.slice q1.AF q1.L.length q1.cF, .slice q1.AS q1.S.length q1.cS, .slice q1.AM q1.M.length q1.cM] 42)) (b := w3.heap.size) (n := 2) (cap := 2) (e := 23) (s := 3) (xs := fR.code.flatMap insCells) (by simp only [World.size_alloc, World.size_setCell]; omega) rfl (by unfold maxLen; omega) rfl
    rw [World.size_alloc] at o5
    have O6 := Lib.hid (o5.alloc (.cells #[.int .i64 1, .int .i64 0, .slice (some ⟨w4.heap.size + 1, 0, none⟩) 2 2] 60))
    have D6 := Lib.hid (C1.out.next (next_ (below_new (w4.alloc (.cells #[.slice q1.AF q1.L.length q1.cF, .slice q1.AS q1.S.length q1.cS, .slice q1.AM q1.M.length q1.cM] 42)) (.cells #[.int .i64 2, .int .i64 0, .int .i64 0, .int .i64 9, .int .i64 0, .int .i64 0] 23)) (below_new ((w4.alloc (.cells #[.slice q1.AF q1.L.length q1.cF, .slice q1.AS q1.S.length q1.cS, .slice q1.AM q1.M.length q1.cM] 42)).alloc (.cells #[.int .i64 2, .int .i64 0, .int .i64 0, .int .i64 9, .int .i64 0, .int .i64 0] 23)) (.cells #[.int .i64 1, .int .i64 0, .slice (some ⟨w4.heap.size + 1, 0, none⟩) 2 2] 60))))
    have n6 := Blk.new ((w4.alloc (.cells #[.slice q1.AF q1.L.length q1.cF, .slice q1.AS q1.S.length q1.cS, .slice q1.AM q1.M.length q1.cM] 42)).alloc (.cells #[.int .i64 2, .int .i64 0, .int .i64 0, .int .i64 9, .int .i64 0, .int .i64 0] 23)) 60 #[.int .i64 1, .int .i64 0, .slice (some ⟨w4.heap.size + 1, 0, none⟩) 2 2]
    rw [World.size_alloc, World.size_alloc] at n6
    have N6 := Lib.hid n6
    have HL1 := Lib.hid (show q1.L.length = L.length by
      have h := congrArg (fun p : Pr => p.funcs.length) (HP1.out.trans HP.out.symm)
      simpa [PrMem.pr] using h)
    have hS1 : q1.S.length = S.length := by
      have h := congrArg (fun p : Pr => p.strs.length) (HP1.out.trans HP.out.symm)
      simpa [PrMem.pr] using h
    have hM1 : q1.M.length = M.length := by
      have h := congrArg (fun p : Pr => p.forms.length) (HP1.out.trans HP.out.symm)
      simpa [PrMem.pr] using h
    have k1 : q1.L.length < 60 := by rw [HL1.out]; omega
    have k2 : q1.S.length < 40 := by rw [hS1]; omega
    have k3 : q1.M.length < 40 := by rw [hM1]; omega
    clear hS1 hM1 n6 o5
    have y0 := C1.out.Q.cell 0
    go_wp2_with (first
      | (at_builtin; refine wpList_append_any _ rfl (.tmp 36) (.tmp 41) 38 rfl w3.heap.size 60 i60 _ 3 40 Tryd.underlying38 fi60 fz60 fz61 fz62 rfl (by omega) (.slice q1.AF q1.L.length q1.cF) q1.L.length (q1.L.flatMap Fnv.cells) rfl D6.out.own.oF (w4.heap.size + 3) (some ⟨w4.heap.size + 2, 0, none⟩) 1 1 [.int .i64 1, .int .i64 0, .slice (some ⟨w4.heap.size + 1, 0, none⟩) 2 2] rfl (reads_row3 N6.out) (by simp [Value.oneCell']) (by unfold maxLen; omega) (by omega) (by simp only [World.size_alloc, World.size_setCell]; omega) ?_
         intro v7 w7 hown7 hg7 _
         obtain ⟨a7, c7, rfl⟩ := own_form hown7
         have Q7 := blk_row D6.out.Q D6.out.own.oF hg7 (by decide)
         have D7 := Lib.hid (D6.out.pushF (x := ⟨fR, some ⟨w4.heap.size + 1, 0, none⟩, 2⟩) O6.out hg7 hown7)
         have s7 := Q7.cell 0
         have z7 := Q7.frozen 0
         have s7b := Q7.cell 1
         have r7 := D7.out.low.size
         rw [World.size_setCell] at r7
         have D8 := Lib.hid (D7.out.next (below_new (w7.setCell ⟨w4.heap.size, 0, none⟩ (.slice a7 (q1.L.length + 1) c7)) (.cells #[strV sM] 9)))
         have n8 := Blk.new (w7.setCell ⟨w4.heap.size, 0, none⟩ (.slice a7 (q1.L.length + 1) c7)) 9 #[strV sM]
         rw [World.size_setCell] at n8
         have N8 := Lib.hid n8
         clear hown7 hg7 n8 y0 Q7)
      | (at_builtin; refine wpList_append_any _ rfl (.tmp 45) (.tmp 46) 39 rfl w3.heap.size 9 i9 _ 1 16 Tryd.underlying39 fi9 hz90 hz91 hz92 rfl (by omega) (.slice q1.AS q1.S.length q1.cS) q1.S.length (q1.S.map strV) rfl D8.out.own.oS (w7.heap.size + 1) (some ⟨w7.heap.size, 0, none⟩) 1 1 [strV sM] rfl (reads_blkN (vs := [strV sM]) N8.out rfl) (by simp [Value.oneCell', strV]) (by unfold maxLen; omega) (by omega) (by simp only [World.size_alloc, World.size_setCell]; omega) ?_
         intro v9 w9 hown9 hg9 _
         obtain ⟨a9, c9, rfl⟩ := own_form hown9
         have Q9 := blk_row D8.out.Q D8.out.own.oS hg9 (by decide)
         have D9 := Lib.hid (D8.out.pushS (x := sM) hg9 hown9)
         have s9 := Q9.cell 1
         have z9 := Q9.frozen 1
         have s9b := Q9.cell 2
         have r9 := D9.out.low.size
         rw [World.size_setCell] at r9
         have D10 := Lib.hid (D9.out.next (below_new (w9.setCell ⟨w4.heap.size, 1, none⟩ (.slice a9 (q1.S.length + 1) c9)) (.cells #[.int .i64 1, .int .i64 0, .int .i64 0, .slice none 0 0] 63)))
         have n10 := Blk.new (w9.setCell ⟨w4.heap.size, 1, none⟩ (.slice a9 (q1.S.length + 1) c9)) 63 #[.int .i64 1, .int .i64 0, .int .i64 0, .slice none 0 0]
         rw [World.size_setCell] at n10
         have N10 := Lib.hid n10
         clear hown9 hg9 n10 Q9)
      | (at_builtin; refine wpList_append_any _ rfl (.tmp 50) (.tmp 52) 40 rfl w3.heap.size 63 i63 _ 4 48 Tryd.underlying40 fi63 gz60 gz61 gz62 rfl (by omega) (.slice q1.AM q1.M.length q1.cM) q1.M.length (q1.M.flatMap Fmv.cells) rfl D10.out.own.oM (w9.heap.size + 1) (some ⟨w9.heap.size, 0, none⟩) 1 1 [.int .i64 1, .int .i64 0, .int .i64 0, .slice none 0 0] rfl (reads_row4 N10.out) (by simp [Value.oneCell']) (by unfold maxLen; omega) (by omega) (by simp only [World.size_alloc, World.size_setCell]; omega) ?_
         intro v11 w11 hown11 hg11 _
         obtain ⟨a11, c11, rfl⟩ := own_form hown11
         have Q11 := blk_row D10.out.Q D10.out.own.oM hg11 (by decide)
         have D11 := Lib.hid (D10.out.pushM (x := ⟨mM, none, 0⟩) ⟨rfl, .inl ⟨rfl, rfl⟩⟩ hg11 hown11)
         have s11 := Q11.cell 2
         have z11 := Q11.frozen 2
         have P11 := Lib.hid (P3.next D11.out.low)
         clear hown11 hg11 Q11)
      | (refine wpList_load_at rfl 42 (.tmp 2) rfl ⟨w.heap.size, 0, none⟩ rfl [.slice AF L.length cF, .slice AS S.length cS, .slice AM M.length cM] _ (row3_cells P11.out) Tryd.underlying42 rfl (by kernel_rfl) ?_))
    generalize hwA : (w11.setCell ⟨w4.heap.size, 2, none⟩ (.slice a11 (q1.M.length + 1) c11)) = wA at D11 P11
    clear hwA s7 z7 s7b s9 z9 s9b s11 z11 D10 N10 D9 D8 N8 D7 O6 D6 N6 C1 r7 r9
    obtain ⟨qm, hqm⟩ : ∃ qm : PrMem, qm = ⟨a7, c7, q1.L ++ [⟨fR, some ⟨w4.heap.size + 1, 0, none⟩, 2⟩], a9, c9, q1.S ++ [sM], a11, c11, q1.M ++ [⟨mM, none, 0⟩]⟩ := ⟨_, rfl⟩
    have CM := Lib.hid (show CopySt w3 wA w3.heap.size w4.heap.size qm by rw [hqm]; exact D11.out)
    have HSQ := Lib.hid (HS.out.of_pr (HP1.out.trans HP.out.symm))
    have HPM := Lib.hid (show qm.pr = moreR p by
      have h := HP1.out
      rw [hqm, ← h]
      simp [PrMem.pr, moreR])
    have HSM := Lib.hid (show SmallP qm by
      rw [hqm]
      refine ⟨by simp; omega, by simp; omega, by simp; omega, fun x hx => ?_, fun x hx => ?_⟩
      · rcases List.mem_append.1 hx with hx | hx
        · exact HSQ.out.f x hx
        · rw [List.mem_singleton.1 hx]; show 2 ≤ 3000; decide
      · rcases List.mem_append.1 hx with hx | hx
        · exact HSQ.out.m x hx
        · rw [List.mem_singleton.1 hx]; show 0 ≤ 3000; decide)
    clear D11 hqm HSQ
    have hc := c27 (PrMem.mk AF cF L AS cS S AM cM M) HS.out wA (Q3.out.next CM.out.low)
    simp only [PrMem.val] at hc
    refine hc.mono ?_
    clear hc
    rintro e w12 ⟨q2, rfl, hp2, ho2, b12⟩
    rw [HP.out] at hp2
    have C2 := Lib.hid (show CopySt wA (w12.alloc (.cells #[.slice q2.AF q2.L.length q2.cF, .slice q2.AS q2.S.length q2.cS, .slice q2.AM q2.M.length q2.cM] 42)) wA.heap.size w12.heap.size q2 from ⟨next_ b12 (below_new w12 _), b12.size, Nat.le_refl _, Blk.new w12 42 _, ho2.alloc _⟩)
    have HP2 := Lib.hid hp2
    have hw12 : wA.heap.size ≤ w12.heap.size := b12.size
    clear hp2 ho2 b12
    have o13 := own_new (w12.alloc (.cells #[.slice q2.AF q2.L.length q2.cF, .slice q2.AS q2.S.length q2.cS, .slice q2.AM q2.M.length q2.cM] 42)) (b := wA.heap.size) (n := 1) (cap := 1) (e := 23) (s := 3) (xs := fO.code.flatMap insCells) (by simp only [World.size_alloc, World.size_setCell]; omega) rfl (by unfold maxLen; omega) rfl
    rw [World.size_alloc] at o13
    have O14 := Lib.hid (o13.alloc (.cells #[.int .i64 1, .int .i64 0, .slice (some ⟨w12.heap.size + 1, 0, none⟩) 1 1] 60))
    have D14 := Lib.hid (C2.out.next (next_ (below_new (w12.alloc (.cells #[.slice q2.AF q2.L.length q2.cF, .slice q2.AS q2.S.length q2.cS, .slice q2.AM q2.M.length q2.cM] 42)) (.cells #[.int .i64 2, .int .i64 0, .int .i64 0] 23)) (below_new ((w12.alloc (.cells #[.slice q2.AF q2.L.length q2.cF, .slice q2.AS q2.S.length q2.cS, .slice q2.AM q2.M.length q2.cM] 42)).alloc (.cells #[.int .i64 2, .int .i64 0, .int .i64 0] 23)) (.cells #[.int .i64 1, .int .i64 0, .slice (some ⟨w12.heap.size + 1, 0, none⟩) 1 1] 60))))
    have n14 := Blk.new ((w12.alloc (.cells #[.slice q2.AF q2.L.length q2.cF, .slice q2.AS q2.S.length q2.cS, .slice q2.AM q2.M.length q2.cM] 42)).alloc (.cells #[.int .i64 2, .int .i64 0, .int .i64 0] 23)) 60 #[.int .i64 1, .int .i64 0, .slice (some ⟨w12.heap.size + 1, 0, none⟩) 1 1]
    rw [World.size_alloc, World.size_alloc] at n14
    have N14 := Lib.hid n14
    have k4 : q2.L.length < 60 := by
      have h := congrArg (fun p : Pr => p.funcs.length) (HP2.out.trans HP.out.symm)
      have h2 : q2.L.length = L.length := by simpa [PrMem.pr] using h
      omega
    clear n14 o13
    have y2 := C2.out.Q.cell 0
    go_wp2_with (first
      | (at_builtin; refine wpList_append_any _ rfl (.tmp 58) (.tmp 62) 38 rfl wA.heap.size 60 i60 _ 3 40 Tryd.underlying38 fi60 fz60 fz61 fz62 rfl (by omega) (.slice q2.AF q2.L.length q2.cF) q2.L.length (q2.L.flatMap Fnv.cells) rfl D14.out.own.oF (w12.heap.size + 3) (some ⟨w12.heap.size + 2, 0, none⟩) 1 1 [.int .i64 1, .int .i64 0, .slice (some ⟨w12.heap.size + 1, 0, none⟩) 1 1] rfl (reads_row3 N14.out) (by simp [Value.oneCell']) (by unfold maxLen; omega) (by omega) (by simp only [World.size_alloc, World.size_setCell]; omega) ?_
         intro v15 w15 hown15 hg15 _
         obtain ⟨a15, c15, rfl⟩ := own_form hown15
         have Q15 := blk_row D14.out.Q D14.out.own.oF hg15 (by decide)
         have D15 := Lib.hid (D14.out.pushF (x := ⟨fO, some ⟨w12.heap.size + 1, 0, none⟩, 1⟩) O14.out hg15 hown15)
         have s15 := Q15.cell 0
         have z15 := Q15.frozen 0
         have x15 := D15.out.Q
         simp only [List.length_append, List.length_cons, List.length_nil] at x15
         have X15 := Lib.hid x15
         clear hown15 hg15 y2 Q15 x15)
      | (refine wpList_load_at rfl 42 (.tmp 7) rfl ⟨w12.heap.size, 0, none⟩ rfl [.slice a15 (q2.L.length + 1) c15, .slice q2.AS q2.S.length q2.cS, .slice q2.AM q2.M.length q2.cM] _ (row3_cells X15.out) Tryd.underlying42 rfl (by kernel_rfl) ?_))
    generalize hwB : (w15.setCell ⟨w12.heap.size, 0, none⟩ (.slice a15 (q2.L.length + 1) c15)) = wB at D15 X15
    obtain ⟨qo, hqo⟩ : ∃ qo : PrMem, qo = ⟨a15, c15, q2.L ++ [⟨fO, some ⟨w12.heap.size + 1, 0, none⟩, 1⟩], q2.AS, q2.cS, q2.S, q2.AM, q2.cM, q2.M⟩ := ⟨_, rfl⟩
    have HSQ := Lib.hid (HS.out.of_pr (HP2.out.trans HP.out.symm))
    have hpo : qo.pr = moreO p := by
      have h := HP2.out
      rw [hqo, ← h]
      simp [PrMem.pr, moreO]
    have hso : SmallP qo := by
      rw [hqo]
      refine ⟨by simp; omega, HSQ.out.S, HSQ.out.M, fun x hx => ?_, fun x hx => HSQ.out.m x hx⟩
      rcases List.mem_append.1 hx with hx | hx
      · exact HSQ.out.f x hx
      · rw [List.mem_singleton.1 hx]; show 1 ≤ 3000; decide
    have BB := Lib.hid (next_ B3.out (next_ CM.out.low D15.out.low))
    have DO : CopySt wA wB wA.heap.size w12.heap.size qo := by rw [hqo]; exact D15.out
    have hc := c40 qo 15 wB (HT.out.next BB.out) (DO.ok hso)
    rw [hpo, check_o, hqo] at hc
    simp only [PrMem.val, List.length_append, List.length_cons, List.length_nil] at hc
    refine hc.mono ?_
    clear hc
    rintro e w16 ⟨rfl, b16⟩
    have hbA := next_ D15.out.low b16
    have B16 := Lib.hid (next_ BB.out b16)
    have QM := Lib.hid (CM.out.next hbA)
    have P16 := Lib.hid (P11.out.next hbA)
    have Q16 := Lib.hid ((Q3.out.next CM.out.low).next hbA)
    clear hbA b16 DO hso hpo HSQ hqo X15 D15 s15 z15 D14 N14 O14 C2 hwB
    rcases check_cases p g with h0 | h0 | h0
    · have HM0 := Lib.hid (show gCheck qm.pr g = 0 by rw [HPM.out]; exact check_more h0 (by rw [← HP.out]; show (L.map (·.fn)).length < 60; simp; omega) (by rw [← HP.out]; show S.length < 40; omega) (by rw [← HP.out]; show (M.map (·.fm)).length < 40; simp; omega))
      have H15 := Lib.hid (check_15 h0)
      have HDEN : bits .andNot .i64 (gCalls p) (g : Int) = 0 := (check_ok h0).2
      rw [h0]
      clear h0
      go_wp2_with (refine wpList_load_at rfl 42 (.tmp 6) rfl ⟨w4.heap.size, 0, none⟩ rfl [.slice qm.AF qm.L.length qm.cF, .slice qm.AS qm.S.length qm.cS, .slice qm.AM qm.M.length qm.cM] _ (row3_cells QM.out.Q) Tryd.underlying42 rfl (by kernel_rfl) ?_)
      have hc := c40 qm g w16 (HT.out.next B16.out) (QM.out.ok HSM.out)
      rw [HM0.out] at hc
      simp only [PrMem.val] at hc
      refine hc.mono ?_
      clear hc
      rintro e w17 ⟨rfl, b17⟩
      have B17 := Lib.hid (next_ B16.out b17)
      have P17 := Lib.hid (P16.out.next b17)
      have Q17 := Lib.hid (Q16.out.next b17)
      clear b17
      have g0 := P17.out.cell 0
      have g1 := P17.out.cell 1
      have g2 := P17.out.cell 2
      go_wp2_with fail
      clear g0 g1 g2
      have hc := c40 (PrMem.mk AF cF L AS cS S AM cM M) (bits .or .i64 15 g) w17 (HT.out.next B17.out) Q17.out
      rw [HP.out, H15.out] at hc
      simp only [PrMem.val] at hc
      refine hc.mono ?_
      clear hc
      rintro e w18 ⟨rfl, b18⟩
      have B18 := Lib.hid (next_ B17.out b18)
      have P18 := Lib.hid (P17.out.next b18)
      have Q18 := Lib.hid (Q17.out.next b18)
      clear b18
      have g0 := P18.out.cell 0
      have g1 := P18.out.cell 1
      have g2 := P18.out.cell 2
      go_wp2_with fail
      clear g0 g1 g2
      have hc := c43 (PrMem.mk AF cF L AS cS S AM cM M) w18 (HT.out.next B18.out).op Q18.out
      rw [HP.out] at hc
      simp only [PrMem.val] at hc
      refine hc.mono ?_
      clear hc
      rintro e w19 ⟨rfl, b19⟩
      have B19 := Lib.hid (next_ B18.out b19)
      clear b19
      go_wp2_with fail
      refine (c36 w19 (HT.out.next B19.out)).mono ?_
      rintro e w20 ⟨rfl, b20⟩
      go_wp2_with fail
      go_ret
      exact ⟨by simp, next_ B19.out b20⟩
    · rw [h0]
      clear h0
      go_wp2_with fail
      refine (c36 w16 (HT.out.next B16.out)).mono ?_
      rintro e w20 ⟨rfl, b20⟩
      go_wp2_with fail
      go_ret
      exact ⟨by simp, next_ B16.out b20⟩
    · rw [h0]
      clear h0
      go_wp2_with fail
      refine (c36 w16 (HT.out.next B16.out)).mono ?_
      rintro e w20 ⟨rfl, b20⟩
      go_wp2_with fail
      go_ret
      exact ⟨by simp, next_ B16.out b20⟩
end Go.Proofs.YtiphicejaljhiaaDoor
