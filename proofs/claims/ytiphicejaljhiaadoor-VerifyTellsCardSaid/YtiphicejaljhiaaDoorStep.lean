/- verify.step: following an instruction that has a state. -/
import Derived.Test.YtiphicejaljhiaaDoorVerSt
import Derived.Test.YtiphicejaljhiaaDoorRLast
import Derived.StillTailTactics
import Derived.Deep.QuietTactic
import Derived.BigQuiet
import Derived.Deep.RegionHeld3
namespace Go.Proofs.YtiphicejaljhiaaDoor
open Go.ChangeShapes Go.WideShapes Go.ChangeAt Go.RowKit
theorem nxt_info : (Tryd.prog.info? 128).map (fun i => (i.zero, i.size, i.bytes)) = some (some (.agg #[.int .i64 0, .int .i64 0, .int .i64 0]), 3, 24) := by kernel_rfl
theorem c15y {o a b : Int} (hg : insGood ⟨o, a, b⟩ = true) (w : World) (ht : OpTab w) : Calls Tryd.prog 15 #[.agg #[.int .i64 o, .int .i64 a, .int .i64 b]] w fun e w' =>
    e = .returned (.tuple #[.int .i64 (gTakes o a b), .int .i64 (gLeaves o), .bool true]) ∧ Below w.heap.size w w' := by
  have h := c15 o a b w ht
  rw [show gGood o a b = true from hg] at h
  exact h
set_option maxRecDepth 100000 in
set_option maxHeartbeats 4000000 in
theorem c72 (g k : Nat) (q : PrMem) (x : Fnv) (lv dv : Value) (L : List Sta) (D : List Nxt) (i : Ins) (s : Sta) (w W : World) (hv : VerSt w W g q x lv dv L D) (ht : OpTab W) (hr : Reads W g 3 x.ad x.fn.code.length (x.fn.code.flatMap insCells))
    (hi : x.fn.code[k]? = some i) (hs : L[k]? = some s) (hgood : insGood i = true) (hs0 : 0 ≤ s.1 ∧ s.1 ≤ 100 ∧ 0 ≤ s.2 ∧ s.2 ≤ 10) (hlen : x.fn.code.length ≤ 600) (hln : L.length ≤ 600) (hD : D.length ≤ 100000) :
    Calls Tryd.prog 72 #[.pointer (some ⟨g, 0, none⟩), .int .i64 k] W fun e W' => e = .returned (.bool (vOk i s)) ∧ ∃ dv' D', VerSt w W' g q x lv dv' L D' ∧ (vOk i s = true → D' = D ++ vNews i k s) := by
  have HV := Lib.hid hv
  obtain ⟨ti, hi0, hz0, hz1, hz2⟩ := info_parts nxt_info
  have HT := Lib.hid ht
  have hk : k < x.fn.code.length := (List.getElem?_eq_some_iff.1 hi).1
  have hkl : k < L.length := (List.getElem?_eq_some_iff.1 hs).1
  obtain ⟨ad, e, adb, hcs⟩ := Reads.rowAt (f := insCells) (m := 3) (fun _ => rfl) hr (by decide) hi
  have hfl := hv.hl.form
  obtain ⟨lA, lc, rfl⟩ := own_form hv.hl
  obtain ⟨al, e', alb, hls⟩ := Reads.rowAt (f := stCells) (m := 2) (fun _ => rfl) (Reads.of_own hv.hl) (by decide) hs
  subst e'
  have hgl := hv.chk.lt
  have P := hv.chk
  clear hv ht hfl
  obtain ⟨o, a, b⟩ := i
  obtain ⟨h, t⟩ := s
  obtain ⟨⟨lo, fr, cd⟩, xa, xc⟩ := x
  simp only at hk hkl e hlen hln hs0 hr hi
  subst e
  obtain ⟨dA, dc, rfl⟩ := HV.out.hd.form
  unfold chkCells at P
  simp only at P
  have n5 := P.cell 5
  have n6 := P.cell 6
  have n7 := P.cell 7
  have nf7 := P.frozen 7
  simp at n5 n6 n7
  have a0 := hcs 0 _ rfl
  have a1 : W.cell? ⟨(ad.add (k * 3)).block, (ad.add (k * 3)).off + 1, none⟩ = _ := hcs 1 _ rfl
  have a2 : W.cell? ⟨(ad.add (k * 3)).block, (ad.add (k * 3)).off + 2, none⟩ = _ := hcs 2 _ rfl
  have b0 := hls 0 _ rfl
  have b1 : W.cell? ⟨(al.add (k * 2)).block, (al.add (k * 2)).off + 1, none⟩ = _ := hls 1 _ rfl
  have hz : ∀ a : Addr, a.add 0 = a := fun _ => rfl
  rw [hz] at a0 b0
  simp only at a0 a1 a2 b0 b1
  clear hcs hls hz
  have hl1 : (k : Int) < (cd.length : Int) := by omega
  have hl2 : (k : Int) < (L.length : Int) := by omega
  have hk0 : (0 : Int) ≤ (k : Int) := by omega
  have KS := Lib.hid (show ∀ V, Below W.heap.size W V → (Below W.heap.size W V ∧ V.cell? ⟨g, 5, none⟩ = some (.slice (some ad) cd.length xc) ∧ V.cell? ⟨g, 6, none⟩ = some (.slice (some al) L.length lc) ∧ V.cell? (ad.add (k * 3)) = some (.int .i64 o) ∧ V.cell? ⟨(ad.add (k * 3)).block, (ad.add (k * 3)).off + 1, none⟩ = some (.int .i64 a) ∧ V.cell? ⟨(ad.add (k * 3)).block, (ad.add (k * 3)).off + 2, none⟩ = some (.int .i64 b) ∧ V.cell? (al.add (k * 2)) = some (.int .i64 h) ∧ V.cell? ⟨(al.add (k * 2)).block, (al.add (k * 2)).off + 1, none⟩ = some (.int .i64 t)) from fun V hb =>
    have h1 : (ad.add (k * 3)).block < W.heap.size := by rw [block_of_add]; omega
    have h2 : (al.add (k * 2)).block < W.heap.size := by rw [block_of_add]; omega
    ⟨hb, (hb.cell (p := ⟨g, 5, none⟩) hgl).trans n5, (hb.cell (p := ⟨g, 6, none⟩) hgl).trans n6, (hb.cell h1).trans a0, (hb.cell (p := ⟨(ad.add (k * 3)).block, _, none⟩) h1).trans a1, (hb.cell (p := ⟨(ad.add (k * 3)).block, _, none⟩) h1).trans a2, (hb.cell h2).trans b0, (hb.cell (p := ⟨(al.add (k * 2)).block, _, none⟩) h2).trans b1⟩)
  have S0 := KS.out W.drew (Below.refl _ _).drew
  clear a0 a1 a2 b0 b1 n7 nf7
  have htk := takes_nonneg hgood
  have hlv := leaves_nonneg hgood
  have HOK := Lib.hid (show vOk ⟨o, a, b⟩ (h, t) = !(decide (h < gTakes o a b) || !vExit o (h, t)) from rfl)
  have HNW := Lib.hid (show vNews ⟨o, a, b⟩ k (h, t) = (if o = 33 then [(a, (h + 1, t))] else if o = 10 ∨ o = 11 then [(a, (h - gTakes o a b + gLeaves o, t))] else []) ++ (if gEnds o then [] else [((k : Int) + 1, if o = 33 then (h - gTakes o a b + gLeaves o, t + 1) else if o = 34 then (h - gTakes o a b + gLeaves o, t - 1) else (h - gTakes o a b + gLeaves o, t))]) from rfl)
  simp only at htk hlv
  generalize htke : gTakes o a b = tk at htk HOK HNW
  generalize hlve : gLeaves o = lv at hlv HNW
  have TK := Lib.hid htke
  have LV := Lib.hid hlve
  clear htke hlve
  go_enter Tryd.func72, Tryd.ntmps72
  go_wp2_with fail
  go_region_held3 (fun V => Below W.heap.size W V ∧ V.cell? ⟨g, 5, none⟩ = some (.slice (some ad) cd.length xc) ∧ V.cell? ⟨g, 6, none⟩ = some (.slice (some al) L.length lc) ∧ V.cell? (ad.add (k * 3)) = some (.int .i64 o) ∧ V.cell? ⟨(ad.add (k * 3)).block, (ad.add (k * 3)).off + 1, none⟩ = some (.int .i64 a) ∧ V.cell? ⟨(ad.add (k * 3)).block, (ad.add (k * 3)).off + 2, none⟩ = some (.int .i64 b) ∧ V.cell? (al.add (k * 2)) = some (.int .i64 h) ∧ V.cell? ⟨(al.add (k * 2)).block, (al.add (k * 2)).off + 1, none⟩ = some (.int .i64 t))
    (first | assumption | exact S0 | (refine KS.out _ ?_; repeat (first | exact Below.refl _ _ | refine Below.drew ?_ | refine Below.alloc ?_ (by simp) _ | refine Below.setCell ?_ (by simp) _)))
    (fail)
  all_goals clear S0 KS
  · go_wp2_with fail
    have B1 := Lib.hid (show Below W.heap.size W _ from (next_ (below_new W (.cells #[.int .i64 o, .int .i64 a, .int .i64 b] 23)) (below_new _ (.cells #[.int .i64 h, .int .i64 t] 122))).drew)
    have I1 := ((Blk.new W 23 #[.int .i64 o, .int .i64 a, .int .i64 b]).alloc (.cells #[.int .i64 h, .int .i64 t] 122)).drew
    have S1 := (show Blk _ (W.heap.size + 1) 122 #[.int .i64 h, .int .i64 t] from (World.size_alloc W (.cells #[.int .i64 o, .int .i64 a, .int .i64 b] 23) ▸ Blk.new (W.alloc (.cells #[.int .i64 o, .int .i64 a, .int .i64 b] 23)) 122 #[.int .i64 h, .int .i64 t])).drew
    refine (c15y hgood _ (HT.out.next B1.out)).mono ?_
    rintro e w5 ⟨rfl, b5⟩
    have B5 := Lib.hid (next_ B1.out b5)
    have V5 := Lib.hid (HV.out.next B5.out)
    have I5 := I1.next b5
    have S5 := S1.next b5
    clear b5 I1 S1
    rw [TK.out, LV.out]
    have i0 := I5.cell 0
    have i1 := I5.cell 1
    have i2 := I5.cell 2
    have s0 := S5.cell 0
    have s1 := S5.cell 1
    by_cases hlt : h < tk
    · have fl : decide (h < tk) = true := decide_eq_true hlt
      have HX := Lib.hid (show vOk ⟨o, a, b⟩ (h, t) = false by rw [HOK.out, fl]; rfl)
      clear hlt
      go_wp2_with fail
      go_ret
      exact ⟨by rw [HX.out]; simp, _, D, V5.out, fun hh => absurd (HX.out.symm.trans hh) (by decide)⟩
    have fl : decide (h < tk) = false := decide_eq_false hlt
    have hge : tk ≤ h := by omega
    clear hlt
    go_wp2_with fail
    refine (c73 ⟨o, a, b⟩ (h, t) w5).mono ?_
    rintro e w6 ⟨rfl, b6⟩
    simp only
    have V6 := Lib.hid (V5.out.next b6)
    have I6 := I5.next b6
    have S6 := S5.next b6
    clear b6 i0 i1 i2 s0 s1
    cases hx : vExit o (h, t)
    · have HX := Lib.hid (show vOk ⟨o, a, b⟩ (h, t) = false by rw [HOK.out, fl, hx]; rfl)
      clear hx
      go_wp2_with fail
      go_ret
      exact ⟨by rw [HX.out]; simp, _, D, V6.out, fun hh => absurd (HX.out.symm.trans hh) (by decide)⟩
    have HX := Lib.hid (show vOk ⟨o, a, b⟩ (h, t) = true by rw [HOK.out, fl, hx]; rfl)
    clear hx
    have V7 := Lib.hid (V6.out.alloc (.cells #[.int .i64 (h - tk + lv), .int .i64 t] 122))
    have I7 := I6.alloc (.cells #[.int .i64 (h - tk + lv), .int .i64 t] 122)
    have S7 := S6.alloc (.cells #[.int .i64 (h - tk + lv), .int .i64 t] 122)
    have N7 := Blk.new w6 122 #[.int .i64 (h - tk + lv), .int .i64 t]
    have rl : ∀ j, (Value.slice (some al) L.length lc).ownBlock = some j → j < w6.heap.size := fun j e => (V6.out.hl.lt j e).2
    have hz7 := V6.out.chk.lt
    have i0 := I7.cell 0
    have i1 := I7.cell 1
    have i2 := I7.cell 2
    have n0 := N7.cell 0
    have n1 := N7.cell 1
    have s0 := S7.cell 0
    have s1 := S7.cell 1
    have t0 := S6.cell 0
    have t1 := S6.cell 1
    have W1 : IntKind.i64.wrap (h - tk) = h - tk := IntWalk.i64_in _ (by omega)
    have W2 : IntKind.i64.wrap (h - tk + lv) = h - tk + lv := IntWalk.i64_in _ (by omega)
    have W3 : IntKind.i64.wrap (h + 1) = h + 1 := IntWalk.i64_in _ (by omega)
    have W4 : IntKind.i64.wrap ((k : Int) + 1) = (k : Int) + 1 := IntWalk.i64_in _ (by omega)
    by_cases h33 : o = 33
    · subst h33
      go_wp2_with fail
      generalize w6.alloc (.cells #[.int .i64 (h - tk + lv), .int .i64 t] 122) = w7 at V7 I7 S7 N7 i0 i1 i2 n0 n1 s0 s1 ⊢
      have Ea := (V7.out.alloc (.cells #[.int .i64 a, .int .i64 (h + 1), .int .i64 t] 128)).drew
      have A1a : (w7.drew).cell? ⟨g, 7, none⟩ = some (.slice dA D.length dc) ∧ (w7.drew).cell? ⟨W.heap.size, 1, none⟩ = some (.int .i64 a) ∧ (w7.drew).cell? ⟨W.heap.size + 1, 0, none⟩ = some (.int .i64 h) ∧ (w7.drew).cell? ⟨W.heap.size + 1, 1, none⟩ = some (.int .i64 t) := ⟨V7.out.c7, I7.cell 1, S7.cell 0, S7.cell 1⟩
      have A2a : (w7.alloc (.cells #[.int .i64 a, .int .i64 (h + 1), .int .i64 t] 128)).drew.cell? ⟨g, 7, none⟩ = some (.slice dA D.length dc) ∧ (w7.alloc (.cells #[.int .i64 a, .int .i64 (h + 1), .int .i64 t] 128)).drew.cell? ⟨W.heap.size, 1, none⟩ = some (.int .i64 a) ∧ (w7.alloc (.cells #[.int .i64 a, .int .i64 (h + 1), .int .i64 t] 128)).drew.cell? ⟨W.heap.size + 1, 0, none⟩ = some (.int .i64 h) ∧ (w7.alloc (.cells #[.int .i64 a, .int .i64 (h + 1), .int .i64 t] 128)).drew.cell? ⟨W.heap.size + 1, 1, none⟩ = some (.int .i64 t) := ⟨Ea.c7, (((I7).alloc (.cells #[.int .i64 a, .int .i64 (h + 1), .int .i64 t] 128)).drew).cell 1, (((S7).alloc (.cells #[.int .i64 a, .int .i64 (h + 1), .int .i64 t] 128)).drew).cell 0, (((S7).alloc (.cells #[.int .i64 a, .int .i64 (h + 1), .int .i64 t] 128)).drew).cell 1⟩
      have hva := V7.out.chk.lt
      refine wp_region_last (S := fun X => X.cell? ⟨g, 7, none⟩ = some (.slice dA D.length dc) ∧ X.cell? ⟨W.heap.size, 1, none⟩ = some (.int .i64 a) ∧ X.cell? ⟨W.heap.size + 1, 0, none⟩ = some (.int .i64 h) ∧ X.cell? ⟨W.heap.size + 1, 1, none⟩ = some (.int .i64 t)) 18 (by kernel_rfl) (by kernel_rfl) (by kernel_rfl) (by kernel_rfl) A1a (fun hHeld => ?_)
      refine wpAnyH_take (i := 0) (oi := ⟨some 55, _, _, _, _, _⟩) (v := ?_) rfl (by kernel_rfl) (by kernel_rfl) (by kernel_rfl) (fun _ _ _ h => h) (Or.inl ⟨by kernel_rfl, ?_⟩) (by assumption) ?_
      rotate_left
      · intro w hSw
        go_simp
        try with_reducible rfl
      try simp only [Act.put, List.setIfInBounds_toArray, List.set_cons_zero, List.set_cons_succ]
      refine wpAnyH_take (i := 1) (oi := ⟨some 56, _, _, _, _, _⟩) (v := ?_) rfl (by kernel_rfl) (by kernel_rfl) (by kernel_rfl) (fun _ _ _ h => h) (Or.inl ⟨by kernel_rfl, ?_⟩) (by assumption) ?_
      rotate_left
      · intro w hSw
        go_simp
        try with_reducible rfl
      try simp only [Act.put, List.setIfInBounds_toArray, List.set_cons_zero, List.set_cons_succ]
      refine wpAnyH_take (i := 2) (oi := ⟨some 57, _, _, _, _, _⟩) (v := ?_) rfl (by kernel_rfl) (by kernel_rfl) (by kernel_rfl) (fun _ _ _ h => h) (Or.inl ⟨by kernel_rfl, ?_⟩) (by assumption) ?_
      rotate_left
      · intro w hSw
        go_simp
        try with_reducible rfl
      try simp only [Act.put, List.setIfInBounds_toArray, List.set_cons_zero, List.set_cons_succ]
      refine wpAnyH_take (i := 3) (oi := ⟨some 58, _, _, _, _, _⟩) (v := ?_) rfl (by kernel_rfl) (by kernel_rfl) (by kernel_rfl) (fun _ _ _ h => h) (Or.inl ⟨by kernel_rfl, ?_⟩) (by assumption) ?_
      rotate_left
      · intro w hSw
        go_simp
        try with_reducible rfl
      try simp only [Act.put, List.setIfInBounds_toArray, List.set_cons_zero, List.set_cons_succ]
      refine wpAnyH_take (i := 4) (oi := ⟨some 59, _, _, _, _, _⟩) (v := ?_) rfl (by kernel_rfl) (by kernel_rfl) (by kernel_rfl) (fun _ _ _ h => h) (Or.inl ⟨by kernel_rfl, ?_⟩) (by assumption) ?_
      rotate_left
      · intro w hSw
        go_simp
        try with_reducible rfl
      try simp only [Act.put, List.setIfInBounds_toArray, List.set_cons_zero, List.set_cons_succ]
      refine wpAnyH_take (i := 5) (oi := ⟨some 60, _, _, _, _, _⟩) (v := ?_) rfl (by kernel_rfl) (by kernel_rfl) (by kernel_rfl) (fun _ _ _ h => h) (Or.inl ⟨by kernel_rfl, ?_⟩) (by assumption) ?_
      rotate_left
      · intro w hSw
        go_simp
        try with_reducible rfl
      try simp only [Act.put, List.setIfInBounds_toArray, List.set_cons_zero, List.set_cons_succ]
      refine wpAnyH_take (i := 6) (oi := ⟨some 61, _, _, _, _, _⟩) (v := ?_) rfl (by kernel_rfl) (by kernel_rfl) (by kernel_rfl) (fun _ _ _ h => h) (Or.inl ⟨by kernel_rfl, ?_⟩) (by assumption) ?_
      rotate_left
      · intro w hSw
        go_simp
        try with_reducible rfl
      try simp only [Act.put, List.setIfInBounds_toArray, List.set_cons_zero, List.set_cons_succ]
      refine wpAnyH_take (i := 7) (oi := ⟨some 62, _, _, _, _, _⟩) (v := ?_) rfl (by kernel_rfl) (by kernel_rfl) (by kernel_rfl) (fun _ _ _ h => h) (Or.inl ⟨by kernel_rfl, ?_⟩) (by assumption) ?_
      rotate_left
      · intro w hSw
        go_simp
        try with_reducible rfl
      try simp only [Act.put, List.setIfInBounds_toArray, List.set_cons_zero, List.set_cons_succ]
      refine wpAnyH_take (i := 8) (oi := ⟨some 63, _, _, _, _, _⟩) (v := ?_) rfl (by kernel_rfl) (by kernel_rfl) (by kernel_rfl) (fun _ _ _ h => h) (Or.inl ⟨by kernel_rfl, ?_⟩) (by assumption) ?_
      rotate_left
      · intro w hSw
        go_simp
        try with_reducible rfl
      try simp only [Act.put, List.setIfInBounds_toArray, List.set_cons_zero, List.set_cons_succ]
      refine wpAnyH_take (i := 9) (oi := ⟨some 64, _, _, _, _, _⟩) (v := ?_) rfl (by kernel_rfl) (by kernel_rfl) (by kernel_rfl) (fun _ _ _ h => h) (Or.inl ⟨by kernel_rfl, ?_⟩) (by assumption) ?_
      rotate_left
      · intro w hSw
        go_simp
        try with_reducible rfl
      try simp only [Act.put, List.setIfInBounds_toArray, List.set_cons_zero, List.set_cons_succ]
      refine wpAnyH_take (i := 10) (oi := ⟨some 65, _, _, _, _, _⟩) (v := ?_) rfl (by kernel_rfl) (by kernel_rfl) (by kernel_rfl) (fun _ _ _ h => h) (Or.inl ⟨by kernel_rfl, ?_⟩) (by assumption) ?_
      rotate_left
      · intro w hSw
        go_simp
        try with_reducible rfl
      try simp only [Act.put, List.setIfInBounds_toArray, List.set_cons_zero, List.set_cons_succ]
      refine wpAnyH_take (i := 11) (oi := ⟨some 66, _, _, _, _, _⟩) (v := ?_) rfl (by kernel_rfl) (by kernel_rfl) (by kernel_rfl) (fun _ _ _ h => h) (Or.inl ⟨by kernel_rfl, ?_⟩) (by assumption) ?_
      rotate_left
      · intro w hSw
        go_simp
        try with_reducible rfl
      try simp only [Act.put, List.setIfInBounds_toArray, List.set_cons_zero, List.set_cons_succ]
      refine wpAnyH_take (i := 12) (oi := ⟨some 67, _, _, _, _, _⟩) (v := ?_) rfl (by kernel_rfl) (by kernel_rfl) (by kernel_rfl) (fun _ _ _ h => h) (Or.inl ⟨by kernel_rfl, ?_⟩) (by assumption) ?_
      rotate_left
      · intro w hSw
        go_simp
        try with_reducible rfl
      try simp only [Act.put, List.setIfInBounds_toArray, List.set_cons_zero, List.set_cons_succ]
      refine wpAnyH_take (i := 13) (oi := ⟨some 68, _, _, _, _, _⟩) (v := ?_) rfl (by kernel_rfl) (by kernel_rfl) (by kernel_rfl) (fun _ _ _ h => h) (Or.inl ⟨by kernel_rfl, ?_⟩) (by assumption) ?_
      rotate_left
      · intro w hSw
        go_simp
        try with_reducible rfl
      try simp only [Act.put, List.setIfInBounds_toArray, List.set_cons_zero, List.set_cons_succ]
      refine wpAnyH_ready (rs := [14]) (by kernel_rfl) (by simp) ?_
      refine AllReadyH.cons (o := ⟨some 69, _, _, _, _, _⟩) rfl (fun K hK => ?_) AllReadyH.nil
      go_simp
      refine hK.out _ _ ?_ (fun hHeld => ?_)
      · exact A2a
      clear hK K
      try simp only [Act.put, List.setIfInBounds_toArray, List.set_cons_zero, List.set_cons_succ]
      refine wpAnyH_ready (rs := [15]) (by kernel_rfl) (by simp) ?_
      refine AllReadyH.cons (o := ⟨some 70, _, _, _, _, _⟩) rfl (fun K hK => ?_) AllReadyH.nil
      refine step_append_que _ (by rfl) (.tmp 59) (.tmp 69) 119 (by rfl) (g + 1) 128 ti _ 3 24 Tryd.underlying119 hi0 hz0 hz1 hz2 rfl (by omega) (.slice dA D.length dc) D.length (D.flatMap nxCells) (by rfl) ((V7.out.hd.alloc _).drew) ⟨w7.heap.size, 0, none⟩ 1 1 [.int .i64 a, .int .i64 (h + 1), .int .i64 t] (by rfl) rfl (World.news_of_block (cs := #[.int .i64 a, .int .i64 (h + 1), .int .i64 t]) (t := 128) (fr := (0, 0)) (heap_alloc_new w7 _)) (by simp [Value.oneCell']) (by unfold maxLen; omega) (by omega) (by have := V7.out.chk.lt; simp; omega) ?_
      intro va wa howna hgrowa
      obtain ⟨dAa, dca, rfl⟩ := howna.form
      have Ca := ((V7.out.hd.alloc _).drew).blk ((V7.out.chk.alloc (.cells #[.int .i64 a, .int .i64 (h + 1), .int .i64 t] 128)).drew) hgrowa (by decide)
      have sca : wa.cell? ⟨g, 7, none⟩ = some (.slice dA D.length dc) := Ca.cell 7
      have sfa := Ca.frozen 7
      have Ika := ((V7.out.hd.alloc _).drew).blk (((I7).alloc (.cells #[.int .i64 a, .int .i64 (h + 1), .int .i64 t] 128)).drew) hgrowa (by decide)
      have Ska := ((V7.out.hd.alloc _).drew).blk (((S7).alloc (.cells #[.int .i64 a, .int .i64 (h + 1), .int .i64 t] 128)).drew) hgrowa (by decide)
      have A3a : wa.cell? ⟨g, 7, none⟩ = some (.slice dA D.length dc) ∧ wa.cell? ⟨W.heap.size, 1, none⟩ = some (.int .i64 a) ∧ wa.cell? ⟨W.heap.size + 1, 0, none⟩ = some (.int .i64 h) ∧ wa.cell? ⟨W.heap.size + 1, 1, none⟩ = some (.int .i64 t) := ⟨sca, Ika.cell 1, Ska.cell 0, Ska.cell 1⟩
      have Va := Ea.push (y := (a, (h + 1, t))) hgrowa howna rfl
      have Ia := Ea.pushBlk (((I7).alloc (.cells #[.int .i64 a, .int .i64 (h + 1), .int .i64 t] 128)).drew) (by decide) (by decide) hgrowa (dv' := .slice dAa (D.length + 1) dca)
      have Na := Ea.pushBlk (((N7).alloc (.cells #[.int .i64 a, .int .i64 (h + 1), .int .i64 t] 128)).drew) (by decide) (by decide) hgrowa (dv' := .slice dAa (D.length + 1) dca)
      have Sa := Ea.pushBlk (((S7).alloc (.cells #[.int .i64 a, .int .i64 (h + 1), .int .i64 t] 128)).drew) (by decide) (by decide) hgrowa (dv' := .slice dAa (D.length + 1) dca)
      refine hK.out _ _ ?_ (fun hHeld => ?_)
      · exact A3a
      clear hK K
      try simp only [Act.put, List.setIfInBounds_toArray, List.set_cons_zero, List.set_cons_succ]
      refine wpAnyH_take (i := 16) (oi := ⟨some 71, _, _, _, _, _⟩) (v := ?_) rfl (by kernel_rfl) (by kernel_rfl) (by kernel_rfl) (fun _ _ _ h => h) (Or.inl ⟨by kernel_rfl, ?_⟩) (by assumption) ?_
      rotate_left
      · intro w hSw
        go_simp
        try with_reducible rfl
      try simp only [Act.put, List.setIfInBounds_toArray, List.set_cons_zero, List.set_cons_succ]
      refine wpAnyH_take (i := 17) (oi := ⟨some 72, _, _, _, _, _⟩) (v := ?_) rfl (by kernel_rfl) (by kernel_rfl) (by kernel_rfl) (fun _ _ _ h => h) (Or.inl ⟨by kernel_rfl, ?_⟩) (by assumption) ?_
      rotate_left
      · intro w hSw
        go_simp
        try with_reducible rfl
      try simp only [Act.put, List.setIfInBounds_toArray, List.set_cons_zero, List.set_cons_succ]
      refine wpAnyH_done (by kernel_rfl) ?_ _
      refine lastPost_run (o := ⟨none, _, _, _, _, _⟩) rfl (fun K hK => ?_)
      go_simp
      refine hK.out _ _ ?_
      clear hK K
      have hla : D.length + 1 = (D ++ [(a, (h + 1, t))]).length := by simp
      clear A1a A2a A3a
      generalize hDea : D ++ [(a, (h + 1, t))] = Da at Va hla
      have HDa := Lib.hid hDea
      clear hDea
      rw [hla] at Va Ia Na ⊢
      generalize wa.setCell ⟨g, 7, none⟩ (.slice dAa Da.length dca) = ua at Va Ia Na ⊢
      have Va := Lib.hid Va
      have hDa : Da.length ≤ 100001 := by omega
      clear Ea Ca sca sfa howna hgrowa
      have n1a := Na.cell 1
      have nfa := Na.frozen 1
      have Ib := Ia.far (p := ⟨w6.heap.size, 1, none⟩) (Ia.ne_ Na (by decide)) (.int .i64 (t + 1))
      have Nb := Na.set_ 1 (.int .i64 (t + 1))
      have Vb := Lib.hid (Va.out.setFar (b := w6.heap.size) (i := 1) (u := .int .i64 (t + 1)) hz7 (fun e => Nat.lt_irrefl _ (rl _ e)) (Va.out.hd.blk_ne Na (by decide)))
      have Nb' : Blk _ w6.heap.size 122 #[.int .i64 (h - tk + lv), .int .i64 (t + 1)] := Nb
      clear Nb
      have he : gEnds 33 = false := by decide
      have i0c := (Ib).cell 0
      have i1c := (Ib).cell 1
      have i2c := (Ib).cell 2
      go_wp2_with fail
      refine (c22 _ _ _ _).mono ?_
      rintro e wxc ⟨rfl, bc⟩
      have VXc := Lib.hid (Vb.out.next bc)
      have IXc := (Ib).next bc
      have NXc := (Nb').next bc
      clear bc i0c i1c i2c
      rw [he]
      go_wp2_with fail

      have Ecz := (VXc.out.alloc (.cells #[.int .i64 ((k : Int) + 1), .int .i64 (h - tk + lv), .int .i64 (t + 1)] 128)).drew
      have A1cz : (wxc.drew).cell? ⟨g, 7, none⟩ = some (.slice dAa Da.length dca) ∧ (wxc.drew).cell? ⟨w6.heap.size, 0, none⟩ = some (.int .i64 (h - tk + lv)) ∧ (wxc.drew).cell? ⟨w6.heap.size, 1, none⟩ = some (.int .i64 (t + 1)) := ⟨VXc.out.c7, NXc.cell 0, NXc.cell 1⟩
      have A2cz : (wxc.alloc (.cells #[.int .i64 ((k : Int) + 1), .int .i64 (h - tk + lv), .int .i64 (t + 1)] 128)).drew.cell? ⟨g, 7, none⟩ = some (.slice dAa Da.length dca) ∧ (wxc.alloc (.cells #[.int .i64 ((k : Int) + 1), .int .i64 (h - tk + lv), .int .i64 (t + 1)] 128)).drew.cell? ⟨w6.heap.size, 0, none⟩ = some (.int .i64 (h - tk + lv)) ∧ (wxc.alloc (.cells #[.int .i64 ((k : Int) + 1), .int .i64 (h - tk + lv), .int .i64 (t + 1)] 128)).drew.cell? ⟨w6.heap.size, 1, none⟩ = some (.int .i64 (t + 1)) := ⟨Ecz.c7, (((NXc).alloc (.cells #[.int .i64 ((k : Int) + 1), .int .i64 (h - tk + lv), .int .i64 (t + 1)] 128)).drew).cell 0, (((NXc).alloc (.cells #[.int .i64 ((k : Int) + 1), .int .i64 (h - tk + lv), .int .i64 (t + 1)] 128)).drew).cell 1⟩
      have hvcz := VXc.out.chk.lt
      refine wp_region_last (S := fun X => X.cell? ⟨g, 7, none⟩ = some (.slice dAa Da.length dca) ∧ X.cell? ⟨w6.heap.size, 0, none⟩ = some (.int .i64 (h - tk + lv)) ∧ X.cell? ⟨w6.heap.size, 1, none⟩ = some (.int .i64 (t + 1))) 13 (by kernel_rfl) (by kernel_rfl) (by kernel_rfl) (by kernel_rfl) A1cz (fun hHeld => ?_)
      refine wpAnyH_take (i := 0) (oi := ⟨some 102, _, _, _, _, _⟩) (v := ?_) rfl (by kernel_rfl) (by kernel_rfl) (by kernel_rfl) (fun _ _ _ h => h) (Or.inl ⟨by kernel_rfl, ?_⟩) (by assumption) ?_
      rotate_left
      · intro w hSw
        go_simp
        try with_reducible rfl
      try simp only [Act.put, List.setIfInBounds_toArray, List.set_cons_zero, List.set_cons_succ]
      refine wpAnyH_take (i := 1) (oi := ⟨some 103, _, _, _, _, _⟩) (v := ?_) rfl (by kernel_rfl) (by kernel_rfl) (by kernel_rfl) (fun _ _ _ h => h) (Or.inl ⟨by kernel_rfl, ?_⟩) (by assumption) ?_
      rotate_left
      · intro w hSw
        go_simp
        try with_reducible rfl
      try simp only [Act.put, List.setIfInBounds_toArray, List.set_cons_zero, List.set_cons_succ]
      refine wpAnyH_take (i := 2) (oi := ⟨some 104, _, _, _, _, _⟩) (v := ?_) rfl (by kernel_rfl) (by kernel_rfl) (by kernel_rfl) (fun _ _ _ h => h) (Or.inl ⟨by kernel_rfl, ?_⟩) (by assumption) ?_
      rotate_left
      · intro w hSw
        go_simp
        try with_reducible rfl
      try simp only [Act.put, List.setIfInBounds_toArray, List.set_cons_zero, List.set_cons_succ]
      refine wpAnyH_take (i := 3) (oi := ⟨some 105, _, _, _, _, _⟩) (v := ?_) rfl (by kernel_rfl) (by kernel_rfl) (by kernel_rfl) (fun _ _ _ h => h) (Or.inl ⟨by kernel_rfl, ?_⟩) (by assumption) ?_
      rotate_left
      · intro w hSw
        go_simp
        try with_reducible rfl
      try simp only [Act.put, List.setIfInBounds_toArray, List.set_cons_zero, List.set_cons_succ]
      refine wpAnyH_take (i := 4) (oi := ⟨some 106, _, _, _, _, _⟩) (v := ?_) rfl (by kernel_rfl) (by kernel_rfl) (by kernel_rfl) (fun _ _ _ h => h) (Or.inl ⟨by kernel_rfl, ?_⟩) (by assumption) ?_
      rotate_left
      · intro w hSw
        go_simp
        try with_reducible rfl
      try simp only [Act.put, List.setIfInBounds_toArray, List.set_cons_zero, List.set_cons_succ]
      refine wpAnyH_take (i := 5) (oi := ⟨some 107, _, _, _, _, _⟩) (v := ?_) rfl (by kernel_rfl) (by kernel_rfl) (by kernel_rfl) (fun _ _ _ h => h) (Or.inl ⟨by kernel_rfl, ?_⟩) (by assumption) ?_
      rotate_left
      · intro w hSw
        go_simp
        try with_reducible rfl
      try simp only [Act.put, List.setIfInBounds_toArray, List.set_cons_zero, List.set_cons_succ]
      refine wpAnyH_take (i := 6) (oi := ⟨some 108, _, _, _, _, _⟩) (v := ?_) rfl (by kernel_rfl) (by kernel_rfl) (by kernel_rfl) (fun _ _ _ h => h) (Or.inl ⟨by kernel_rfl, ?_⟩) (by assumption) ?_
      rotate_left
      · intro w hSw
        go_simp
        try with_reducible rfl
      try simp only [Act.put, List.setIfInBounds_toArray, List.set_cons_zero, List.set_cons_succ]
      refine wpAnyH_take (i := 7) (oi := ⟨some 109, _, _, _, _, _⟩) (v := ?_) rfl (by kernel_rfl) (by kernel_rfl) (by kernel_rfl) (fun _ _ _ h => h) (Or.inl ⟨by kernel_rfl, ?_⟩) (by assumption) ?_
      rotate_left
      · intro w hSw
        go_simp
        try with_reducible rfl
      try simp only [Act.put, List.setIfInBounds_toArray, List.set_cons_zero, List.set_cons_succ]
      refine wpAnyH_take (i := 8) (oi := ⟨some 110, _, _, _, _, _⟩) (v := ?_) rfl (by kernel_rfl) (by kernel_rfl) (by kernel_rfl) (fun _ _ _ h => h) (Or.inl ⟨by kernel_rfl, ?_⟩) (by assumption) ?_
      rotate_left
      · intro w hSw
        go_simp
        try with_reducible rfl
      try simp only [Act.put, List.setIfInBounds_toArray, List.set_cons_zero, List.set_cons_succ]
      refine wpAnyH_ready (rs := [9]) (by kernel_rfl) (by simp) ?_
      refine AllReadyH.cons (o := ⟨some 111, _, _, _, _, _⟩) rfl (fun K hK => ?_) AllReadyH.nil
      go_simp
      refine hK.out _ _ ?_ (fun hHeld => ?_)
      · exact A2cz
      clear hK K
      try simp only [Act.put, List.setIfInBounds_toArray, List.set_cons_zero, List.set_cons_succ]
      refine wpAnyH_ready (rs := [10]) (by kernel_rfl) (by simp) ?_
      refine AllReadyH.cons (o := ⟨some 112, _, _, _, _, _⟩) rfl (fun K hK => ?_) AllReadyH.nil
      refine step_append_que _ (by rfl) (.tmp 106) (.tmp 111) 119 (by rfl) (g + 1) 128 ti _ 3 24 Tryd.underlying119 hi0 hz0 hz1 hz2 rfl (by omega) (.slice dAa Da.length dca) Da.length (Da.flatMap nxCells) (by rfl) ((VXc.out.hd.alloc _).drew) ⟨wxc.heap.size, 0, none⟩ 1 1 [.int .i64 ((k : Int) + 1), .int .i64 (h - tk + lv), .int .i64 (t + 1)] (by rfl) rfl (World.news_of_block (cs := #[.int .i64 ((k : Int) + 1), .int .i64 (h - tk + lv), .int .i64 (t + 1)]) (t := 128) (fr := (0, 0)) (heap_alloc_new wxc _)) (by simp [Value.oneCell']) (by unfold maxLen; omega) (by omega) (by have := VXc.out.chk.lt; simp; omega) ?_
      intro vcz wcz howncz hgrowcz
      obtain ⟨dAcz, dccz, rfl⟩ := howncz.form
      have Ccz := ((VXc.out.hd.alloc _).drew).blk ((VXc.out.chk.alloc (.cells #[.int .i64 ((k : Int) + 1), .int .i64 (h - tk + lv), .int .i64 (t + 1)] 128)).drew) hgrowcz (by decide)
      have sccz : wcz.cell? ⟨g, 7, none⟩ = some (.slice dAa Da.length dca) := Ccz.cell 7
      have sfcz := Ccz.frozen 7
      have Nkcz := ((VXc.out.hd.alloc _).drew).blk (((NXc).alloc (.cells #[.int .i64 ((k : Int) + 1), .int .i64 (h - tk + lv), .int .i64 (t + 1)] 128)).drew) hgrowcz (by decide)
      have A3cz : wcz.cell? ⟨g, 7, none⟩ = some (.slice dAa Da.length dca) ∧ wcz.cell? ⟨w6.heap.size, 0, none⟩ = some (.int .i64 (h - tk + lv)) ∧ wcz.cell? ⟨w6.heap.size, 1, none⟩ = some (.int .i64 (t + 1)) := ⟨sccz, Nkcz.cell 0, Nkcz.cell 1⟩
      have Vcz := Ecz.push (y := ((k : Int) + 1, (h - tk + lv, t + 1))) hgrowcz howncz rfl
      have Icz := Ecz.pushBlk (((IXc).alloc (.cells #[.int .i64 ((k : Int) + 1), .int .i64 (h - tk + lv), .int .i64 (t + 1)] 128)).drew) (by decide) (by decide) hgrowcz (dv' := .slice dAcz (Da.length + 1) dccz)
      have Ncz := Ecz.pushBlk (((NXc).alloc (.cells #[.int .i64 ((k : Int) + 1), .int .i64 (h - tk + lv), .int .i64 (t + 1)] 128)).drew) (by decide) (by decide) hgrowcz (dv' := .slice dAcz (Da.length + 1) dccz)
      refine hK.out _ _ ?_ (fun hHeld => ?_)
      · exact A3cz
      clear hK K
      try simp only [Act.put, List.setIfInBounds_toArray, List.set_cons_zero, List.set_cons_succ]
      refine wpAnyH_take (i := 11) (oi := ⟨some 113, _, _, _, _, _⟩) (v := ?_) rfl (by kernel_rfl) (by kernel_rfl) (by kernel_rfl) (fun _ _ _ h => h) (Or.inl ⟨by kernel_rfl, ?_⟩) (by assumption) ?_
      rotate_left
      · intro w hSw
        go_simp
        try with_reducible rfl
      try simp only [Act.put, List.setIfInBounds_toArray, List.set_cons_zero, List.set_cons_succ]
      refine wpAnyH_take (i := 12) (oi := ⟨some 114, _, _, _, _, _⟩) (v := ?_) rfl (by kernel_rfl) (by kernel_rfl) (by kernel_rfl) (fun _ _ _ h => h) (Or.inl ⟨by kernel_rfl, ?_⟩) (by assumption) ?_
      rotate_left
      · intro w hSw
        go_simp
        try with_reducible rfl
      try simp only [Act.put, List.setIfInBounds_toArray, List.set_cons_zero, List.set_cons_succ]
      refine wpAnyH_done (by kernel_rfl) ?_ _
      refine lastPost_run (o := ⟨none, _, _, _, _, _⟩) rfl (fun K hK => ?_)
      go_simp
      refine hK.out _ _ ?_
      clear hK K
      have hlcz : Da.length + 1 = (Da ++ [((k : Int) + 1, (h - tk + lv, t + 1))]).length := by simp
      clear A1cz A2cz A3cz
      generalize hDecz : Da ++ [((k : Int) + 1, (h - tk + lv, t + 1))] = Dcz at Vcz hlcz
      have HDcz := Lib.hid hDecz
      clear hDecz
      rw [hlcz] at Vcz Icz Ncz ⊢
      generalize wcz.setCell ⟨g, 7, none⟩ (.slice dAcz Dcz.length dccz) = ucz at Vcz Icz Ncz ⊢
      have Vcz := Lib.hid Vcz
      have hDcz : Dcz.length ≤ 100002 := by omega
      clear Ecz Ccz sccz sfcz howncz hgrowcz
      go_wp2_with fail
      go_ret
      exact ⟨by rw [HX.out]; simp, _, _, Vcz.out, fun _ => by rw [HNW.out, ← HDcz.out, ← HDa.out]; simp [he]⟩
    have f33 : (o == 33) = false := beq_eq_false_iff_ne.2 h33
    have F33 := h33
    by_cases h34 : o = 34
    · subst h34
      clear f33 h33 F33
      have W5 : IntKind.i64.wrap (t - 1) = t - 1 := IntWalk.i64_in _ (by omega)
      have V8 := Lib.hid (V6.out.alloc (.cells #[.int .i64 (h - tk + lv), .int .i64 (t - 1)] 122))
      have I8 := I6.alloc (.cells #[.int .i64 (h - tk + lv), .int .i64 (t - 1)] 122)
      have N8 := Blk.new w6 122 #[.int .i64 (h - tk + lv), .int .i64 (t - 1)]
      have he : gEnds 34 = false := by decide
      have i0d := (I8).cell 0
      have i1d := (I8).cell 1
      have i2d := (I8).cell 2
      go_wp2_with fail
      refine (c22 _ _ _ _).mono ?_
      rintro e wxd ⟨rfl, bd⟩
      have VXd := Lib.hid (V8.out.next bd)
      have IXd := (I8).next bd
      have NXd := (N8).next bd
      clear bd i0d i1d i2d
      rw [he]
      go_wp2_with fail

      have Edz := (VXd.out.alloc (.cells #[.int .i64 ((k : Int) + 1), .int .i64 (h - tk + lv), .int .i64 (t - 1)] 128)).drew
      have A1dz : (wxd.drew).cell? ⟨g, 7, none⟩ = some (.slice dA D.length dc) ∧ (wxd.drew).cell? ⟨w6.heap.size, 0, none⟩ = some (.int .i64 (h - tk + lv)) ∧ (wxd.drew).cell? ⟨w6.heap.size, 1, none⟩ = some (.int .i64 (t - 1)) := ⟨VXd.out.c7, NXd.cell 0, NXd.cell 1⟩
      have A2dz : (wxd.alloc (.cells #[.int .i64 ((k : Int) + 1), .int .i64 (h - tk + lv), .int .i64 (t - 1)] 128)).drew.cell? ⟨g, 7, none⟩ = some (.slice dA D.length dc) ∧ (wxd.alloc (.cells #[.int .i64 ((k : Int) + 1), .int .i64 (h - tk + lv), .int .i64 (t - 1)] 128)).drew.cell? ⟨w6.heap.size, 0, none⟩ = some (.int .i64 (h - tk + lv)) ∧ (wxd.alloc (.cells #[.int .i64 ((k : Int) + 1), .int .i64 (h - tk + lv), .int .i64 (t - 1)] 128)).drew.cell? ⟨w6.heap.size, 1, none⟩ = some (.int .i64 (t - 1)) := ⟨Edz.c7, (((NXd).alloc (.cells #[.int .i64 ((k : Int) + 1), .int .i64 (h - tk + lv), .int .i64 (t - 1)] 128)).drew).cell 0, (((NXd).alloc (.cells #[.int .i64 ((k : Int) + 1), .int .i64 (h - tk + lv), .int .i64 (t - 1)] 128)).drew).cell 1⟩
      have hvdz := VXd.out.chk.lt
      refine wp_region_last (S := fun X => X.cell? ⟨g, 7, none⟩ = some (.slice dA D.length dc) ∧ X.cell? ⟨w6.heap.size, 0, none⟩ = some (.int .i64 (h - tk + lv)) ∧ X.cell? ⟨w6.heap.size, 1, none⟩ = some (.int .i64 (t - 1))) 13 (by kernel_rfl) (by kernel_rfl) (by kernel_rfl) (by kernel_rfl) A1dz (fun hHeld => ?_)
      refine wpAnyH_take (i := 0) (oi := ⟨some 102, _, _, _, _, _⟩) (v := ?_) rfl (by kernel_rfl) (by kernel_rfl) (by kernel_rfl) (fun _ _ _ h => h) (Or.inl ⟨by kernel_rfl, ?_⟩) (by assumption) ?_
      rotate_left
      · intro w hSw
        go_simp
        try with_reducible rfl
      try simp only [Act.put, List.setIfInBounds_toArray, List.set_cons_zero, List.set_cons_succ]
      refine wpAnyH_take (i := 1) (oi := ⟨some 103, _, _, _, _, _⟩) (v := ?_) rfl (by kernel_rfl) (by kernel_rfl) (by kernel_rfl) (fun _ _ _ h => h) (Or.inl ⟨by kernel_rfl, ?_⟩) (by assumption) ?_
      rotate_left
      · intro w hSw
        go_simp
        try with_reducible rfl
      try simp only [Act.put, List.setIfInBounds_toArray, List.set_cons_zero, List.set_cons_succ]
      refine wpAnyH_take (i := 2) (oi := ⟨some 104, _, _, _, _, _⟩) (v := ?_) rfl (by kernel_rfl) (by kernel_rfl) (by kernel_rfl) (fun _ _ _ h => h) (Or.inl ⟨by kernel_rfl, ?_⟩) (by assumption) ?_
      rotate_left
      · intro w hSw
        go_simp
        try with_reducible rfl
      try simp only [Act.put, List.setIfInBounds_toArray, List.set_cons_zero, List.set_cons_succ]
      refine wpAnyH_take (i := 3) (oi := ⟨some 105, _, _, _, _, _⟩) (v := ?_) rfl (by kernel_rfl) (by kernel_rfl) (by kernel_rfl) (fun _ _ _ h => h) (Or.inl ⟨by kernel_rfl, ?_⟩) (by assumption) ?_
      rotate_left
      · intro w hSw
        go_simp
        try with_reducible rfl
      try simp only [Act.put, List.setIfInBounds_toArray, List.set_cons_zero, List.set_cons_succ]
      refine wpAnyH_take (i := 4) (oi := ⟨some 106, _, _, _, _, _⟩) (v := ?_) rfl (by kernel_rfl) (by kernel_rfl) (by kernel_rfl) (fun _ _ _ h => h) (Or.inl ⟨by kernel_rfl, ?_⟩) (by assumption) ?_
      rotate_left
      · intro w hSw
        go_simp
        try with_reducible rfl
      try simp only [Act.put, List.setIfInBounds_toArray, List.set_cons_zero, List.set_cons_succ]
      refine wpAnyH_take (i := 5) (oi := ⟨some 107, _, _, _, _, _⟩) (v := ?_) rfl (by kernel_rfl) (by kernel_rfl) (by kernel_rfl) (fun _ _ _ h => h) (Or.inl ⟨by kernel_rfl, ?_⟩) (by assumption) ?_
      rotate_left
      · intro w hSw
        go_simp
        try with_reducible rfl
      try simp only [Act.put, List.setIfInBounds_toArray, List.set_cons_zero, List.set_cons_succ]
      refine wpAnyH_take (i := 6) (oi := ⟨some 108, _, _, _, _, _⟩) (v := ?_) rfl (by kernel_rfl) (by kernel_rfl) (by kernel_rfl) (fun _ _ _ h => h) (Or.inl ⟨by kernel_rfl, ?_⟩) (by assumption) ?_
      rotate_left
      · intro w hSw
        go_simp
        try with_reducible rfl
      try simp only [Act.put, List.setIfInBounds_toArray, List.set_cons_zero, List.set_cons_succ]
      refine wpAnyH_take (i := 7) (oi := ⟨some 109, _, _, _, _, _⟩) (v := ?_) rfl (by kernel_rfl) (by kernel_rfl) (by kernel_rfl) (fun _ _ _ h => h) (Or.inl ⟨by kernel_rfl, ?_⟩) (by assumption) ?_
      rotate_left
      · intro w hSw
        go_simp
        try with_reducible rfl
      try simp only [Act.put, List.setIfInBounds_toArray, List.set_cons_zero, List.set_cons_succ]
      refine wpAnyH_take (i := 8) (oi := ⟨some 110, _, _, _, _, _⟩) (v := ?_) rfl (by kernel_rfl) (by kernel_rfl) (by kernel_rfl) (fun _ _ _ h => h) (Or.inl ⟨by kernel_rfl, ?_⟩) (by assumption) ?_
      rotate_left
      · intro w hSw
        go_simp
        try with_reducible rfl
      try simp only [Act.put, List.setIfInBounds_toArray, List.set_cons_zero, List.set_cons_succ]
      refine wpAnyH_ready (rs := [9]) (by kernel_rfl) (by simp) ?_
      refine AllReadyH.cons (o := ⟨some 111, _, _, _, _, _⟩) rfl (fun K hK => ?_) AllReadyH.nil
      go_simp
      refine hK.out _ _ ?_ (fun hHeld => ?_)
      · exact A2dz
      clear hK K
      try simp only [Act.put, List.setIfInBounds_toArray, List.set_cons_zero, List.set_cons_succ]
      refine wpAnyH_ready (rs := [10]) (by kernel_rfl) (by simp) ?_
      refine AllReadyH.cons (o := ⟨some 112, _, _, _, _, _⟩) rfl (fun K hK => ?_) AllReadyH.nil
      refine step_append_que _ (by rfl) (.tmp 106) (.tmp 111) 119 (by rfl) (g + 1) 128 ti _ 3 24 Tryd.underlying119 hi0 hz0 hz1 hz2 rfl (by omega) (.slice dA D.length dc) D.length (D.flatMap nxCells) (by rfl) ((VXd.out.hd.alloc _).drew) ⟨wxd.heap.size, 0, none⟩ 1 1 [.int .i64 ((k : Int) + 1), .int .i64 (h - tk + lv), .int .i64 (t - 1)] (by rfl) rfl (World.news_of_block (cs := #[.int .i64 ((k : Int) + 1), .int .i64 (h - tk + lv), .int .i64 (t - 1)]) (t := 128) (fr := (0, 0)) (heap_alloc_new wxd _)) (by simp [Value.oneCell']) (by unfold maxLen; omega) (by omega) (by have := VXd.out.chk.lt; simp; omega) ?_
      intro vdz wdz howndz hgrowdz
      obtain ⟨dAdz, dcdz, rfl⟩ := howndz.form
      have Cdz := ((VXd.out.hd.alloc _).drew).blk ((VXd.out.chk.alloc (.cells #[.int .i64 ((k : Int) + 1), .int .i64 (h - tk + lv), .int .i64 (t - 1)] 128)).drew) hgrowdz (by decide)
      have scdz : wdz.cell? ⟨g, 7, none⟩ = some (.slice dA D.length dc) := Cdz.cell 7
      have sfdz := Cdz.frozen 7
      have Nkdz := ((VXd.out.hd.alloc _).drew).blk (((NXd).alloc (.cells #[.int .i64 ((k : Int) + 1), .int .i64 (h - tk + lv), .int .i64 (t - 1)] 128)).drew) hgrowdz (by decide)
      have A3dz : wdz.cell? ⟨g, 7, none⟩ = some (.slice dA D.length dc) ∧ wdz.cell? ⟨w6.heap.size, 0, none⟩ = some (.int .i64 (h - tk + lv)) ∧ wdz.cell? ⟨w6.heap.size, 1, none⟩ = some (.int .i64 (t - 1)) := ⟨scdz, Nkdz.cell 0, Nkdz.cell 1⟩
      have Vdz := Edz.push (y := ((k : Int) + 1, (h - tk + lv, t - 1))) hgrowdz howndz rfl
      have Idz := Edz.pushBlk (((IXd).alloc (.cells #[.int .i64 ((k : Int) + 1), .int .i64 (h - tk + lv), .int .i64 (t - 1)] 128)).drew) (by decide) (by decide) hgrowdz (dv' := .slice dAdz (D.length + 1) dcdz)
      have Ndz := Edz.pushBlk (((NXd).alloc (.cells #[.int .i64 ((k : Int) + 1), .int .i64 (h - tk + lv), .int .i64 (t - 1)] 128)).drew) (by decide) (by decide) hgrowdz (dv' := .slice dAdz (D.length + 1) dcdz)
      refine hK.out _ _ ?_ (fun hHeld => ?_)
      · exact A3dz
      clear hK K
      try simp only [Act.put, List.setIfInBounds_toArray, List.set_cons_zero, List.set_cons_succ]
      refine wpAnyH_take (i := 11) (oi := ⟨some 113, _, _, _, _, _⟩) (v := ?_) rfl (by kernel_rfl) (by kernel_rfl) (by kernel_rfl) (fun _ _ _ h => h) (Or.inl ⟨by kernel_rfl, ?_⟩) (by assumption) ?_
      rotate_left
      · intro w hSw
        go_simp
        try with_reducible rfl
      try simp only [Act.put, List.setIfInBounds_toArray, List.set_cons_zero, List.set_cons_succ]
      refine wpAnyH_take (i := 12) (oi := ⟨some 114, _, _, _, _, _⟩) (v := ?_) rfl (by kernel_rfl) (by kernel_rfl) (by kernel_rfl) (fun _ _ _ h => h) (Or.inl ⟨by kernel_rfl, ?_⟩) (by assumption) ?_
      rotate_left
      · intro w hSw
        go_simp
        try with_reducible rfl
      try simp only [Act.put, List.setIfInBounds_toArray, List.set_cons_zero, List.set_cons_succ]
      refine wpAnyH_done (by kernel_rfl) ?_ _
      refine lastPost_run (o := ⟨none, _, _, _, _, _⟩) rfl (fun K hK => ?_)
      go_simp
      refine hK.out _ _ ?_
      clear hK K
      have hldz : D.length + 1 = (D ++ [((k : Int) + 1, (h - tk + lv, t - 1))]).length := by simp
      clear A1dz A2dz A3dz
      generalize hDedz : D ++ [((k : Int) + 1, (h - tk + lv, t - 1))] = Ddz at Vdz hldz
      have HDdz := Lib.hid hDedz
      clear hDedz
      rw [hldz] at Vdz Idz Ndz ⊢
      generalize wdz.setCell ⟨g, 7, none⟩ (.slice dAdz Ddz.length dcdz) = udz at Vdz Idz Ndz ⊢
      have Vdz := Lib.hid Vdz
      have hDdz : Ddz.length ≤ 100002 := by omega
      clear Edz Cdz scdz sfdz howndz hgrowdz
      go_wp2_with fail
      go_ret
      exact ⟨by rw [HX.out]; simp, _, _, Vdz.out, fun _ => by rw [HNW.out, ← HDdz.out]; simp [he]⟩
    have f34 : (o == 34) = false := beq_eq_false_iff_ne.2 h34
    have F34 := h34
    by_cases h10 : o = 10
    · subst h10
      clear f33 f34 h33 h34 F33 F34
      have he : gEnds 10 = true := by decide
      go_wp2_with fail
      generalize w6.alloc (.cells #[.int .i64 (h - tk + lv), .int .i64 t] 122) = w7 at V7 I7 S7 N7 i0 i1 i2 n0 n1 s0 s1 ⊢
      have Ef := (V7.out.alloc (.cells #[.int .i64 a, .int .i64 (h - tk + lv), .int .i64 t] 128)).drew
      have A1f : (w7.drew).cell? ⟨g, 7, none⟩ = some (.slice dA D.length dc) ∧ (w7.drew).cell? ⟨W.heap.size, 1, none⟩ = some (.int .i64 a) ∧ (w7.drew).cell? ⟨w6.heap.size, 0, none⟩ = some (.int .i64 (h - tk + lv)) ∧ (w7.drew).cell? ⟨w6.heap.size, 1, none⟩ = some (.int .i64 t) := ⟨V7.out.c7, I7.cell 1, N7.cell 0, N7.cell 1⟩
      have A2f : (w7.alloc (.cells #[.int .i64 a, .int .i64 (h - tk + lv), .int .i64 t] 128)).drew.cell? ⟨g, 7, none⟩ = some (.slice dA D.length dc) ∧ (w7.alloc (.cells #[.int .i64 a, .int .i64 (h - tk + lv), .int .i64 t] 128)).drew.cell? ⟨W.heap.size, 1, none⟩ = some (.int .i64 a) ∧ (w7.alloc (.cells #[.int .i64 a, .int .i64 (h - tk + lv), .int .i64 t] 128)).drew.cell? ⟨w6.heap.size, 0, none⟩ = some (.int .i64 (h - tk + lv)) ∧ (w7.alloc (.cells #[.int .i64 a, .int .i64 (h - tk + lv), .int .i64 t] 128)).drew.cell? ⟨w6.heap.size, 1, none⟩ = some (.int .i64 t) := ⟨Ef.c7, (((I7).alloc (.cells #[.int .i64 a, .int .i64 (h - tk + lv), .int .i64 t] 128)).drew).cell 1, (((N7).alloc (.cells #[.int .i64 a, .int .i64 (h - tk + lv), .int .i64 t] 128)).drew).cell 0, (((N7).alloc (.cells #[.int .i64 a, .int .i64 (h - tk + lv), .int .i64 t] 128)).drew).cell 1⟩
      have hvf := V7.out.chk.lt
      refine wp_region_last (S := fun X => X.cell? ⟨g, 7, none⟩ = some (.slice dA D.length dc) ∧ X.cell? ⟨W.heap.size, 1, none⟩ = some (.int .i64 a) ∧ X.cell? ⟨w6.heap.size, 0, none⟩ = some (.int .i64 (h - tk + lv)) ∧ X.cell? ⟨w6.heap.size, 1, none⟩ = some (.int .i64 t)) 13 (by kernel_rfl) (by kernel_rfl) (by kernel_rfl) (by kernel_rfl) A1f (fun hHeld => ?_)
      refine wpAnyH_take (i := 0) (oi := ⟨some 86, _, _, _, _, _⟩) (v := ?_) rfl (by kernel_rfl) (by kernel_rfl) (by kernel_rfl) (fun _ _ _ h => h) (Or.inl ⟨by kernel_rfl, ?_⟩) (by assumption) ?_
      rotate_left
      · intro w hSw
        go_simp
        try with_reducible rfl
      try simp only [Act.put, List.setIfInBounds_toArray, List.set_cons_zero, List.set_cons_succ]
      refine wpAnyH_take (i := 1) (oi := ⟨some 87, _, _, _, _, _⟩) (v := ?_) rfl (by kernel_rfl) (by kernel_rfl) (by kernel_rfl) (fun _ _ _ h => h) (Or.inl ⟨by kernel_rfl, ?_⟩) (by assumption) ?_
      rotate_left
      · intro w hSw
        go_simp
        try with_reducible rfl
      try simp only [Act.put, List.setIfInBounds_toArray, List.set_cons_zero, List.set_cons_succ]
      refine wpAnyH_take (i := 2) (oi := ⟨some 88, _, _, _, _, _⟩) (v := ?_) rfl (by kernel_rfl) (by kernel_rfl) (by kernel_rfl) (fun _ _ _ h => h) (Or.inl ⟨by kernel_rfl, ?_⟩) (by assumption) ?_
      rotate_left
      · intro w hSw
        go_simp
        try with_reducible rfl
      try simp only [Act.put, List.setIfInBounds_toArray, List.set_cons_zero, List.set_cons_succ]
      refine wpAnyH_take (i := 3) (oi := ⟨some 89, _, _, _, _, _⟩) (v := ?_) rfl (by kernel_rfl) (by kernel_rfl) (by kernel_rfl) (fun _ _ _ h => h) (Or.inl ⟨by kernel_rfl, ?_⟩) (by assumption) ?_
      rotate_left
      · intro w hSw
        go_simp
        try with_reducible rfl
      try simp only [Act.put, List.setIfInBounds_toArray, List.set_cons_zero, List.set_cons_succ]
      refine wpAnyH_take (i := 4) (oi := ⟨some 90, _, _, _, _, _⟩) (v := ?_) rfl (by kernel_rfl) (by kernel_rfl) (by kernel_rfl) (fun _ _ _ h => h) (Or.inl ⟨by kernel_rfl, ?_⟩) (by assumption) ?_
      rotate_left
      · intro w hSw
        go_simp
        try with_reducible rfl
      try simp only [Act.put, List.setIfInBounds_toArray, List.set_cons_zero, List.set_cons_succ]
      refine wpAnyH_take (i := 5) (oi := ⟨some 91, _, _, _, _, _⟩) (v := ?_) rfl (by kernel_rfl) (by kernel_rfl) (by kernel_rfl) (fun _ _ _ h => h) (Or.inl ⟨by kernel_rfl, ?_⟩) (by assumption) ?_
      rotate_left
      · intro w hSw
        go_simp
        try with_reducible rfl
      try simp only [Act.put, List.setIfInBounds_toArray, List.set_cons_zero, List.set_cons_succ]
      refine wpAnyH_take (i := 6) (oi := ⟨some 92, _, _, _, _, _⟩) (v := ?_) rfl (by kernel_rfl) (by kernel_rfl) (by kernel_rfl) (fun _ _ _ h => h) (Or.inl ⟨by kernel_rfl, ?_⟩) (by assumption) ?_
      rotate_left
      · intro w hSw
        go_simp
        try with_reducible rfl
      try simp only [Act.put, List.setIfInBounds_toArray, List.set_cons_zero, List.set_cons_succ]
      refine wpAnyH_take (i := 7) (oi := ⟨some 93, _, _, _, _, _⟩) (v := ?_) rfl (by kernel_rfl) (by kernel_rfl) (by kernel_rfl) (fun _ _ _ h => h) (Or.inl ⟨by kernel_rfl, ?_⟩) (by assumption) ?_
      rotate_left
      · intro w hSw
        go_simp
        try with_reducible rfl
      try simp only [Act.put, List.setIfInBounds_toArray, List.set_cons_zero, List.set_cons_succ]
      refine wpAnyH_take (i := 8) (oi := ⟨some 94, _, _, _, _, _⟩) (v := ?_) rfl (by kernel_rfl) (by kernel_rfl) (by kernel_rfl) (fun _ _ _ h => h) (Or.inl ⟨by kernel_rfl, ?_⟩) (by assumption) ?_
      rotate_left
      · intro w hSw
        go_simp
        try with_reducible rfl
      try simp only [Act.put, List.setIfInBounds_toArray, List.set_cons_zero, List.set_cons_succ]
      refine wpAnyH_ready (rs := [9]) (by kernel_rfl) (by simp) ?_
      refine AllReadyH.cons (o := ⟨some 95, _, _, _, _, _⟩) rfl (fun K hK => ?_) AllReadyH.nil
      go_simp
      refine hK.out _ _ ?_ (fun hHeld => ?_)
      · exact A2f
      clear hK K
      try simp only [Act.put, List.setIfInBounds_toArray, List.set_cons_zero, List.set_cons_succ]
      refine wpAnyH_ready (rs := [10]) (by kernel_rfl) (by simp) ?_
      refine AllReadyH.cons (o := ⟨some 96, _, _, _, _, _⟩) rfl (fun K hK => ?_) AllReadyH.nil
      refine step_append_que _ (by rfl) (.tmp 90) (.tmp 95) 119 (by rfl) (g + 1) 128 ti _ 3 24 Tryd.underlying119 hi0 hz0 hz1 hz2 rfl (by omega) (.slice dA D.length dc) D.length (D.flatMap nxCells) (by rfl) ((V7.out.hd.alloc _).drew) ⟨w7.heap.size, 0, none⟩ 1 1 [.int .i64 a, .int .i64 (h - tk + lv), .int .i64 t] (by rfl) rfl (World.news_of_block (cs := #[.int .i64 a, .int .i64 (h - tk + lv), .int .i64 t]) (t := 128) (fr := (0, 0)) (heap_alloc_new w7 _)) (by simp [Value.oneCell']) (by unfold maxLen; omega) (by omega) (by have := V7.out.chk.lt; simp; omega) ?_
      intro vf wf hownf hgrowf
      obtain ⟨dAf, dcf, rfl⟩ := hownf.form
      have Cf := ((V7.out.hd.alloc _).drew).blk ((V7.out.chk.alloc (.cells #[.int .i64 a, .int .i64 (h - tk + lv), .int .i64 t] 128)).drew) hgrowf (by decide)
      have scf : wf.cell? ⟨g, 7, none⟩ = some (.slice dA D.length dc) := Cf.cell 7
      have sff := Cf.frozen 7
      have Ikf := ((V7.out.hd.alloc _).drew).blk (((I7).alloc (.cells #[.int .i64 a, .int .i64 (h - tk + lv), .int .i64 t] 128)).drew) hgrowf (by decide)
      have Nkf := ((V7.out.hd.alloc _).drew).blk (((N7).alloc (.cells #[.int .i64 a, .int .i64 (h - tk + lv), .int .i64 t] 128)).drew) hgrowf (by decide)
      have A3f : wf.cell? ⟨g, 7, none⟩ = some (.slice dA D.length dc) ∧ wf.cell? ⟨W.heap.size, 1, none⟩ = some (.int .i64 a) ∧ wf.cell? ⟨w6.heap.size, 0, none⟩ = some (.int .i64 (h - tk + lv)) ∧ wf.cell? ⟨w6.heap.size, 1, none⟩ = some (.int .i64 t) := ⟨scf, Ikf.cell 1, Nkf.cell 0, Nkf.cell 1⟩
      have Vf := Ef.push (y := (a, (h - tk + lv, t))) hgrowf hownf rfl
      have If := Ef.pushBlk (((I7).alloc (.cells #[.int .i64 a, .int .i64 (h - tk + lv), .int .i64 t] 128)).drew) (by decide) (by decide) hgrowf (dv' := .slice dAf (D.length + 1) dcf)
      have Nf := Ef.pushBlk (((N7).alloc (.cells #[.int .i64 a, .int .i64 (h - tk + lv), .int .i64 t] 128)).drew) (by decide) (by decide) hgrowf (dv' := .slice dAf (D.length + 1) dcf)
      refine hK.out _ _ ?_ (fun hHeld => ?_)
      · exact A3f
      clear hK K
      try simp only [Act.put, List.setIfInBounds_toArray, List.set_cons_zero, List.set_cons_succ]
      refine wpAnyH_take (i := 11) (oi := ⟨some 97, _, _, _, _, _⟩) (v := ?_) rfl (by kernel_rfl) (by kernel_rfl) (by kernel_rfl) (fun _ _ _ h => h) (Or.inl ⟨by kernel_rfl, ?_⟩) (by assumption) ?_
      rotate_left
      · intro w hSw
        go_simp
        try with_reducible rfl
      try simp only [Act.put, List.setIfInBounds_toArray, List.set_cons_zero, List.set_cons_succ]
      refine wpAnyH_take (i := 12) (oi := ⟨some 98, _, _, _, _, _⟩) (v := ?_) rfl (by kernel_rfl) (by kernel_rfl) (by kernel_rfl) (fun _ _ _ h => h) (Or.inl ⟨by kernel_rfl, ?_⟩) (by assumption) ?_
      rotate_left
      · intro w hSw
        go_simp
        try with_reducible rfl
      try simp only [Act.put, List.setIfInBounds_toArray, List.set_cons_zero, List.set_cons_succ]
      refine wpAnyH_done (by kernel_rfl) ?_ _
      refine lastPost_run (o := ⟨none, _, _, _, _, _⟩) rfl (fun K hK => ?_)
      go_simp
      refine hK.out _ _ ?_
      clear hK K
      have hlf : D.length + 1 = (D ++ [(a, (h - tk + lv, t))]).length := by simp
      clear A1f A2f A3f
      generalize hDef : D ++ [(a, (h - tk + lv, t))] = Df at Vf hlf
      have HDf := Lib.hid hDef
      clear hDef
      rw [hlf] at Vf If Nf ⊢
      generalize wf.setCell ⟨g, 7, none⟩ (.slice dAf Df.length dcf) = uf at Vf If Nf ⊢
      have Vf := Lib.hid Vf
      have hDf : Df.length ≤ 100001 := by omega
      clear Ef Cf scf sff hownf hgrowf
      have i0ft := (If).cell 0
      have i1ft := (If).cell 1
      have i2ft := (If).cell 2
      go_wp2_with fail
      refine (c22 _ _ _ _).mono ?_
      rintro e wxft ⟨rfl, bft⟩
      have VXft := Lib.hid (Vf.out.next bft)
      have IXft := (If).next bft
      have NXft := (Nf).next bft
      clear bft i0ft i1ft i2ft
      rw [he]
      go_wp2_with fail
      go_ret
      exact ⟨by rw [HX.out]; simp, _, _, VXft.out, fun _ => by rw [HNW.out, ← HDf.out]; simp [he]⟩
    have f10 : (o == 10) = false := beq_eq_false_iff_ne.2 h10
    have F10 := h10
    by_cases h11 : o = 11
    · subst h11
      clear f33 f34 f10 h33 h34 h10 F33 F34 F10
      have he : gEnds 11 = false := by decide
      go_wp2_with fail
      generalize w6.alloc (.cells #[.int .i64 (h - tk + lv), .int .i64 t] 122) = w7 at V7 I7 S7 N7 i0 i1 i2 n0 n1 s0 s1 ⊢
      have Eg2 := (V7.out.alloc (.cells #[.int .i64 a, .int .i64 (h - tk + lv), .int .i64 t] 128)).drew
      have A1g2 : (w7.drew).cell? ⟨g, 7, none⟩ = some (.slice dA D.length dc) ∧ (w7.drew).cell? ⟨W.heap.size, 1, none⟩ = some (.int .i64 a) ∧ (w7.drew).cell? ⟨w6.heap.size, 0, none⟩ = some (.int .i64 (h - tk + lv)) ∧ (w7.drew).cell? ⟨w6.heap.size, 1, none⟩ = some (.int .i64 t) := ⟨V7.out.c7, I7.cell 1, N7.cell 0, N7.cell 1⟩
      have A2g2 : (w7.alloc (.cells #[.int .i64 a, .int .i64 (h - tk + lv), .int .i64 t] 128)).drew.cell? ⟨g, 7, none⟩ = some (.slice dA D.length dc) ∧ (w7.alloc (.cells #[.int .i64 a, .int .i64 (h - tk + lv), .int .i64 t] 128)).drew.cell? ⟨W.heap.size, 1, none⟩ = some (.int .i64 a) ∧ (w7.alloc (.cells #[.int .i64 a, .int .i64 (h - tk + lv), .int .i64 t] 128)).drew.cell? ⟨w6.heap.size, 0, none⟩ = some (.int .i64 (h - tk + lv)) ∧ (w7.alloc (.cells #[.int .i64 a, .int .i64 (h - tk + lv), .int .i64 t] 128)).drew.cell? ⟨w6.heap.size, 1, none⟩ = some (.int .i64 t) := ⟨Eg2.c7, (((I7).alloc (.cells #[.int .i64 a, .int .i64 (h - tk + lv), .int .i64 t] 128)).drew).cell 1, (((N7).alloc (.cells #[.int .i64 a, .int .i64 (h - tk + lv), .int .i64 t] 128)).drew).cell 0, (((N7).alloc (.cells #[.int .i64 a, .int .i64 (h - tk + lv), .int .i64 t] 128)).drew).cell 1⟩
      have hvg2 := V7.out.chk.lt
      refine wp_region_last (S := fun X => X.cell? ⟨g, 7, none⟩ = some (.slice dA D.length dc) ∧ X.cell? ⟨W.heap.size, 1, none⟩ = some (.int .i64 a) ∧ X.cell? ⟨w6.heap.size, 0, none⟩ = some (.int .i64 (h - tk + lv)) ∧ X.cell? ⟨w6.heap.size, 1, none⟩ = some (.int .i64 t)) 13 (by kernel_rfl) (by kernel_rfl) (by kernel_rfl) (by kernel_rfl) A1g2 (fun hHeld => ?_)
      refine wpAnyH_take (i := 0) (oi := ⟨some 86, _, _, _, _, _⟩) (v := ?_) rfl (by kernel_rfl) (by kernel_rfl) (by kernel_rfl) (fun _ _ _ h => h) (Or.inl ⟨by kernel_rfl, ?_⟩) (by assumption) ?_
      rotate_left
      · intro w hSw
        go_simp
        try with_reducible rfl
      try simp only [Act.put, List.setIfInBounds_toArray, List.set_cons_zero, List.set_cons_succ]
      refine wpAnyH_take (i := 1) (oi := ⟨some 87, _, _, _, _, _⟩) (v := ?_) rfl (by kernel_rfl) (by kernel_rfl) (by kernel_rfl) (fun _ _ _ h => h) (Or.inl ⟨by kernel_rfl, ?_⟩) (by assumption) ?_
      rotate_left
      · intro w hSw
        go_simp
        try with_reducible rfl
      try simp only [Act.put, List.setIfInBounds_toArray, List.set_cons_zero, List.set_cons_succ]
      refine wpAnyH_take (i := 2) (oi := ⟨some 88, _, _, _, _, _⟩) (v := ?_) rfl (by kernel_rfl) (by kernel_rfl) (by kernel_rfl) (fun _ _ _ h => h) (Or.inl ⟨by kernel_rfl, ?_⟩) (by assumption) ?_
      rotate_left
      · intro w hSw
        go_simp
        try with_reducible rfl
      try simp only [Act.put, List.setIfInBounds_toArray, List.set_cons_zero, List.set_cons_succ]
      refine wpAnyH_take (i := 3) (oi := ⟨some 89, _, _, _, _, _⟩) (v := ?_) rfl (by kernel_rfl) (by kernel_rfl) (by kernel_rfl) (fun _ _ _ h => h) (Or.inl ⟨by kernel_rfl, ?_⟩) (by assumption) ?_
      rotate_left
      · intro w hSw
        go_simp
        try with_reducible rfl
      try simp only [Act.put, List.setIfInBounds_toArray, List.set_cons_zero, List.set_cons_succ]
      refine wpAnyH_take (i := 4) (oi := ⟨some 90, _, _, _, _, _⟩) (v := ?_) rfl (by kernel_rfl) (by kernel_rfl) (by kernel_rfl) (fun _ _ _ h => h) (Or.inl ⟨by kernel_rfl, ?_⟩) (by assumption) ?_
      rotate_left
      · intro w hSw
        go_simp
        try with_reducible rfl
      try simp only [Act.put, List.setIfInBounds_toArray, List.set_cons_zero, List.set_cons_succ]
      refine wpAnyH_take (i := 5) (oi := ⟨some 91, _, _, _, _, _⟩) (v := ?_) rfl (by kernel_rfl) (by kernel_rfl) (by kernel_rfl) (fun _ _ _ h => h) (Or.inl ⟨by kernel_rfl, ?_⟩) (by assumption) ?_
      rotate_left
      · intro w hSw
        go_simp
        try with_reducible rfl
      try simp only [Act.put, List.setIfInBounds_toArray, List.set_cons_zero, List.set_cons_succ]
      refine wpAnyH_take (i := 6) (oi := ⟨some 92, _, _, _, _, _⟩) (v := ?_) rfl (by kernel_rfl) (by kernel_rfl) (by kernel_rfl) (fun _ _ _ h => h) (Or.inl ⟨by kernel_rfl, ?_⟩) (by assumption) ?_
      rotate_left
      · intro w hSw
        go_simp
        try with_reducible rfl
      try simp only [Act.put, List.setIfInBounds_toArray, List.set_cons_zero, List.set_cons_succ]
      refine wpAnyH_take (i := 7) (oi := ⟨some 93, _, _, _, _, _⟩) (v := ?_) rfl (by kernel_rfl) (by kernel_rfl) (by kernel_rfl) (fun _ _ _ h => h) (Or.inl ⟨by kernel_rfl, ?_⟩) (by assumption) ?_
      rotate_left
      · intro w hSw
        go_simp
        try with_reducible rfl
      try simp only [Act.put, List.setIfInBounds_toArray, List.set_cons_zero, List.set_cons_succ]
      refine wpAnyH_take (i := 8) (oi := ⟨some 94, _, _, _, _, _⟩) (v := ?_) rfl (by kernel_rfl) (by kernel_rfl) (by kernel_rfl) (fun _ _ _ h => h) (Or.inl ⟨by kernel_rfl, ?_⟩) (by assumption) ?_
      rotate_left
      · intro w hSw
        go_simp
        try with_reducible rfl
      try simp only [Act.put, List.setIfInBounds_toArray, List.set_cons_zero, List.set_cons_succ]
      refine wpAnyH_ready (rs := [9]) (by kernel_rfl) (by simp) ?_
      refine AllReadyH.cons (o := ⟨some 95, _, _, _, _, _⟩) rfl (fun K hK => ?_) AllReadyH.nil
      go_simp
      refine hK.out _ _ ?_ (fun hHeld => ?_)
      · exact A2g2
      clear hK K
      try simp only [Act.put, List.setIfInBounds_toArray, List.set_cons_zero, List.set_cons_succ]
      refine wpAnyH_ready (rs := [10]) (by kernel_rfl) (by simp) ?_
      refine AllReadyH.cons (o := ⟨some 96, _, _, _, _, _⟩) rfl (fun K hK => ?_) AllReadyH.nil
      refine step_append_que _ (by rfl) (.tmp 90) (.tmp 95) 119 (by rfl) (g + 1) 128 ti _ 3 24 Tryd.underlying119 hi0 hz0 hz1 hz2 rfl (by omega) (.slice dA D.length dc) D.length (D.flatMap nxCells) (by rfl) ((V7.out.hd.alloc _).drew) ⟨w7.heap.size, 0, none⟩ 1 1 [.int .i64 a, .int .i64 (h - tk + lv), .int .i64 t] (by rfl) rfl (World.news_of_block (cs := #[.int .i64 a, .int .i64 (h - tk + lv), .int .i64 t]) (t := 128) (fr := (0, 0)) (heap_alloc_new w7 _)) (by simp [Value.oneCell']) (by unfold maxLen; omega) (by omega) (by have := V7.out.chk.lt; simp; omega) ?_
      intro vg2 wg2 howng2 hgrowg2
      obtain ⟨dAg2, dcg2, rfl⟩ := howng2.form
      have Cg2 := ((V7.out.hd.alloc _).drew).blk ((V7.out.chk.alloc (.cells #[.int .i64 a, .int .i64 (h - tk + lv), .int .i64 t] 128)).drew) hgrowg2 (by decide)
      have scg2 : wg2.cell? ⟨g, 7, none⟩ = some (.slice dA D.length dc) := Cg2.cell 7
      have sfg2 := Cg2.frozen 7
      have Ikg2 := ((V7.out.hd.alloc _).drew).blk (((I7).alloc (.cells #[.int .i64 a, .int .i64 (h - tk + lv), .int .i64 t] 128)).drew) hgrowg2 (by decide)
      have Nkg2 := ((V7.out.hd.alloc _).drew).blk (((N7).alloc (.cells #[.int .i64 a, .int .i64 (h - tk + lv), .int .i64 t] 128)).drew) hgrowg2 (by decide)
      have A3g2 : wg2.cell? ⟨g, 7, none⟩ = some (.slice dA D.length dc) ∧ wg2.cell? ⟨W.heap.size, 1, none⟩ = some (.int .i64 a) ∧ wg2.cell? ⟨w6.heap.size, 0, none⟩ = some (.int .i64 (h - tk + lv)) ∧ wg2.cell? ⟨w6.heap.size, 1, none⟩ = some (.int .i64 t) := ⟨scg2, Ikg2.cell 1, Nkg2.cell 0, Nkg2.cell 1⟩
      have Vg2 := Eg2.push (y := (a, (h - tk + lv, t))) hgrowg2 howng2 rfl
      have Ig2 := Eg2.pushBlk (((I7).alloc (.cells #[.int .i64 a, .int .i64 (h - tk + lv), .int .i64 t] 128)).drew) (by decide) (by decide) hgrowg2 (dv' := .slice dAg2 (D.length + 1) dcg2)
      have Ng2 := Eg2.pushBlk (((N7).alloc (.cells #[.int .i64 a, .int .i64 (h - tk + lv), .int .i64 t] 128)).drew) (by decide) (by decide) hgrowg2 (dv' := .slice dAg2 (D.length + 1) dcg2)
      refine hK.out _ _ ?_ (fun hHeld => ?_)
      · exact A3g2
      clear hK K
      try simp only [Act.put, List.setIfInBounds_toArray, List.set_cons_zero, List.set_cons_succ]
      refine wpAnyH_take (i := 11) (oi := ⟨some 97, _, _, _, _, _⟩) (v := ?_) rfl (by kernel_rfl) (by kernel_rfl) (by kernel_rfl) (fun _ _ _ h => h) (Or.inl ⟨by kernel_rfl, ?_⟩) (by assumption) ?_
      rotate_left
      · intro w hSw
        go_simp
        try with_reducible rfl
      try simp only [Act.put, List.setIfInBounds_toArray, List.set_cons_zero, List.set_cons_succ]
      refine wpAnyH_take (i := 12) (oi := ⟨some 98, _, _, _, _, _⟩) (v := ?_) rfl (by kernel_rfl) (by kernel_rfl) (by kernel_rfl) (fun _ _ _ h => h) (Or.inl ⟨by kernel_rfl, ?_⟩) (by assumption) ?_
      rotate_left
      · intro w hSw
        go_simp
        try with_reducible rfl
      try simp only [Act.put, List.setIfInBounds_toArray, List.set_cons_zero, List.set_cons_succ]
      refine wpAnyH_done (by kernel_rfl) ?_ _
      refine lastPost_run (o := ⟨none, _, _, _, _, _⟩) rfl (fun K hK => ?_)
      go_simp
      refine hK.out _ _ ?_
      clear hK K
      have hlg2 : D.length + 1 = (D ++ [(a, (h - tk + lv, t))]).length := by simp
      clear A1g2 A2g2 A3g2
      generalize hDeg2 : D ++ [(a, (h - tk + lv, t))] = Dg2 at Vg2 hlg2
      have HDg2 := Lib.hid hDeg2
      clear hDeg2
      rw [hlg2] at Vg2 Ig2 Ng2 ⊢
      generalize wg2.setCell ⟨g, 7, none⟩ (.slice dAg2 Dg2.length dcg2) = ug2 at Vg2 Ig2 Ng2 ⊢
      have Vg2 := Lib.hid Vg2
      have hDg2 : Dg2.length ≤ 100002 := by omega
      clear Eg2 Cg2 scg2 sfg2 howng2 hgrowg2
      have i0g2t := (Ig2).cell 0
      have i1g2t := (Ig2).cell 1
      have i2g2t := (Ig2).cell 2
      go_wp2_with fail
      refine (c22 _ _ _ _).mono ?_
      rintro e wxg2t ⟨rfl, bg2t⟩
      have VXg2t := Lib.hid (Vg2.out.next bg2t)
      have IXg2t := (Ig2).next bg2t
      have NXg2t := (Ng2).next bg2t
      clear bg2t i0g2t i1g2t i2g2t
      rw [he]
      go_wp2_with fail

      have Eg2tz := (VXg2t.out.alloc (.cells #[.int .i64 ((k : Int) + 1), .int .i64 (h - tk + lv), .int .i64 (t)] 128)).drew
      have A1g2tz : (wxg2t.drew).cell? ⟨g, 7, none⟩ = some (.slice dAg2 Dg2.length dcg2) ∧ (wxg2t.drew).cell? ⟨w6.heap.size, 0, none⟩ = some (.int .i64 (h - tk + lv)) ∧ (wxg2t.drew).cell? ⟨w6.heap.size, 1, none⟩ = some (.int .i64 (t)) := ⟨VXg2t.out.c7, NXg2t.cell 0, NXg2t.cell 1⟩
      have A2g2tz : (wxg2t.alloc (.cells #[.int .i64 ((k : Int) + 1), .int .i64 (h - tk + lv), .int .i64 (t)] 128)).drew.cell? ⟨g, 7, none⟩ = some (.slice dAg2 Dg2.length dcg2) ∧ (wxg2t.alloc (.cells #[.int .i64 ((k : Int) + 1), .int .i64 (h - tk + lv), .int .i64 (t)] 128)).drew.cell? ⟨w6.heap.size, 0, none⟩ = some (.int .i64 (h - tk + lv)) ∧ (wxg2t.alloc (.cells #[.int .i64 ((k : Int) + 1), .int .i64 (h - tk + lv), .int .i64 (t)] 128)).drew.cell? ⟨w6.heap.size, 1, none⟩ = some (.int .i64 (t)) := ⟨Eg2tz.c7, (((NXg2t).alloc (.cells #[.int .i64 ((k : Int) + 1), .int .i64 (h - tk + lv), .int .i64 (t)] 128)).drew).cell 0, (((NXg2t).alloc (.cells #[.int .i64 ((k : Int) + 1), .int .i64 (h - tk + lv), .int .i64 (t)] 128)).drew).cell 1⟩
      have hvg2tz := VXg2t.out.chk.lt
      refine wp_region_last (S := fun X => X.cell? ⟨g, 7, none⟩ = some (.slice dAg2 Dg2.length dcg2) ∧ X.cell? ⟨w6.heap.size, 0, none⟩ = some (.int .i64 (h - tk + lv)) ∧ X.cell? ⟨w6.heap.size, 1, none⟩ = some (.int .i64 (t))) 13 (by kernel_rfl) (by kernel_rfl) (by kernel_rfl) (by kernel_rfl) A1g2tz (fun hHeld => ?_)
      refine wpAnyH_take (i := 0) (oi := ⟨some 102, _, _, _, _, _⟩) (v := ?_) rfl (by kernel_rfl) (by kernel_rfl) (by kernel_rfl) (fun _ _ _ h => h) (Or.inl ⟨by kernel_rfl, ?_⟩) (by assumption) ?_
      rotate_left
      · intro w hSw
        go_simp
        try with_reducible rfl
      try simp only [Act.put, List.setIfInBounds_toArray, List.set_cons_zero, List.set_cons_succ]
      refine wpAnyH_take (i := 1) (oi := ⟨some 103, _, _, _, _, _⟩) (v := ?_) rfl (by kernel_rfl) (by kernel_rfl) (by kernel_rfl) (fun _ _ _ h => h) (Or.inl ⟨by kernel_rfl, ?_⟩) (by assumption) ?_
      rotate_left
      · intro w hSw
        go_simp
        try with_reducible rfl
      try simp only [Act.put, List.setIfInBounds_toArray, List.set_cons_zero, List.set_cons_succ]
      refine wpAnyH_take (i := 2) (oi := ⟨some 104, _, _, _, _, _⟩) (v := ?_) rfl (by kernel_rfl) (by kernel_rfl) (by kernel_rfl) (fun _ _ _ h => h) (Or.inl ⟨by kernel_rfl, ?_⟩) (by assumption) ?_
      rotate_left
      · intro w hSw
        go_simp
        try with_reducible rfl
      try simp only [Act.put, List.setIfInBounds_toArray, List.set_cons_zero, List.set_cons_succ]
      refine wpAnyH_take (i := 3) (oi := ⟨some 105, _, _, _, _, _⟩) (v := ?_) rfl (by kernel_rfl) (by kernel_rfl) (by kernel_rfl) (fun _ _ _ h => h) (Or.inl ⟨by kernel_rfl, ?_⟩) (by assumption) ?_
      rotate_left
      · intro w hSw
        go_simp
        try with_reducible rfl
      try simp only [Act.put, List.setIfInBounds_toArray, List.set_cons_zero, List.set_cons_succ]
      refine wpAnyH_take (i := 4) (oi := ⟨some 106, _, _, _, _, _⟩) (v := ?_) rfl (by kernel_rfl) (by kernel_rfl) (by kernel_rfl) (fun _ _ _ h => h) (Or.inl ⟨by kernel_rfl, ?_⟩) (by assumption) ?_
      rotate_left
      · intro w hSw
        go_simp
        try with_reducible rfl
      try simp only [Act.put, List.setIfInBounds_toArray, List.set_cons_zero, List.set_cons_succ]
      refine wpAnyH_take (i := 5) (oi := ⟨some 107, _, _, _, _, _⟩) (v := ?_) rfl (by kernel_rfl) (by kernel_rfl) (by kernel_rfl) (fun _ _ _ h => h) (Or.inl ⟨by kernel_rfl, ?_⟩) (by assumption) ?_
      rotate_left
      · intro w hSw
        go_simp
        try with_reducible rfl
      try simp only [Act.put, List.setIfInBounds_toArray, List.set_cons_zero, List.set_cons_succ]
      refine wpAnyH_take (i := 6) (oi := ⟨some 108, _, _, _, _, _⟩) (v := ?_) rfl (by kernel_rfl) (by kernel_rfl) (by kernel_rfl) (fun _ _ _ h => h) (Or.inl ⟨by kernel_rfl, ?_⟩) (by assumption) ?_
      rotate_left
      · intro w hSw
        go_simp
        try with_reducible rfl
      try simp only [Act.put, List.setIfInBounds_toArray, List.set_cons_zero, List.set_cons_succ]
      refine wpAnyH_take (i := 7) (oi := ⟨some 109, _, _, _, _, _⟩) (v := ?_) rfl (by kernel_rfl) (by kernel_rfl) (by kernel_rfl) (fun _ _ _ h => h) (Or.inl ⟨by kernel_rfl, ?_⟩) (by assumption) ?_
      rotate_left
      · intro w hSw
        go_simp
        try with_reducible rfl
      try simp only [Act.put, List.setIfInBounds_toArray, List.set_cons_zero, List.set_cons_succ]
      refine wpAnyH_take (i := 8) (oi := ⟨some 110, _, _, _, _, _⟩) (v := ?_) rfl (by kernel_rfl) (by kernel_rfl) (by kernel_rfl) (fun _ _ _ h => h) (Or.inl ⟨by kernel_rfl, ?_⟩) (by assumption) ?_
      rotate_left
      · intro w hSw
        go_simp
        try with_reducible rfl
      try simp only [Act.put, List.setIfInBounds_toArray, List.set_cons_zero, List.set_cons_succ]
      refine wpAnyH_ready (rs := [9]) (by kernel_rfl) (by simp) ?_
      refine AllReadyH.cons (o := ⟨some 111, _, _, _, _, _⟩) rfl (fun K hK => ?_) AllReadyH.nil
      go_simp
      refine hK.out _ _ ?_ (fun hHeld => ?_)
      · exact A2g2tz
      clear hK K
      try simp only [Act.put, List.setIfInBounds_toArray, List.set_cons_zero, List.set_cons_succ]
      refine wpAnyH_ready (rs := [10]) (by kernel_rfl) (by simp) ?_
      refine AllReadyH.cons (o := ⟨some 112, _, _, _, _, _⟩) rfl (fun K hK => ?_) AllReadyH.nil
      refine step_append_que _ (by rfl) (.tmp 106) (.tmp 111) 119 (by rfl) (g + 1) 128 ti _ 3 24 Tryd.underlying119 hi0 hz0 hz1 hz2 rfl (by omega) (.slice dAg2 Dg2.length dcg2) Dg2.length (Dg2.flatMap nxCells) (by rfl) ((VXg2t.out.hd.alloc _).drew) ⟨wxg2t.heap.size, 0, none⟩ 1 1 [.int .i64 ((k : Int) + 1), .int .i64 (h - tk + lv), .int .i64 (t)] (by rfl) rfl (World.news_of_block (cs := #[.int .i64 ((k : Int) + 1), .int .i64 (h - tk + lv), .int .i64 (t)]) (t := 128) (fr := (0, 0)) (heap_alloc_new wxg2t _)) (by simp [Value.oneCell']) (by unfold maxLen; omega) (by omega) (by have := VXg2t.out.chk.lt; simp; omega) ?_
      intro vg2tz wg2tz howng2tz hgrowg2tz
      obtain ⟨dAg2tz, dcg2tz, rfl⟩ := howng2tz.form
      have Cg2tz := ((VXg2t.out.hd.alloc _).drew).blk ((VXg2t.out.chk.alloc (.cells #[.int .i64 ((k : Int) + 1), .int .i64 (h - tk + lv), .int .i64 (t)] 128)).drew) hgrowg2tz (by decide)
      have scg2tz : wg2tz.cell? ⟨g, 7, none⟩ = some (.slice dAg2 Dg2.length dcg2) := Cg2tz.cell 7
      have sfg2tz := Cg2tz.frozen 7
      have Nkg2tz := ((VXg2t.out.hd.alloc _).drew).blk (((NXg2t).alloc (.cells #[.int .i64 ((k : Int) + 1), .int .i64 (h - tk + lv), .int .i64 (t)] 128)).drew) hgrowg2tz (by decide)
      have A3g2tz : wg2tz.cell? ⟨g, 7, none⟩ = some (.slice dAg2 Dg2.length dcg2) ∧ wg2tz.cell? ⟨w6.heap.size, 0, none⟩ = some (.int .i64 (h - tk + lv)) ∧ wg2tz.cell? ⟨w6.heap.size, 1, none⟩ = some (.int .i64 (t)) := ⟨scg2tz, Nkg2tz.cell 0, Nkg2tz.cell 1⟩
      have Vg2tz := Eg2tz.push (y := ((k : Int) + 1, (h - tk + lv, t))) hgrowg2tz howng2tz rfl
      have Ig2tz := Eg2tz.pushBlk (((IXg2t).alloc (.cells #[.int .i64 ((k : Int) + 1), .int .i64 (h - tk + lv), .int .i64 (t)] 128)).drew) (by decide) (by decide) hgrowg2tz (dv' := .slice dAg2tz (Dg2.length + 1) dcg2tz)
      have Ng2tz := Eg2tz.pushBlk (((NXg2t).alloc (.cells #[.int .i64 ((k : Int) + 1), .int .i64 (h - tk + lv), .int .i64 (t)] 128)).drew) (by decide) (by decide) hgrowg2tz (dv' := .slice dAg2tz (Dg2.length + 1) dcg2tz)
      refine hK.out _ _ ?_ (fun hHeld => ?_)
      · exact A3g2tz
      clear hK K
      try simp only [Act.put, List.setIfInBounds_toArray, List.set_cons_zero, List.set_cons_succ]
      refine wpAnyH_take (i := 11) (oi := ⟨some 113, _, _, _, _, _⟩) (v := ?_) rfl (by kernel_rfl) (by kernel_rfl) (by kernel_rfl) (fun _ _ _ h => h) (Or.inl ⟨by kernel_rfl, ?_⟩) (by assumption) ?_
      rotate_left
      · intro w hSw
        go_simp
        try with_reducible rfl
      try simp only [Act.put, List.setIfInBounds_toArray, List.set_cons_zero, List.set_cons_succ]
      refine wpAnyH_take (i := 12) (oi := ⟨some 114, _, _, _, _, _⟩) (v := ?_) rfl (by kernel_rfl) (by kernel_rfl) (by kernel_rfl) (fun _ _ _ h => h) (Or.inl ⟨by kernel_rfl, ?_⟩) (by assumption) ?_
      rotate_left
      · intro w hSw
        go_simp
        try with_reducible rfl
      try simp only [Act.put, List.setIfInBounds_toArray, List.set_cons_zero, List.set_cons_succ]
      refine wpAnyH_done (by kernel_rfl) ?_ _
      refine lastPost_run (o := ⟨none, _, _, _, _, _⟩) rfl (fun K hK => ?_)
      go_simp
      refine hK.out _ _ ?_
      clear hK K
      have hlg2tz : Dg2.length + 1 = (Dg2 ++ [((k : Int) + 1, (h - tk + lv, t))]).length := by simp
      clear A1g2tz A2g2tz A3g2tz
      generalize hDeg2tz : Dg2 ++ [((k : Int) + 1, (h - tk + lv, t))] = Dg2tz at Vg2tz hlg2tz
      have HDg2tz := Lib.hid hDeg2tz
      clear hDeg2tz
      rw [hlg2tz] at Vg2tz Ig2tz Ng2tz ⊢
      generalize wg2tz.setCell ⟨g, 7, none⟩ (.slice dAg2tz Dg2tz.length dcg2tz) = ug2tz at Vg2tz Ig2tz Ng2tz ⊢
      have Vg2tz := Lib.hid Vg2tz
      have hDg2tz : Dg2tz.length ≤ 100002 := by omega
      clear Eg2tz Cg2tz scg2tz sfg2tz howng2tz hgrowg2tz
      go_wp2_with fail
      go_ret
      exact ⟨by rw [HX.out]; simp, _, _, Vg2tz.out, fun _ => by rw [HNW.out, ← HDg2tz.out, ← HDg2.out]; simp [he]⟩
    have f11 : (o == 11) = false := beq_eq_false_iff_ne.2 h11
    have F11 := h11
    have i0e := (I7).cell 0
    have i1e := (I7).cell 1
    have i2e := (I7).cell 2
    go_wp2_with fail
    refine (c22 _ _ _ _).mono ?_
    rintro e wxe ⟨rfl, be⟩
    have VXe := Lib.hid (V7.out.next be)
    have IXe := (I7).next be
    have NXe := (N7).next be
    clear be i0e i1e i2e
    cases he : gEnds o
    · have HE := Lib.hid he
      clear he
      go_wp2_with fail

      have Eez := (VXe.out.alloc (.cells #[.int .i64 ((k : Int) + 1), .int .i64 (h - tk + lv), .int .i64 (t)] 128)).drew
      have A1ez : (wxe.drew).cell? ⟨g, 7, none⟩ = some (.slice dA D.length dc) ∧ (wxe.drew).cell? ⟨w6.heap.size, 0, none⟩ = some (.int .i64 (h - tk + lv)) ∧ (wxe.drew).cell? ⟨w6.heap.size, 1, none⟩ = some (.int .i64 (t)) := ⟨VXe.out.c7, NXe.cell 0, NXe.cell 1⟩
      have A2ez : (wxe.alloc (.cells #[.int .i64 ((k : Int) + 1), .int .i64 (h - tk + lv), .int .i64 (t)] 128)).drew.cell? ⟨g, 7, none⟩ = some (.slice dA D.length dc) ∧ (wxe.alloc (.cells #[.int .i64 ((k : Int) + 1), .int .i64 (h - tk + lv), .int .i64 (t)] 128)).drew.cell? ⟨w6.heap.size, 0, none⟩ = some (.int .i64 (h - tk + lv)) ∧ (wxe.alloc (.cells #[.int .i64 ((k : Int) + 1), .int .i64 (h - tk + lv), .int .i64 (t)] 128)).drew.cell? ⟨w6.heap.size, 1, none⟩ = some (.int .i64 (t)) := ⟨Eez.c7, (((NXe).alloc (.cells #[.int .i64 ((k : Int) + 1), .int .i64 (h - tk + lv), .int .i64 (t)] 128)).drew).cell 0, (((NXe).alloc (.cells #[.int .i64 ((k : Int) + 1), .int .i64 (h - tk + lv), .int .i64 (t)] 128)).drew).cell 1⟩
      have hvez := VXe.out.chk.lt
      refine wp_region_last (S := fun X => X.cell? ⟨g, 7, none⟩ = some (.slice dA D.length dc) ∧ X.cell? ⟨w6.heap.size, 0, none⟩ = some (.int .i64 (h - tk + lv)) ∧ X.cell? ⟨w6.heap.size, 1, none⟩ = some (.int .i64 (t))) 13 (by kernel_rfl) (by kernel_rfl) (by kernel_rfl) (by kernel_rfl) A1ez (fun hHeld => ?_)
      refine wpAnyH_take (i := 0) (oi := ⟨some 102, _, _, _, _, _⟩) (v := ?_) rfl (by kernel_rfl) (by kernel_rfl) (by kernel_rfl) (fun _ _ _ h => h) (Or.inl ⟨by kernel_rfl, ?_⟩) (by assumption) ?_
      rotate_left
      · intro w hSw
        go_simp
        try with_reducible rfl
      try simp only [Act.put, List.setIfInBounds_toArray, List.set_cons_zero, List.set_cons_succ]
      refine wpAnyH_take (i := 1) (oi := ⟨some 103, _, _, _, _, _⟩) (v := ?_) rfl (by kernel_rfl) (by kernel_rfl) (by kernel_rfl) (fun _ _ _ h => h) (Or.inl ⟨by kernel_rfl, ?_⟩) (by assumption) ?_
      rotate_left
      · intro w hSw
        go_simp
        try with_reducible rfl
      try simp only [Act.put, List.setIfInBounds_toArray, List.set_cons_zero, List.set_cons_succ]
      refine wpAnyH_take (i := 2) (oi := ⟨some 104, _, _, _, _, _⟩) (v := ?_) rfl (by kernel_rfl) (by kernel_rfl) (by kernel_rfl) (fun _ _ _ h => h) (Or.inl ⟨by kernel_rfl, ?_⟩) (by assumption) ?_
      rotate_left
      · intro w hSw
        go_simp
        try with_reducible rfl
      try simp only [Act.put, List.setIfInBounds_toArray, List.set_cons_zero, List.set_cons_succ]
      refine wpAnyH_take (i := 3) (oi := ⟨some 105, _, _, _, _, _⟩) (v := ?_) rfl (by kernel_rfl) (by kernel_rfl) (by kernel_rfl) (fun _ _ _ h => h) (Or.inl ⟨by kernel_rfl, ?_⟩) (by assumption) ?_
      rotate_left
      · intro w hSw
        go_simp
        try with_reducible rfl
      try simp only [Act.put, List.setIfInBounds_toArray, List.set_cons_zero, List.set_cons_succ]
      refine wpAnyH_take (i := 4) (oi := ⟨some 106, _, _, _, _, _⟩) (v := ?_) rfl (by kernel_rfl) (by kernel_rfl) (by kernel_rfl) (fun _ _ _ h => h) (Or.inl ⟨by kernel_rfl, ?_⟩) (by assumption) ?_
      rotate_left
      · intro w hSw
        go_simp
        try with_reducible rfl
      try simp only [Act.put, List.setIfInBounds_toArray, List.set_cons_zero, List.set_cons_succ]
      refine wpAnyH_take (i := 5) (oi := ⟨some 107, _, _, _, _, _⟩) (v := ?_) rfl (by kernel_rfl) (by kernel_rfl) (by kernel_rfl) (fun _ _ _ h => h) (Or.inl ⟨by kernel_rfl, ?_⟩) (by assumption) ?_
      rotate_left
      · intro w hSw
        go_simp
        try with_reducible rfl
      try simp only [Act.put, List.setIfInBounds_toArray, List.set_cons_zero, List.set_cons_succ]
      refine wpAnyH_take (i := 6) (oi := ⟨some 108, _, _, _, _, _⟩) (v := ?_) rfl (by kernel_rfl) (by kernel_rfl) (by kernel_rfl) (fun _ _ _ h => h) (Or.inl ⟨by kernel_rfl, ?_⟩) (by assumption) ?_
      rotate_left
      · intro w hSw
        go_simp
        try with_reducible rfl
      try simp only [Act.put, List.setIfInBounds_toArray, List.set_cons_zero, List.set_cons_succ]
      refine wpAnyH_take (i := 7) (oi := ⟨some 109, _, _, _, _, _⟩) (v := ?_) rfl (by kernel_rfl) (by kernel_rfl) (by kernel_rfl) (fun _ _ _ h => h) (Or.inl ⟨by kernel_rfl, ?_⟩) (by assumption) ?_
      rotate_left
      · intro w hSw
        go_simp
        try with_reducible rfl
      try simp only [Act.put, List.setIfInBounds_toArray, List.set_cons_zero, List.set_cons_succ]
      refine wpAnyH_take (i := 8) (oi := ⟨some 110, _, _, _, _, _⟩) (v := ?_) rfl (by kernel_rfl) (by kernel_rfl) (by kernel_rfl) (fun _ _ _ h => h) (Or.inl ⟨by kernel_rfl, ?_⟩) (by assumption) ?_
      rotate_left
      · intro w hSw
        go_simp
        try with_reducible rfl
      try simp only [Act.put, List.setIfInBounds_toArray, List.set_cons_zero, List.set_cons_succ]
      refine wpAnyH_ready (rs := [9]) (by kernel_rfl) (by simp) ?_
      refine AllReadyH.cons (o := ⟨some 111, _, _, _, _, _⟩) rfl (fun K hK => ?_) AllReadyH.nil
      go_simp
      refine hK.out _ _ ?_ (fun hHeld => ?_)
      · exact A2ez
      clear hK K
      try simp only [Act.put, List.setIfInBounds_toArray, List.set_cons_zero, List.set_cons_succ]
      refine wpAnyH_ready (rs := [10]) (by kernel_rfl) (by simp) ?_
      refine AllReadyH.cons (o := ⟨some 112, _, _, _, _, _⟩) rfl (fun K hK => ?_) AllReadyH.nil
      refine step_append_que _ (by rfl) (.tmp 106) (.tmp 111) 119 (by rfl) (g + 1) 128 ti _ 3 24 Tryd.underlying119 hi0 hz0 hz1 hz2 rfl (by omega) (.slice dA D.length dc) D.length (D.flatMap nxCells) (by rfl) ((VXe.out.hd.alloc _).drew) ⟨wxe.heap.size, 0, none⟩ 1 1 [.int .i64 ((k : Int) + 1), .int .i64 (h - tk + lv), .int .i64 (t)] (by rfl) rfl (World.news_of_block (cs := #[.int .i64 ((k : Int) + 1), .int .i64 (h - tk + lv), .int .i64 (t)]) (t := 128) (fr := (0, 0)) (heap_alloc_new wxe _)) (by simp [Value.oneCell']) (by unfold maxLen; omega) (by omega) (by have := VXe.out.chk.lt; simp; omega) ?_
      intro vez wez hownez hgrowez
      obtain ⟨dAez, dcez, rfl⟩ := hownez.form
      have Cez := ((VXe.out.hd.alloc _).drew).blk ((VXe.out.chk.alloc (.cells #[.int .i64 ((k : Int) + 1), .int .i64 (h - tk + lv), .int .i64 (t)] 128)).drew) hgrowez (by decide)
      have scez : wez.cell? ⟨g, 7, none⟩ = some (.slice dA D.length dc) := Cez.cell 7
      have sfez := Cez.frozen 7
      have Nkez := ((VXe.out.hd.alloc _).drew).blk (((NXe).alloc (.cells #[.int .i64 ((k : Int) + 1), .int .i64 (h - tk + lv), .int .i64 (t)] 128)).drew) hgrowez (by decide)
      have A3ez : wez.cell? ⟨g, 7, none⟩ = some (.slice dA D.length dc) ∧ wez.cell? ⟨w6.heap.size, 0, none⟩ = some (.int .i64 (h - tk + lv)) ∧ wez.cell? ⟨w6.heap.size, 1, none⟩ = some (.int .i64 (t)) := ⟨scez, Nkez.cell 0, Nkez.cell 1⟩
      have Vez := Eez.push (y := ((k : Int) + 1, (h - tk + lv, t))) hgrowez hownez rfl
      have Iez := Eez.pushBlk (((IXe).alloc (.cells #[.int .i64 ((k : Int) + 1), .int .i64 (h - tk + lv), .int .i64 (t)] 128)).drew) (by decide) (by decide) hgrowez (dv' := .slice dAez (D.length + 1) dcez)
      have Nez := Eez.pushBlk (((NXe).alloc (.cells #[.int .i64 ((k : Int) + 1), .int .i64 (h - tk + lv), .int .i64 (t)] 128)).drew) (by decide) (by decide) hgrowez (dv' := .slice dAez (D.length + 1) dcez)
      refine hK.out _ _ ?_ (fun hHeld => ?_)
      · exact A3ez
      clear hK K
      try simp only [Act.put, List.setIfInBounds_toArray, List.set_cons_zero, List.set_cons_succ]
      refine wpAnyH_take (i := 11) (oi := ⟨some 113, _, _, _, _, _⟩) (v := ?_) rfl (by kernel_rfl) (by kernel_rfl) (by kernel_rfl) (fun _ _ _ h => h) (Or.inl ⟨by kernel_rfl, ?_⟩) (by assumption) ?_
      rotate_left
      · intro w hSw
        go_simp
        try with_reducible rfl
      try simp only [Act.put, List.setIfInBounds_toArray, List.set_cons_zero, List.set_cons_succ]
      refine wpAnyH_take (i := 12) (oi := ⟨some 114, _, _, _, _, _⟩) (v := ?_) rfl (by kernel_rfl) (by kernel_rfl) (by kernel_rfl) (fun _ _ _ h => h) (Or.inl ⟨by kernel_rfl, ?_⟩) (by assumption) ?_
      rotate_left
      · intro w hSw
        go_simp
        try with_reducible rfl
      try simp only [Act.put, List.setIfInBounds_toArray, List.set_cons_zero, List.set_cons_succ]
      refine wpAnyH_done (by kernel_rfl) ?_ _
      refine lastPost_run (o := ⟨none, _, _, _, _, _⟩) rfl (fun K hK => ?_)
      go_simp
      refine hK.out _ _ ?_
      clear hK K
      have hlez : D.length + 1 = (D ++ [((k : Int) + 1, (h - tk + lv, t))]).length := by simp
      clear A1ez A2ez A3ez
      generalize hDeez : D ++ [((k : Int) + 1, (h - tk + lv, t))] = Dez at Vez hlez
      have HDez := Lib.hid hDeez
      clear hDeez
      rw [hlez] at Vez Iez Nez ⊢
      generalize wez.setCell ⟨g, 7, none⟩ (.slice dAez Dez.length dcez) = uez at Vez Iez Nez ⊢
      have Vez := Lib.hid Vez
      have hDez : Dez.length ≤ 100002 := by omega
      clear Eez Cez scez sfez hownez hgrowez
      go_wp2_with fail
      go_ret
      exact ⟨by rw [HX.out]; simp, _, _, Vez.out, fun _ => by rw [HNW.out, ← HDez.out]; simp [HE.out, F33, F34, F10, F11]⟩
    · have HE := Lib.hid he
      clear he
      go_wp2_with fail
      go_ret
      exact ⟨by rw [HX.out]; simp, _, _, VXe.out, fun _ => by rw [HNW.out]; simp [HE.out, F33, F10, F11]⟩
  · go_wp2_with fail
    have B1 := Lib.hid (show Below W.heap.size W _ from (next_ (below_new W (.cells #[.int .i64 h, .int .i64 t] 122)) (below_new _ (.cells #[.int .i64 o, .int .i64 a, .int .i64 b] 23))).drew)
    have I1 := (show Blk _ (W.heap.size + 1) 23 #[.int .i64 o, .int .i64 a, .int .i64 b] from (World.size_alloc W (.cells #[.int .i64 h, .int .i64 t] 122) ▸ Blk.new (W.alloc (.cells #[.int .i64 h, .int .i64 t] 122)) 23 #[.int .i64 o, .int .i64 a, .int .i64 b])).drew
    have S1 := ((Blk.new W 122 #[.int .i64 h, .int .i64 t]).alloc (.cells #[.int .i64 o, .int .i64 a, .int .i64 b] 23)).drew
    refine (c15y hgood _ (HT.out.next B1.out)).mono ?_
    rintro e w5 ⟨rfl, b5⟩
    have B5 := Lib.hid (next_ B1.out b5)
    have V5 := Lib.hid (HV.out.next B5.out)
    have I5 := I1.next b5
    have S5 := S1.next b5
    clear b5 I1 S1
    rw [TK.out, LV.out]
    have i0 := I5.cell 0
    have i1 := I5.cell 1
    have i2 := I5.cell 2
    have s0 := S5.cell 0
    have s1 := S5.cell 1
    by_cases hlt : h < tk
    · have fl : decide (h < tk) = true := decide_eq_true hlt
      have HX := Lib.hid (show vOk ⟨o, a, b⟩ (h, t) = false by rw [HOK.out, fl]; rfl)
      clear hlt
      go_wp2_with fail
      go_ret
      exact ⟨by rw [HX.out]; simp, _, D, V5.out, fun hh => absurd (HX.out.symm.trans hh) (by decide)⟩
    have fl : decide (h < tk) = false := decide_eq_false hlt
    have hge : tk ≤ h := by omega
    clear hlt
    go_wp2_with fail
    refine (c73 ⟨o, a, b⟩ (h, t) w5).mono ?_
    rintro e w6 ⟨rfl, b6⟩
    simp only
    have V6 := Lib.hid (V5.out.next b6)
    have I6 := I5.next b6
    have S6 := S5.next b6
    clear b6 i0 i1 i2 s0 s1
    cases hx : vExit o (h, t)
    · have HX := Lib.hid (show vOk ⟨o, a, b⟩ (h, t) = false by rw [HOK.out, fl, hx]; rfl)
      clear hx
      go_wp2_with fail
      go_ret
      exact ⟨by rw [HX.out]; simp, _, D, V6.out, fun hh => absurd (HX.out.symm.trans hh) (by decide)⟩
    have HX := Lib.hid (show vOk ⟨o, a, b⟩ (h, t) = true by rw [HOK.out, fl, hx]; rfl)
    clear hx
    have V7 := Lib.hid (V6.out.alloc (.cells #[.int .i64 (h - tk + lv), .int .i64 t] 122))
    have I7 := I6.alloc (.cells #[.int .i64 (h - tk + lv), .int .i64 t] 122)
    have S7 := S6.alloc (.cells #[.int .i64 (h - tk + lv), .int .i64 t] 122)
    have N7 := Blk.new w6 122 #[.int .i64 (h - tk + lv), .int .i64 t]
    have rl : ∀ j, (Value.slice (some al) L.length lc).ownBlock = some j → j < w6.heap.size := fun j e => (V6.out.hl.lt j e).2
    have hz7 := V6.out.chk.lt
    have i0 := I7.cell 0
    have i1 := I7.cell 1
    have i2 := I7.cell 2
    have n0 := N7.cell 0
    have n1 := N7.cell 1
    have s0 := S7.cell 0
    have s1 := S7.cell 1
    have t0 := S6.cell 0
    have t1 := S6.cell 1
    have W1 : IntKind.i64.wrap (h - tk) = h - tk := IntWalk.i64_in _ (by omega)
    have W2 : IntKind.i64.wrap (h - tk + lv) = h - tk + lv := IntWalk.i64_in _ (by omega)
    have W3 : IntKind.i64.wrap (h + 1) = h + 1 := IntWalk.i64_in _ (by omega)
    have W4 : IntKind.i64.wrap ((k : Int) + 1) = (k : Int) + 1 := IntWalk.i64_in _ (by omega)
    by_cases h33 : o = 33
    · subst h33
      go_wp2_with fail
      generalize w6.alloc (.cells #[.int .i64 (h - tk + lv), .int .i64 t] 122) = w7 at V7 I7 S7 N7 i0 i1 i2 n0 n1 s0 s1 ⊢
      have Ea := (V7.out.alloc (.cells #[.int .i64 a, .int .i64 (h + 1), .int .i64 t] 128)).drew
      have A1a : (w7.drew).cell? ⟨g, 7, none⟩ = some (.slice dA D.length dc) ∧ (w7.drew).cell? ⟨W.heap.size + 1, 1, none⟩ = some (.int .i64 a) ∧ (w7.drew).cell? ⟨W.heap.size, 0, none⟩ = some (.int .i64 h) ∧ (w7.drew).cell? ⟨W.heap.size, 1, none⟩ = some (.int .i64 t) := ⟨V7.out.c7, I7.cell 1, S7.cell 0, S7.cell 1⟩
      have A2a : (w7.alloc (.cells #[.int .i64 a, .int .i64 (h + 1), .int .i64 t] 128)).drew.cell? ⟨g, 7, none⟩ = some (.slice dA D.length dc) ∧ (w7.alloc (.cells #[.int .i64 a, .int .i64 (h + 1), .int .i64 t] 128)).drew.cell? ⟨W.heap.size + 1, 1, none⟩ = some (.int .i64 a) ∧ (w7.alloc (.cells #[.int .i64 a, .int .i64 (h + 1), .int .i64 t] 128)).drew.cell? ⟨W.heap.size, 0, none⟩ = some (.int .i64 h) ∧ (w7.alloc (.cells #[.int .i64 a, .int .i64 (h + 1), .int .i64 t] 128)).drew.cell? ⟨W.heap.size, 1, none⟩ = some (.int .i64 t) := ⟨Ea.c7, (((I7).alloc (.cells #[.int .i64 a, .int .i64 (h + 1), .int .i64 t] 128)).drew).cell 1, (((S7).alloc (.cells #[.int .i64 a, .int .i64 (h + 1), .int .i64 t] 128)).drew).cell 0, (((S7).alloc (.cells #[.int .i64 a, .int .i64 (h + 1), .int .i64 t] 128)).drew).cell 1⟩
      have hva := V7.out.chk.lt
      refine wp_region_last (S := fun X => X.cell? ⟨g, 7, none⟩ = some (.slice dA D.length dc) ∧ X.cell? ⟨W.heap.size + 1, 1, none⟩ = some (.int .i64 a) ∧ X.cell? ⟨W.heap.size, 0, none⟩ = some (.int .i64 h) ∧ X.cell? ⟨W.heap.size, 1, none⟩ = some (.int .i64 t)) 18 (by kernel_rfl) (by kernel_rfl) (by kernel_rfl) (by kernel_rfl) A1a (fun hHeld => ?_)
      refine wpAnyH_take (i := 0) (oi := ⟨some 55, _, _, _, _, _⟩) (v := ?_) rfl (by kernel_rfl) (by kernel_rfl) (by kernel_rfl) (fun _ _ _ h => h) (Or.inl ⟨by kernel_rfl, ?_⟩) (by assumption) ?_
      rotate_left
      · intro w hSw
        go_simp
        try with_reducible rfl
      try simp only [Act.put, List.setIfInBounds_toArray, List.set_cons_zero, List.set_cons_succ]
      refine wpAnyH_take (i := 1) (oi := ⟨some 56, _, _, _, _, _⟩) (v := ?_) rfl (by kernel_rfl) (by kernel_rfl) (by kernel_rfl) (fun _ _ _ h => h) (Or.inl ⟨by kernel_rfl, ?_⟩) (by assumption) ?_
      rotate_left
      · intro w hSw
        go_simp
        try with_reducible rfl
      try simp only [Act.put, List.setIfInBounds_toArray, List.set_cons_zero, List.set_cons_succ]
      refine wpAnyH_take (i := 2) (oi := ⟨some 57, _, _, _, _, _⟩) (v := ?_) rfl (by kernel_rfl) (by kernel_rfl) (by kernel_rfl) (fun _ _ _ h => h) (Or.inl ⟨by kernel_rfl, ?_⟩) (by assumption) ?_
      rotate_left
      · intro w hSw
        go_simp
        try with_reducible rfl
      try simp only [Act.put, List.setIfInBounds_toArray, List.set_cons_zero, List.set_cons_succ]
      refine wpAnyH_take (i := 3) (oi := ⟨some 58, _, _, _, _, _⟩) (v := ?_) rfl (by kernel_rfl) (by kernel_rfl) (by kernel_rfl) (fun _ _ _ h => h) (Or.inl ⟨by kernel_rfl, ?_⟩) (by assumption) ?_
      rotate_left
      · intro w hSw
        go_simp
        try with_reducible rfl
      try simp only [Act.put, List.setIfInBounds_toArray, List.set_cons_zero, List.set_cons_succ]
      refine wpAnyH_take (i := 4) (oi := ⟨some 59, _, _, _, _, _⟩) (v := ?_) rfl (by kernel_rfl) (by kernel_rfl) (by kernel_rfl) (fun _ _ _ h => h) (Or.inl ⟨by kernel_rfl, ?_⟩) (by assumption) ?_
      rotate_left
      · intro w hSw
        go_simp
        try with_reducible rfl
      try simp only [Act.put, List.setIfInBounds_toArray, List.set_cons_zero, List.set_cons_succ]
      refine wpAnyH_take (i := 5) (oi := ⟨some 60, _, _, _, _, _⟩) (v := ?_) rfl (by kernel_rfl) (by kernel_rfl) (by kernel_rfl) (fun _ _ _ h => h) (Or.inl ⟨by kernel_rfl, ?_⟩) (by assumption) ?_
      rotate_left
      · intro w hSw
        go_simp
        try with_reducible rfl
      try simp only [Act.put, List.setIfInBounds_toArray, List.set_cons_zero, List.set_cons_succ]
      refine wpAnyH_take (i := 6) (oi := ⟨some 61, _, _, _, _, _⟩) (v := ?_) rfl (by kernel_rfl) (by kernel_rfl) (by kernel_rfl) (fun _ _ _ h => h) (Or.inl ⟨by kernel_rfl, ?_⟩) (by assumption) ?_
      rotate_left
      · intro w hSw
        go_simp
        try with_reducible rfl
      try simp only [Act.put, List.setIfInBounds_toArray, List.set_cons_zero, List.set_cons_succ]
      refine wpAnyH_take (i := 7) (oi := ⟨some 62, _, _, _, _, _⟩) (v := ?_) rfl (by kernel_rfl) (by kernel_rfl) (by kernel_rfl) (fun _ _ _ h => h) (Or.inl ⟨by kernel_rfl, ?_⟩) (by assumption) ?_
      rotate_left
      · intro w hSw
        go_simp
        try with_reducible rfl
      try simp only [Act.put, List.setIfInBounds_toArray, List.set_cons_zero, List.set_cons_succ]
      refine wpAnyH_take (i := 8) (oi := ⟨some 63, _, _, _, _, _⟩) (v := ?_) rfl (by kernel_rfl) (by kernel_rfl) (by kernel_rfl) (fun _ _ _ h => h) (Or.inl ⟨by kernel_rfl, ?_⟩) (by assumption) ?_
      rotate_left
      · intro w hSw
        go_simp
        try with_reducible rfl
      try simp only [Act.put, List.setIfInBounds_toArray, List.set_cons_zero, List.set_cons_succ]
      refine wpAnyH_take (i := 9) (oi := ⟨some 64, _, _, _, _, _⟩) (v := ?_) rfl (by kernel_rfl) (by kernel_rfl) (by kernel_rfl) (fun _ _ _ h => h) (Or.inl ⟨by kernel_rfl, ?_⟩) (by assumption) ?_
      rotate_left
      · intro w hSw
        go_simp
        try with_reducible rfl
      try simp only [Act.put, List.setIfInBounds_toArray, List.set_cons_zero, List.set_cons_succ]
      refine wpAnyH_take (i := 10) (oi := ⟨some 65, _, _, _, _, _⟩) (v := ?_) rfl (by kernel_rfl) (by kernel_rfl) (by kernel_rfl) (fun _ _ _ h => h) (Or.inl ⟨by kernel_rfl, ?_⟩) (by assumption) ?_
      rotate_left
      · intro w hSw
        go_simp
        try with_reducible rfl
      try simp only [Act.put, List.setIfInBounds_toArray, List.set_cons_zero, List.set_cons_succ]
      refine wpAnyH_take (i := 11) (oi := ⟨some 66, _, _, _, _, _⟩) (v := ?_) rfl (by kernel_rfl) (by kernel_rfl) (by kernel_rfl) (fun _ _ _ h => h) (Or.inl ⟨by kernel_rfl, ?_⟩) (by assumption) ?_
      rotate_left
      · intro w hSw
        go_simp
        try with_reducible rfl
      try simp only [Act.put, List.setIfInBounds_toArray, List.set_cons_zero, List.set_cons_succ]
      refine wpAnyH_take (i := 12) (oi := ⟨some 67, _, _, _, _, _⟩) (v := ?_) rfl (by kernel_rfl) (by kernel_rfl) (by kernel_rfl) (fun _ _ _ h => h) (Or.inl ⟨by kernel_rfl, ?_⟩) (by assumption) ?_
      rotate_left
      · intro w hSw
        go_simp
        try with_reducible rfl
      try simp only [Act.put, List.setIfInBounds_toArray, List.set_cons_zero, List.set_cons_succ]
      refine wpAnyH_take (i := 13) (oi := ⟨some 68, _, _, _, _, _⟩) (v := ?_) rfl (by kernel_rfl) (by kernel_rfl) (by kernel_rfl) (fun _ _ _ h => h) (Or.inl ⟨by kernel_rfl, ?_⟩) (by assumption) ?_
      rotate_left
      · intro w hSw
        go_simp
        try with_reducible rfl
      try simp only [Act.put, List.setIfInBounds_toArray, List.set_cons_zero, List.set_cons_succ]
      refine wpAnyH_ready (rs := [14]) (by kernel_rfl) (by simp) ?_
      refine AllReadyH.cons (o := ⟨some 69, _, _, _, _, _⟩) rfl (fun K hK => ?_) AllReadyH.nil
      go_simp
      refine hK.out _ _ ?_ (fun hHeld => ?_)
      · exact A2a
      clear hK K
      try simp only [Act.put, List.setIfInBounds_toArray, List.set_cons_zero, List.set_cons_succ]
      refine wpAnyH_ready (rs := [15]) (by kernel_rfl) (by simp) ?_
      refine AllReadyH.cons (o := ⟨some 70, _, _, _, _, _⟩) rfl (fun K hK => ?_) AllReadyH.nil
      refine step_append_que _ (by rfl) (.tmp 59) (.tmp 69) 119 (by rfl) (g + 1) 128 ti _ 3 24 Tryd.underlying119 hi0 hz0 hz1 hz2 rfl (by omega) (.slice dA D.length dc) D.length (D.flatMap nxCells) (by rfl) ((V7.out.hd.alloc _).drew) ⟨w7.heap.size, 0, none⟩ 1 1 [.int .i64 a, .int .i64 (h + 1), .int .i64 t] (by rfl) rfl (World.news_of_block (cs := #[.int .i64 a, .int .i64 (h + 1), .int .i64 t]) (t := 128) (fr := (0, 0)) (heap_alloc_new w7 _)) (by simp [Value.oneCell']) (by unfold maxLen; omega) (by omega) (by have := V7.out.chk.lt; simp; omega) ?_
      intro va wa howna hgrowa
      obtain ⟨dAa, dca, rfl⟩ := howna.form
      have Ca := ((V7.out.hd.alloc _).drew).blk ((V7.out.chk.alloc (.cells #[.int .i64 a, .int .i64 (h + 1), .int .i64 t] 128)).drew) hgrowa (by decide)
      have sca : wa.cell? ⟨g, 7, none⟩ = some (.slice dA D.length dc) := Ca.cell 7
      have sfa := Ca.frozen 7
      have Ika := ((V7.out.hd.alloc _).drew).blk (((I7).alloc (.cells #[.int .i64 a, .int .i64 (h + 1), .int .i64 t] 128)).drew) hgrowa (by decide)
      have Ska := ((V7.out.hd.alloc _).drew).blk (((S7).alloc (.cells #[.int .i64 a, .int .i64 (h + 1), .int .i64 t] 128)).drew) hgrowa (by decide)
      have A3a : wa.cell? ⟨g, 7, none⟩ = some (.slice dA D.length dc) ∧ wa.cell? ⟨W.heap.size + 1, 1, none⟩ = some (.int .i64 a) ∧ wa.cell? ⟨W.heap.size, 0, none⟩ = some (.int .i64 h) ∧ wa.cell? ⟨W.heap.size, 1, none⟩ = some (.int .i64 t) := ⟨sca, Ika.cell 1, Ska.cell 0, Ska.cell 1⟩
      have Va := Ea.push (y := (a, (h + 1, t))) hgrowa howna rfl
      have Ia := Ea.pushBlk (((I7).alloc (.cells #[.int .i64 a, .int .i64 (h + 1), .int .i64 t] 128)).drew) (by decide) (by decide) hgrowa (dv' := .slice dAa (D.length + 1) dca)
      have Na := Ea.pushBlk (((N7).alloc (.cells #[.int .i64 a, .int .i64 (h + 1), .int .i64 t] 128)).drew) (by decide) (by decide) hgrowa (dv' := .slice dAa (D.length + 1) dca)
      have Sa := Ea.pushBlk (((S7).alloc (.cells #[.int .i64 a, .int .i64 (h + 1), .int .i64 t] 128)).drew) (by decide) (by decide) hgrowa (dv' := .slice dAa (D.length + 1) dca)
      refine hK.out _ _ ?_ (fun hHeld => ?_)
      · exact A3a
      clear hK K
      try simp only [Act.put, List.setIfInBounds_toArray, List.set_cons_zero, List.set_cons_succ]
      refine wpAnyH_take (i := 16) (oi := ⟨some 71, _, _, _, _, _⟩) (v := ?_) rfl (by kernel_rfl) (by kernel_rfl) (by kernel_rfl) (fun _ _ _ h => h) (Or.inl ⟨by kernel_rfl, ?_⟩) (by assumption) ?_
      rotate_left
      · intro w hSw
        go_simp
        try with_reducible rfl
      try simp only [Act.put, List.setIfInBounds_toArray, List.set_cons_zero, List.set_cons_succ]
      refine wpAnyH_take (i := 17) (oi := ⟨some 72, _, _, _, _, _⟩) (v := ?_) rfl (by kernel_rfl) (by kernel_rfl) (by kernel_rfl) (fun _ _ _ h => h) (Or.inl ⟨by kernel_rfl, ?_⟩) (by assumption) ?_
      rotate_left
      · intro w hSw
        go_simp
        try with_reducible rfl
      try simp only [Act.put, List.setIfInBounds_toArray, List.set_cons_zero, List.set_cons_succ]
      refine wpAnyH_done (by kernel_rfl) ?_ _
      refine lastPost_run (o := ⟨none, _, _, _, _, _⟩) rfl (fun K hK => ?_)
      go_simp
      refine hK.out _ _ ?_
      clear hK K
      have hla : D.length + 1 = (D ++ [(a, (h + 1, t))]).length := by simp
      clear A1a A2a A3a
      generalize hDea : D ++ [(a, (h + 1, t))] = Da at Va hla
      have HDa := Lib.hid hDea
      clear hDea
      rw [hla] at Va Ia Na ⊢
      generalize wa.setCell ⟨g, 7, none⟩ (.slice dAa Da.length dca) = ua at Va Ia Na ⊢
      have Va := Lib.hid Va
      have hDa : Da.length ≤ 100001 := by omega
      clear Ea Ca sca sfa howna hgrowa
      have n1a := Na.cell 1
      have nfa := Na.frozen 1
      have Ib := Ia.far (p := ⟨w6.heap.size, 1, none⟩) (Ia.ne_ Na (by decide)) (.int .i64 (t + 1))
      have Nb := Na.set_ 1 (.int .i64 (t + 1))
      have Vb := Lib.hid (Va.out.setFar (b := w6.heap.size) (i := 1) (u := .int .i64 (t + 1)) hz7 (fun e => Nat.lt_irrefl _ (rl _ e)) (Va.out.hd.blk_ne Na (by decide)))
      have Nb' : Blk _ w6.heap.size 122 #[.int .i64 (h - tk + lv), .int .i64 (t + 1)] := Nb
      clear Nb
      have he : gEnds 33 = false := by decide
      have i0c := (Ib).cell 0
      have i1c := (Ib).cell 1
      have i2c := (Ib).cell 2
      go_wp2_with fail
      refine (c22 _ _ _ _).mono ?_
      rintro e wxc ⟨rfl, bc⟩
      have VXc := Lib.hid (Vb.out.next bc)
      have IXc := (Ib).next bc
      have NXc := (Nb').next bc
      clear bc i0c i1c i2c
      rw [he]
      go_wp2_with fail

      have Ecz := (VXc.out.alloc (.cells #[.int .i64 ((k : Int) + 1), .int .i64 (h - tk + lv), .int .i64 (t + 1)] 128)).drew
      have A1cz : (wxc.drew).cell? ⟨g, 7, none⟩ = some (.slice dAa Da.length dca) ∧ (wxc.drew).cell? ⟨w6.heap.size, 0, none⟩ = some (.int .i64 (h - tk + lv)) ∧ (wxc.drew).cell? ⟨w6.heap.size, 1, none⟩ = some (.int .i64 (t + 1)) := ⟨VXc.out.c7, NXc.cell 0, NXc.cell 1⟩
      have A2cz : (wxc.alloc (.cells #[.int .i64 ((k : Int) + 1), .int .i64 (h - tk + lv), .int .i64 (t + 1)] 128)).drew.cell? ⟨g, 7, none⟩ = some (.slice dAa Da.length dca) ∧ (wxc.alloc (.cells #[.int .i64 ((k : Int) + 1), .int .i64 (h - tk + lv), .int .i64 (t + 1)] 128)).drew.cell? ⟨w6.heap.size, 0, none⟩ = some (.int .i64 (h - tk + lv)) ∧ (wxc.alloc (.cells #[.int .i64 ((k : Int) + 1), .int .i64 (h - tk + lv), .int .i64 (t + 1)] 128)).drew.cell? ⟨w6.heap.size, 1, none⟩ = some (.int .i64 (t + 1)) := ⟨Ecz.c7, (((NXc).alloc (.cells #[.int .i64 ((k : Int) + 1), .int .i64 (h - tk + lv), .int .i64 (t + 1)] 128)).drew).cell 0, (((NXc).alloc (.cells #[.int .i64 ((k : Int) + 1), .int .i64 (h - tk + lv), .int .i64 (t + 1)] 128)).drew).cell 1⟩
      have hvcz := VXc.out.chk.lt
      refine wp_region_last (S := fun X => X.cell? ⟨g, 7, none⟩ = some (.slice dAa Da.length dca) ∧ X.cell? ⟨w6.heap.size, 0, none⟩ = some (.int .i64 (h - tk + lv)) ∧ X.cell? ⟨w6.heap.size, 1, none⟩ = some (.int .i64 (t + 1))) 13 (by kernel_rfl) (by kernel_rfl) (by kernel_rfl) (by kernel_rfl) A1cz (fun hHeld => ?_)
      refine wpAnyH_take (i := 0) (oi := ⟨some 102, _, _, _, _, _⟩) (v := ?_) rfl (by kernel_rfl) (by kernel_rfl) (by kernel_rfl) (fun _ _ _ h => h) (Or.inl ⟨by kernel_rfl, ?_⟩) (by assumption) ?_
      rotate_left
      · intro w hSw
        go_simp
        try with_reducible rfl
      try simp only [Act.put, List.setIfInBounds_toArray, List.set_cons_zero, List.set_cons_succ]
      refine wpAnyH_take (i := 1) (oi := ⟨some 103, _, _, _, _, _⟩) (v := ?_) rfl (by kernel_rfl) (by kernel_rfl) (by kernel_rfl) (fun _ _ _ h => h) (Or.inl ⟨by kernel_rfl, ?_⟩) (by assumption) ?_
      rotate_left
      · intro w hSw
        go_simp
        try with_reducible rfl
      try simp only [Act.put, List.setIfInBounds_toArray, List.set_cons_zero, List.set_cons_succ]
      refine wpAnyH_take (i := 2) (oi := ⟨some 104, _, _, _, _, _⟩) (v := ?_) rfl (by kernel_rfl) (by kernel_rfl) (by kernel_rfl) (fun _ _ _ h => h) (Or.inl ⟨by kernel_rfl, ?_⟩) (by assumption) ?_
      rotate_left
      · intro w hSw
        go_simp
        try with_reducible rfl
      try simp only [Act.put, List.setIfInBounds_toArray, List.set_cons_zero, List.set_cons_succ]
      refine wpAnyH_take (i := 3) (oi := ⟨some 105, _, _, _, _, _⟩) (v := ?_) rfl (by kernel_rfl) (by kernel_rfl) (by kernel_rfl) (fun _ _ _ h => h) (Or.inl ⟨by kernel_rfl, ?_⟩) (by assumption) ?_
      rotate_left
      · intro w hSw
        go_simp
        try with_reducible rfl
      try simp only [Act.put, List.setIfInBounds_toArray, List.set_cons_zero, List.set_cons_succ]
      refine wpAnyH_take (i := 4) (oi := ⟨some 106, _, _, _, _, _⟩) (v := ?_) rfl (by kernel_rfl) (by kernel_rfl) (by kernel_rfl) (fun _ _ _ h => h) (Or.inl ⟨by kernel_rfl, ?_⟩) (by assumption) ?_
      rotate_left
      · intro w hSw
        go_simp
        try with_reducible rfl
      try simp only [Act.put, List.setIfInBounds_toArray, List.set_cons_zero, List.set_cons_succ]
      refine wpAnyH_take (i := 5) (oi := ⟨some 107, _, _, _, _, _⟩) (v := ?_) rfl (by kernel_rfl) (by kernel_rfl) (by kernel_rfl) (fun _ _ _ h => h) (Or.inl ⟨by kernel_rfl, ?_⟩) (by assumption) ?_
      rotate_left
      · intro w hSw
        go_simp
        try with_reducible rfl
      try simp only [Act.put, List.setIfInBounds_toArray, List.set_cons_zero, List.set_cons_succ]
      refine wpAnyH_take (i := 6) (oi := ⟨some 108, _, _, _, _, _⟩) (v := ?_) rfl (by kernel_rfl) (by kernel_rfl) (by kernel_rfl) (fun _ _ _ h => h) (Or.inl ⟨by kernel_rfl, ?_⟩) (by assumption) ?_
      rotate_left
      · intro w hSw
        go_simp
        try with_reducible rfl
      try simp only [Act.put, List.setIfInBounds_toArray, List.set_cons_zero, List.set_cons_succ]
      refine wpAnyH_take (i := 7) (oi := ⟨some 109, _, _, _, _, _⟩) (v := ?_) rfl (by kernel_rfl) (by kernel_rfl) (by kernel_rfl) (fun _ _ _ h => h) (Or.inl ⟨by kernel_rfl, ?_⟩) (by assumption) ?_
      rotate_left
      · intro w hSw
        go_simp
        try with_reducible rfl
      try simp only [Act.put, List.setIfInBounds_toArray, List.set_cons_zero, List.set_cons_succ]
      refine wpAnyH_take (i := 8) (oi := ⟨some 110, _, _, _, _, _⟩) (v := ?_) rfl (by kernel_rfl) (by kernel_rfl) (by kernel_rfl) (fun _ _ _ h => h) (Or.inl ⟨by kernel_rfl, ?_⟩) (by assumption) ?_
      rotate_left
      · intro w hSw
        go_simp
        try with_reducible rfl
      try simp only [Act.put, List.setIfInBounds_toArray, List.set_cons_zero, List.set_cons_succ]
      refine wpAnyH_ready (rs := [9]) (by kernel_rfl) (by simp) ?_
      refine AllReadyH.cons (o := ⟨some 111, _, _, _, _, _⟩) rfl (fun K hK => ?_) AllReadyH.nil
      go_simp
      refine hK.out _ _ ?_ (fun hHeld => ?_)
      · exact A2cz
      clear hK K
      try simp only [Act.put, List.setIfInBounds_toArray, List.set_cons_zero, List.set_cons_succ]
      refine wpAnyH_ready (rs := [10]) (by kernel_rfl) (by simp) ?_
      refine AllReadyH.cons (o := ⟨some 112, _, _, _, _, _⟩) rfl (fun K hK => ?_) AllReadyH.nil
      refine step_append_que _ (by rfl) (.tmp 106) (.tmp 111) 119 (by rfl) (g + 1) 128 ti _ 3 24 Tryd.underlying119 hi0 hz0 hz1 hz2 rfl (by omega) (.slice dAa Da.length dca) Da.length (Da.flatMap nxCells) (by rfl) ((VXc.out.hd.alloc _).drew) ⟨wxc.heap.size, 0, none⟩ 1 1 [.int .i64 ((k : Int) + 1), .int .i64 (h - tk + lv), .int .i64 (t + 1)] (by rfl) rfl (World.news_of_block (cs := #[.int .i64 ((k : Int) + 1), .int .i64 (h - tk + lv), .int .i64 (t + 1)]) (t := 128) (fr := (0, 0)) (heap_alloc_new wxc _)) (by simp [Value.oneCell']) (by unfold maxLen; omega) (by omega) (by have := VXc.out.chk.lt; simp; omega) ?_
      intro vcz wcz howncz hgrowcz
      obtain ⟨dAcz, dccz, rfl⟩ := howncz.form
      have Ccz := ((VXc.out.hd.alloc _).drew).blk ((VXc.out.chk.alloc (.cells #[.int .i64 ((k : Int) + 1), .int .i64 (h - tk + lv), .int .i64 (t + 1)] 128)).drew) hgrowcz (by decide)
      have sccz : wcz.cell? ⟨g, 7, none⟩ = some (.slice dAa Da.length dca) := Ccz.cell 7
      have sfcz := Ccz.frozen 7
      have Nkcz := ((VXc.out.hd.alloc _).drew).blk (((NXc).alloc (.cells #[.int .i64 ((k : Int) + 1), .int .i64 (h - tk + lv), .int .i64 (t + 1)] 128)).drew) hgrowcz (by decide)
      have A3cz : wcz.cell? ⟨g, 7, none⟩ = some (.slice dAa Da.length dca) ∧ wcz.cell? ⟨w6.heap.size, 0, none⟩ = some (.int .i64 (h - tk + lv)) ∧ wcz.cell? ⟨w6.heap.size, 1, none⟩ = some (.int .i64 (t + 1)) := ⟨sccz, Nkcz.cell 0, Nkcz.cell 1⟩
      have Vcz := Ecz.push (y := ((k : Int) + 1, (h - tk + lv, t + 1))) hgrowcz howncz rfl
      have Icz := Ecz.pushBlk (((IXc).alloc (.cells #[.int .i64 ((k : Int) + 1), .int .i64 (h - tk + lv), .int .i64 (t + 1)] 128)).drew) (by decide) (by decide) hgrowcz (dv' := .slice dAcz (Da.length + 1) dccz)
      have Ncz := Ecz.pushBlk (((NXc).alloc (.cells #[.int .i64 ((k : Int) + 1), .int .i64 (h - tk + lv), .int .i64 (t + 1)] 128)).drew) (by decide) (by decide) hgrowcz (dv' := .slice dAcz (Da.length + 1) dccz)
      refine hK.out _ _ ?_ (fun hHeld => ?_)
      · exact A3cz
      clear hK K
      try simp only [Act.put, List.setIfInBounds_toArray, List.set_cons_zero, List.set_cons_succ]
      refine wpAnyH_take (i := 11) (oi := ⟨some 113, _, _, _, _, _⟩) (v := ?_) rfl (by kernel_rfl) (by kernel_rfl) (by kernel_rfl) (fun _ _ _ h => h) (Or.inl ⟨by kernel_rfl, ?_⟩) (by assumption) ?_
      rotate_left
      · intro w hSw
        go_simp
        try with_reducible rfl
      try simp only [Act.put, List.setIfInBounds_toArray, List.set_cons_zero, List.set_cons_succ]
      refine wpAnyH_take (i := 12) (oi := ⟨some 114, _, _, _, _, _⟩) (v := ?_) rfl (by kernel_rfl) (by kernel_rfl) (by kernel_rfl) (fun _ _ _ h => h) (Or.inl ⟨by kernel_rfl, ?_⟩) (by assumption) ?_
      rotate_left
      · intro w hSw
        go_simp
        try with_reducible rfl
      try simp only [Act.put, List.setIfInBounds_toArray, List.set_cons_zero, List.set_cons_succ]
      refine wpAnyH_done (by kernel_rfl) ?_ _
      refine lastPost_run (o := ⟨none, _, _, _, _, _⟩) rfl (fun K hK => ?_)
      go_simp
      refine hK.out _ _ ?_
      clear hK K
      have hlcz : Da.length + 1 = (Da ++ [((k : Int) + 1, (h - tk + lv, t + 1))]).length := by simp
      clear A1cz A2cz A3cz
      generalize hDecz : Da ++ [((k : Int) + 1, (h - tk + lv, t + 1))] = Dcz at Vcz hlcz
      have HDcz := Lib.hid hDecz
      clear hDecz
      rw [hlcz] at Vcz Icz Ncz ⊢
      generalize wcz.setCell ⟨g, 7, none⟩ (.slice dAcz Dcz.length dccz) = ucz at Vcz Icz Ncz ⊢
      have Vcz := Lib.hid Vcz
      have hDcz : Dcz.length ≤ 100002 := by omega
      clear Ecz Ccz sccz sfcz howncz hgrowcz
      go_wp2_with fail
      go_ret
      exact ⟨by rw [HX.out]; simp, _, _, Vcz.out, fun _ => by rw [HNW.out, ← HDcz.out, ← HDa.out]; simp [he]⟩
    have f33 : (o == 33) = false := beq_eq_false_iff_ne.2 h33
    have F33 := h33
    by_cases h34 : o = 34
    · subst h34
      clear f33 h33 F33
      have W5 : IntKind.i64.wrap (t - 1) = t - 1 := IntWalk.i64_in _ (by omega)
      have V8 := Lib.hid (V6.out.alloc (.cells #[.int .i64 (h - tk + lv), .int .i64 (t - 1)] 122))
      have I8 := I6.alloc (.cells #[.int .i64 (h - tk + lv), .int .i64 (t - 1)] 122)
      have N8 := Blk.new w6 122 #[.int .i64 (h - tk + lv), .int .i64 (t - 1)]
      have he : gEnds 34 = false := by decide
      have i0d := (I8).cell 0
      have i1d := (I8).cell 1
      have i2d := (I8).cell 2
      go_wp2_with fail
      refine (c22 _ _ _ _).mono ?_
      rintro e wxd ⟨rfl, bd⟩
      have VXd := Lib.hid (V8.out.next bd)
      have IXd := (I8).next bd
      have NXd := (N8).next bd
      clear bd i0d i1d i2d
      rw [he]
      go_wp2_with fail

      have Edz := (VXd.out.alloc (.cells #[.int .i64 ((k : Int) + 1), .int .i64 (h - tk + lv), .int .i64 (t - 1)] 128)).drew
      have A1dz : (wxd.drew).cell? ⟨g, 7, none⟩ = some (.slice dA D.length dc) ∧ (wxd.drew).cell? ⟨w6.heap.size, 0, none⟩ = some (.int .i64 (h - tk + lv)) ∧ (wxd.drew).cell? ⟨w6.heap.size, 1, none⟩ = some (.int .i64 (t - 1)) := ⟨VXd.out.c7, NXd.cell 0, NXd.cell 1⟩
      have A2dz : (wxd.alloc (.cells #[.int .i64 ((k : Int) + 1), .int .i64 (h - tk + lv), .int .i64 (t - 1)] 128)).drew.cell? ⟨g, 7, none⟩ = some (.slice dA D.length dc) ∧ (wxd.alloc (.cells #[.int .i64 ((k : Int) + 1), .int .i64 (h - tk + lv), .int .i64 (t - 1)] 128)).drew.cell? ⟨w6.heap.size, 0, none⟩ = some (.int .i64 (h - tk + lv)) ∧ (wxd.alloc (.cells #[.int .i64 ((k : Int) + 1), .int .i64 (h - tk + lv), .int .i64 (t - 1)] 128)).drew.cell? ⟨w6.heap.size, 1, none⟩ = some (.int .i64 (t - 1)) := ⟨Edz.c7, (((NXd).alloc (.cells #[.int .i64 ((k : Int) + 1), .int .i64 (h - tk + lv), .int .i64 (t - 1)] 128)).drew).cell 0, (((NXd).alloc (.cells #[.int .i64 ((k : Int) + 1), .int .i64 (h - tk + lv), .int .i64 (t - 1)] 128)).drew).cell 1⟩
      have hvdz := VXd.out.chk.lt
      refine wp_region_last (S := fun X => X.cell? ⟨g, 7, none⟩ = some (.slice dA D.length dc) ∧ X.cell? ⟨w6.heap.size, 0, none⟩ = some (.int .i64 (h - tk + lv)) ∧ X.cell? ⟨w6.heap.size, 1, none⟩ = some (.int .i64 (t - 1))) 13 (by kernel_rfl) (by kernel_rfl) (by kernel_rfl) (by kernel_rfl) A1dz (fun hHeld => ?_)
      refine wpAnyH_take (i := 0) (oi := ⟨some 102, _, _, _, _, _⟩) (v := ?_) rfl (by kernel_rfl) (by kernel_rfl) (by kernel_rfl) (fun _ _ _ h => h) (Or.inl ⟨by kernel_rfl, ?_⟩) (by assumption) ?_
      rotate_left
      · intro w hSw
        go_simp
        try with_reducible rfl
      try simp only [Act.put, List.setIfInBounds_toArray, List.set_cons_zero, List.set_cons_succ]
      refine wpAnyH_take (i := 1) (oi := ⟨some 103, _, _, _, _, _⟩) (v := ?_) rfl (by kernel_rfl) (by kernel_rfl) (by kernel_rfl) (fun _ _ _ h => h) (Or.inl ⟨by kernel_rfl, ?_⟩) (by assumption) ?_
      rotate_left
      · intro w hSw
        go_simp
        try with_reducible rfl
      try simp only [Act.put, List.setIfInBounds_toArray, List.set_cons_zero, List.set_cons_succ]
      refine wpAnyH_take (i := 2) (oi := ⟨some 104, _, _, _, _, _⟩) (v := ?_) rfl (by kernel_rfl) (by kernel_rfl) (by kernel_rfl) (fun _ _ _ h => h) (Or.inl ⟨by kernel_rfl, ?_⟩) (by assumption) ?_
      rotate_left
      · intro w hSw
        go_simp
        try with_reducible rfl
      try simp only [Act.put, List.setIfInBounds_toArray, List.set_cons_zero, List.set_cons_succ]
      refine wpAnyH_take (i := 3) (oi := ⟨some 105, _, _, _, _, _⟩) (v := ?_) rfl (by kernel_rfl) (by kernel_rfl) (by kernel_rfl) (fun _ _ _ h => h) (Or.inl ⟨by kernel_rfl, ?_⟩) (by assumption) ?_
      rotate_left
      · intro w hSw
        go_simp
        try with_reducible rfl
      try simp only [Act.put, List.setIfInBounds_toArray, List.set_cons_zero, List.set_cons_succ]
      refine wpAnyH_take (i := 4) (oi := ⟨some 106, _, _, _, _, _⟩) (v := ?_) rfl (by kernel_rfl) (by kernel_rfl) (by kernel_rfl) (fun _ _ _ h => h) (Or.inl ⟨by kernel_rfl, ?_⟩) (by assumption) ?_
      rotate_left
      · intro w hSw
        go_simp
        try with_reducible rfl
      try simp only [Act.put, List.setIfInBounds_toArray, List.set_cons_zero, List.set_cons_succ]
      refine wpAnyH_take (i := 5) (oi := ⟨some 107, _, _, _, _, _⟩) (v := ?_) rfl (by kernel_rfl) (by kernel_rfl) (by kernel_rfl) (fun _ _ _ h => h) (Or.inl ⟨by kernel_rfl, ?_⟩) (by assumption) ?_
      rotate_left
      · intro w hSw
        go_simp
        try with_reducible rfl
      try simp only [Act.put, List.setIfInBounds_toArray, List.set_cons_zero, List.set_cons_succ]
      refine wpAnyH_take (i := 6) (oi := ⟨some 108, _, _, _, _, _⟩) (v := ?_) rfl (by kernel_rfl) (by kernel_rfl) (by kernel_rfl) (fun _ _ _ h => h) (Or.inl ⟨by kernel_rfl, ?_⟩) (by assumption) ?_
      rotate_left
      · intro w hSw
        go_simp
        try with_reducible rfl
      try simp only [Act.put, List.setIfInBounds_toArray, List.set_cons_zero, List.set_cons_succ]
      refine wpAnyH_take (i := 7) (oi := ⟨some 109, _, _, _, _, _⟩) (v := ?_) rfl (by kernel_rfl) (by kernel_rfl) (by kernel_rfl) (fun _ _ _ h => h) (Or.inl ⟨by kernel_rfl, ?_⟩) (by assumption) ?_
      rotate_left
      · intro w hSw
        go_simp
        try with_reducible rfl
      try simp only [Act.put, List.setIfInBounds_toArray, List.set_cons_zero, List.set_cons_succ]
      refine wpAnyH_take (i := 8) (oi := ⟨some 110, _, _, _, _, _⟩) (v := ?_) rfl (by kernel_rfl) (by kernel_rfl) (by kernel_rfl) (fun _ _ _ h => h) (Or.inl ⟨by kernel_rfl, ?_⟩) (by assumption) ?_
      rotate_left
      · intro w hSw
        go_simp
        try with_reducible rfl
      try simp only [Act.put, List.setIfInBounds_toArray, List.set_cons_zero, List.set_cons_succ]
      refine wpAnyH_ready (rs := [9]) (by kernel_rfl) (by simp) ?_
      refine AllReadyH.cons (o := ⟨some 111, _, _, _, _, _⟩) rfl (fun K hK => ?_) AllReadyH.nil
      go_simp
      refine hK.out _ _ ?_ (fun hHeld => ?_)
      · exact A2dz
      clear hK K
      try simp only [Act.put, List.setIfInBounds_toArray, List.set_cons_zero, List.set_cons_succ]
      refine wpAnyH_ready (rs := [10]) (by kernel_rfl) (by simp) ?_
      refine AllReadyH.cons (o := ⟨some 112, _, _, _, _, _⟩) rfl (fun K hK => ?_) AllReadyH.nil
      refine step_append_que _ (by rfl) (.tmp 106) (.tmp 111) 119 (by rfl) (g + 1) 128 ti _ 3 24 Tryd.underlying119 hi0 hz0 hz1 hz2 rfl (by omega) (.slice dA D.length dc) D.length (D.flatMap nxCells) (by rfl) ((VXd.out.hd.alloc _).drew) ⟨wxd.heap.size, 0, none⟩ 1 1 [.int .i64 ((k : Int) + 1), .int .i64 (h - tk + lv), .int .i64 (t - 1)] (by rfl) rfl (World.news_of_block (cs := #[.int .i64 ((k : Int) + 1), .int .i64 (h - tk + lv), .int .i64 (t - 1)]) (t := 128) (fr := (0, 0)) (heap_alloc_new wxd _)) (by simp [Value.oneCell']) (by unfold maxLen; omega) (by omega) (by have := VXd.out.chk.lt; simp; omega) ?_
      intro vdz wdz howndz hgrowdz
      obtain ⟨dAdz, dcdz, rfl⟩ := howndz.form
      have Cdz := ((VXd.out.hd.alloc _).drew).blk ((VXd.out.chk.alloc (.cells #[.int .i64 ((k : Int) + 1), .int .i64 (h - tk + lv), .int .i64 (t - 1)] 128)).drew) hgrowdz (by decide)
      have scdz : wdz.cell? ⟨g, 7, none⟩ = some (.slice dA D.length dc) := Cdz.cell 7
      have sfdz := Cdz.frozen 7
      have Nkdz := ((VXd.out.hd.alloc _).drew).blk (((NXd).alloc (.cells #[.int .i64 ((k : Int) + 1), .int .i64 (h - tk + lv), .int .i64 (t - 1)] 128)).drew) hgrowdz (by decide)
      have A3dz : wdz.cell? ⟨g, 7, none⟩ = some (.slice dA D.length dc) ∧ wdz.cell? ⟨w6.heap.size, 0, none⟩ = some (.int .i64 (h - tk + lv)) ∧ wdz.cell? ⟨w6.heap.size, 1, none⟩ = some (.int .i64 (t - 1)) := ⟨scdz, Nkdz.cell 0, Nkdz.cell 1⟩
      have Vdz := Edz.push (y := ((k : Int) + 1, (h - tk + lv, t - 1))) hgrowdz howndz rfl
      have Idz := Edz.pushBlk (((IXd).alloc (.cells #[.int .i64 ((k : Int) + 1), .int .i64 (h - tk + lv), .int .i64 (t - 1)] 128)).drew) (by decide) (by decide) hgrowdz (dv' := .slice dAdz (D.length + 1) dcdz)
      have Ndz := Edz.pushBlk (((NXd).alloc (.cells #[.int .i64 ((k : Int) + 1), .int .i64 (h - tk + lv), .int .i64 (t - 1)] 128)).drew) (by decide) (by decide) hgrowdz (dv' := .slice dAdz (D.length + 1) dcdz)
      refine hK.out _ _ ?_ (fun hHeld => ?_)
      · exact A3dz
      clear hK K
      try simp only [Act.put, List.setIfInBounds_toArray, List.set_cons_zero, List.set_cons_succ]
      refine wpAnyH_take (i := 11) (oi := ⟨some 113, _, _, _, _, _⟩) (v := ?_) rfl (by kernel_rfl) (by kernel_rfl) (by kernel_rfl) (fun _ _ _ h => h) (Or.inl ⟨by kernel_rfl, ?_⟩) (by assumption) ?_
      rotate_left
      · intro w hSw
        go_simp
        try with_reducible rfl
      try simp only [Act.put, List.setIfInBounds_toArray, List.set_cons_zero, List.set_cons_succ]
      refine wpAnyH_take (i := 12) (oi := ⟨some 114, _, _, _, _, _⟩) (v := ?_) rfl (by kernel_rfl) (by kernel_rfl) (by kernel_rfl) (fun _ _ _ h => h) (Or.inl ⟨by kernel_rfl, ?_⟩) (by assumption) ?_
      rotate_left
      · intro w hSw
        go_simp
        try with_reducible rfl
      try simp only [Act.put, List.setIfInBounds_toArray, List.set_cons_zero, List.set_cons_succ]
      refine wpAnyH_done (by kernel_rfl) ?_ _
      refine lastPost_run (o := ⟨none, _, _, _, _, _⟩) rfl (fun K hK => ?_)
      go_simp
      refine hK.out _ _ ?_
      clear hK K
      have hldz : D.length + 1 = (D ++ [((k : Int) + 1, (h - tk + lv, t - 1))]).length := by simp
      clear A1dz A2dz A3dz
      generalize hDedz : D ++ [((k : Int) + 1, (h - tk + lv, t - 1))] = Ddz at Vdz hldz
      have HDdz := Lib.hid hDedz
      clear hDedz
      rw [hldz] at Vdz Idz Ndz ⊢
      generalize wdz.setCell ⟨g, 7, none⟩ (.slice dAdz Ddz.length dcdz) = udz at Vdz Idz Ndz ⊢
      have Vdz := Lib.hid Vdz
      have hDdz : Ddz.length ≤ 100002 := by omega
      clear Edz Cdz scdz sfdz howndz hgrowdz
      go_wp2_with fail
      go_ret
      exact ⟨by rw [HX.out]; simp, _, _, Vdz.out, fun _ => by rw [HNW.out, ← HDdz.out]; simp [he]⟩
    have f34 : (o == 34) = false := beq_eq_false_iff_ne.2 h34
    have F34 := h34
    by_cases h10 : o = 10
    · subst h10
      clear f33 f34 h33 h34 F33 F34
      have he : gEnds 10 = true := by decide
      go_wp2_with fail
      generalize w6.alloc (.cells #[.int .i64 (h - tk + lv), .int .i64 t] 122) = w7 at V7 I7 S7 N7 i0 i1 i2 n0 n1 s0 s1 ⊢
      have Ef := (V7.out.alloc (.cells #[.int .i64 a, .int .i64 (h - tk + lv), .int .i64 t] 128)).drew
      have A1f : (w7.drew).cell? ⟨g, 7, none⟩ = some (.slice dA D.length dc) ∧ (w7.drew).cell? ⟨W.heap.size + 1, 1, none⟩ = some (.int .i64 a) ∧ (w7.drew).cell? ⟨w6.heap.size, 0, none⟩ = some (.int .i64 (h - tk + lv)) ∧ (w7.drew).cell? ⟨w6.heap.size, 1, none⟩ = some (.int .i64 t) := ⟨V7.out.c7, I7.cell 1, N7.cell 0, N7.cell 1⟩
      have A2f : (w7.alloc (.cells #[.int .i64 a, .int .i64 (h - tk + lv), .int .i64 t] 128)).drew.cell? ⟨g, 7, none⟩ = some (.slice dA D.length dc) ∧ (w7.alloc (.cells #[.int .i64 a, .int .i64 (h - tk + lv), .int .i64 t] 128)).drew.cell? ⟨W.heap.size + 1, 1, none⟩ = some (.int .i64 a) ∧ (w7.alloc (.cells #[.int .i64 a, .int .i64 (h - tk + lv), .int .i64 t] 128)).drew.cell? ⟨w6.heap.size, 0, none⟩ = some (.int .i64 (h - tk + lv)) ∧ (w7.alloc (.cells #[.int .i64 a, .int .i64 (h - tk + lv), .int .i64 t] 128)).drew.cell? ⟨w6.heap.size, 1, none⟩ = some (.int .i64 t) := ⟨Ef.c7, (((I7).alloc (.cells #[.int .i64 a, .int .i64 (h - tk + lv), .int .i64 t] 128)).drew).cell 1, (((N7).alloc (.cells #[.int .i64 a, .int .i64 (h - tk + lv), .int .i64 t] 128)).drew).cell 0, (((N7).alloc (.cells #[.int .i64 a, .int .i64 (h - tk + lv), .int .i64 t] 128)).drew).cell 1⟩
      have hvf := V7.out.chk.lt
      refine wp_region_last (S := fun X => X.cell? ⟨g, 7, none⟩ = some (.slice dA D.length dc) ∧ X.cell? ⟨W.heap.size + 1, 1, none⟩ = some (.int .i64 a) ∧ X.cell? ⟨w6.heap.size, 0, none⟩ = some (.int .i64 (h - tk + lv)) ∧ X.cell? ⟨w6.heap.size, 1, none⟩ = some (.int .i64 t)) 13 (by kernel_rfl) (by kernel_rfl) (by kernel_rfl) (by kernel_rfl) A1f (fun hHeld => ?_)
      refine wpAnyH_take (i := 0) (oi := ⟨some 86, _, _, _, _, _⟩) (v := ?_) rfl (by kernel_rfl) (by kernel_rfl) (by kernel_rfl) (fun _ _ _ h => h) (Or.inl ⟨by kernel_rfl, ?_⟩) (by assumption) ?_
      rotate_left
      · intro w hSw
        go_simp
        try with_reducible rfl
      try simp only [Act.put, List.setIfInBounds_toArray, List.set_cons_zero, List.set_cons_succ]
      refine wpAnyH_take (i := 1) (oi := ⟨some 87, _, _, _, _, _⟩) (v := ?_) rfl (by kernel_rfl) (by kernel_rfl) (by kernel_rfl) (fun _ _ _ h => h) (Or.inl ⟨by kernel_rfl, ?_⟩) (by assumption) ?_
      rotate_left
      · intro w hSw
        go_simp
        try with_reducible rfl
      try simp only [Act.put, List.setIfInBounds_toArray, List.set_cons_zero, List.set_cons_succ]
      refine wpAnyH_take (i := 2) (oi := ⟨some 88, _, _, _, _, _⟩) (v := ?_) rfl (by kernel_rfl) (by kernel_rfl) (by kernel_rfl) (fun _ _ _ h => h) (Or.inl ⟨by kernel_rfl, ?_⟩) (by assumption) ?_
      rotate_left
      · intro w hSw
        go_simp
        try with_reducible rfl
      try simp only [Act.put, List.setIfInBounds_toArray, List.set_cons_zero, List.set_cons_succ]
      refine wpAnyH_take (i := 3) (oi := ⟨some 89, _, _, _, _, _⟩) (v := ?_) rfl (by kernel_rfl) (by kernel_rfl) (by kernel_rfl) (fun _ _ _ h => h) (Or.inl ⟨by kernel_rfl, ?_⟩) (by assumption) ?_
      rotate_left
      · intro w hSw
        go_simp
        try with_reducible rfl
      try simp only [Act.put, List.setIfInBounds_toArray, List.set_cons_zero, List.set_cons_succ]
      refine wpAnyH_take (i := 4) (oi := ⟨some 90, _, _, _, _, _⟩) (v := ?_) rfl (by kernel_rfl) (by kernel_rfl) (by kernel_rfl) (fun _ _ _ h => h) (Or.inl ⟨by kernel_rfl, ?_⟩) (by assumption) ?_
      rotate_left
      · intro w hSw
        go_simp
        try with_reducible rfl
      try simp only [Act.put, List.setIfInBounds_toArray, List.set_cons_zero, List.set_cons_succ]
      refine wpAnyH_take (i := 5) (oi := ⟨some 91, _, _, _, _, _⟩) (v := ?_) rfl (by kernel_rfl) (by kernel_rfl) (by kernel_rfl) (fun _ _ _ h => h) (Or.inl ⟨by kernel_rfl, ?_⟩) (by assumption) ?_
      rotate_left
      · intro w hSw
        go_simp
        try with_reducible rfl
      try simp only [Act.put, List.setIfInBounds_toArray, List.set_cons_zero, List.set_cons_succ]
      refine wpAnyH_take (i := 6) (oi := ⟨some 92, _, _, _, _, _⟩) (v := ?_) rfl (by kernel_rfl) (by kernel_rfl) (by kernel_rfl) (fun _ _ _ h => h) (Or.inl ⟨by kernel_rfl, ?_⟩) (by assumption) ?_
      rotate_left
      · intro w hSw
        go_simp
        try with_reducible rfl
      try simp only [Act.put, List.setIfInBounds_toArray, List.set_cons_zero, List.set_cons_succ]
      refine wpAnyH_take (i := 7) (oi := ⟨some 93, _, _, _, _, _⟩) (v := ?_) rfl (by kernel_rfl) (by kernel_rfl) (by kernel_rfl) (fun _ _ _ h => h) (Or.inl ⟨by kernel_rfl, ?_⟩) (by assumption) ?_
      rotate_left
      · intro w hSw
        go_simp
        try with_reducible rfl
      try simp only [Act.put, List.setIfInBounds_toArray, List.set_cons_zero, List.set_cons_succ]
      refine wpAnyH_take (i := 8) (oi := ⟨some 94, _, _, _, _, _⟩) (v := ?_) rfl (by kernel_rfl) (by kernel_rfl) (by kernel_rfl) (fun _ _ _ h => h) (Or.inl ⟨by kernel_rfl, ?_⟩) (by assumption) ?_
      rotate_left
      · intro w hSw
        go_simp
        try with_reducible rfl
      try simp only [Act.put, List.setIfInBounds_toArray, List.set_cons_zero, List.set_cons_succ]
      refine wpAnyH_ready (rs := [9]) (by kernel_rfl) (by simp) ?_
      refine AllReadyH.cons (o := ⟨some 95, _, _, _, _, _⟩) rfl (fun K hK => ?_) AllReadyH.nil
      go_simp
      refine hK.out _ _ ?_ (fun hHeld => ?_)
      · exact A2f
      clear hK K
      try simp only [Act.put, List.setIfInBounds_toArray, List.set_cons_zero, List.set_cons_succ]
      refine wpAnyH_ready (rs := [10]) (by kernel_rfl) (by simp) ?_
      refine AllReadyH.cons (o := ⟨some 96, _, _, _, _, _⟩) rfl (fun K hK => ?_) AllReadyH.nil
      refine step_append_que _ (by rfl) (.tmp 90) (.tmp 95) 119 (by rfl) (g + 1) 128 ti _ 3 24 Tryd.underlying119 hi0 hz0 hz1 hz2 rfl (by omega) (.slice dA D.length dc) D.length (D.flatMap nxCells) (by rfl) ((V7.out.hd.alloc _).drew) ⟨w7.heap.size, 0, none⟩ 1 1 [.int .i64 a, .int .i64 (h - tk + lv), .int .i64 t] (by rfl) rfl (World.news_of_block (cs := #[.int .i64 a, .int .i64 (h - tk + lv), .int .i64 t]) (t := 128) (fr := (0, 0)) (heap_alloc_new w7 _)) (by simp [Value.oneCell']) (by unfold maxLen; omega) (by omega) (by have := V7.out.chk.lt; simp; omega) ?_
      intro vf wf hownf hgrowf
      obtain ⟨dAf, dcf, rfl⟩ := hownf.form
      have Cf := ((V7.out.hd.alloc _).drew).blk ((V7.out.chk.alloc (.cells #[.int .i64 a, .int .i64 (h - tk + lv), .int .i64 t] 128)).drew) hgrowf (by decide)
      have scf : wf.cell? ⟨g, 7, none⟩ = some (.slice dA D.length dc) := Cf.cell 7
      have sff := Cf.frozen 7
      have Ikf := ((V7.out.hd.alloc _).drew).blk (((I7).alloc (.cells #[.int .i64 a, .int .i64 (h - tk + lv), .int .i64 t] 128)).drew) hgrowf (by decide)
      have Nkf := ((V7.out.hd.alloc _).drew).blk (((N7).alloc (.cells #[.int .i64 a, .int .i64 (h - tk + lv), .int .i64 t] 128)).drew) hgrowf (by decide)
      have A3f : wf.cell? ⟨g, 7, none⟩ = some (.slice dA D.length dc) ∧ wf.cell? ⟨W.heap.size + 1, 1, none⟩ = some (.int .i64 a) ∧ wf.cell? ⟨w6.heap.size, 0, none⟩ = some (.int .i64 (h - tk + lv)) ∧ wf.cell? ⟨w6.heap.size, 1, none⟩ = some (.int .i64 t) := ⟨scf, Ikf.cell 1, Nkf.cell 0, Nkf.cell 1⟩
      have Vf := Ef.push (y := (a, (h - tk + lv, t))) hgrowf hownf rfl
      have If := Ef.pushBlk (((I7).alloc (.cells #[.int .i64 a, .int .i64 (h - tk + lv), .int .i64 t] 128)).drew) (by decide) (by decide) hgrowf (dv' := .slice dAf (D.length + 1) dcf)
      have Nf := Ef.pushBlk (((N7).alloc (.cells #[.int .i64 a, .int .i64 (h - tk + lv), .int .i64 t] 128)).drew) (by decide) (by decide) hgrowf (dv' := .slice dAf (D.length + 1) dcf)
      refine hK.out _ _ ?_ (fun hHeld => ?_)
      · exact A3f
      clear hK K
      try simp only [Act.put, List.setIfInBounds_toArray, List.set_cons_zero, List.set_cons_succ]
      refine wpAnyH_take (i := 11) (oi := ⟨some 97, _, _, _, _, _⟩) (v := ?_) rfl (by kernel_rfl) (by kernel_rfl) (by kernel_rfl) (fun _ _ _ h => h) (Or.inl ⟨by kernel_rfl, ?_⟩) (by assumption) ?_
      rotate_left
      · intro w hSw
        go_simp
        try with_reducible rfl
      try simp only [Act.put, List.setIfInBounds_toArray, List.set_cons_zero, List.set_cons_succ]
      refine wpAnyH_take (i := 12) (oi := ⟨some 98, _, _, _, _, _⟩) (v := ?_) rfl (by kernel_rfl) (by kernel_rfl) (by kernel_rfl) (fun _ _ _ h => h) (Or.inl ⟨by kernel_rfl, ?_⟩) (by assumption) ?_
      rotate_left
      · intro w hSw
        go_simp
        try with_reducible rfl
      try simp only [Act.put, List.setIfInBounds_toArray, List.set_cons_zero, List.set_cons_succ]
      refine wpAnyH_done (by kernel_rfl) ?_ _
      refine lastPost_run (o := ⟨none, _, _, _, _, _⟩) rfl (fun K hK => ?_)
      go_simp
      refine hK.out _ _ ?_
      clear hK K
      have hlf : D.length + 1 = (D ++ [(a, (h - tk + lv, t))]).length := by simp
      clear A1f A2f A3f
      generalize hDef : D ++ [(a, (h - tk + lv, t))] = Df at Vf hlf
      have HDf := Lib.hid hDef
      clear hDef
      rw [hlf] at Vf If Nf ⊢
      generalize wf.setCell ⟨g, 7, none⟩ (.slice dAf Df.length dcf) = uf at Vf If Nf ⊢
      have Vf := Lib.hid Vf
      have hDf : Df.length ≤ 100001 := by omega
      clear Ef Cf scf sff hownf hgrowf
      have i0ft := (If).cell 0
      have i1ft := (If).cell 1
      have i2ft := (If).cell 2
      go_wp2_with fail
      refine (c22 _ _ _ _).mono ?_
      rintro e wxft ⟨rfl, bft⟩
      have VXft := Lib.hid (Vf.out.next bft)
      have IXft := (If).next bft
      have NXft := (Nf).next bft
      clear bft i0ft i1ft i2ft
      rw [he]
      go_wp2_with fail
      go_ret
      exact ⟨by rw [HX.out]; simp, _, _, VXft.out, fun _ => by rw [HNW.out, ← HDf.out]; simp [he]⟩
    have f10 : (o == 10) = false := beq_eq_false_iff_ne.2 h10
    have F10 := h10
    by_cases h11 : o = 11
    · subst h11
      clear f33 f34 f10 h33 h34 h10 F33 F34 F10
      have he : gEnds 11 = false := by decide
      go_wp2_with fail
      generalize w6.alloc (.cells #[.int .i64 (h - tk + lv), .int .i64 t] 122) = w7 at V7 I7 S7 N7 i0 i1 i2 n0 n1 s0 s1 ⊢
      have Eg2 := (V7.out.alloc (.cells #[.int .i64 a, .int .i64 (h - tk + lv), .int .i64 t] 128)).drew
      have A1g2 : (w7.drew).cell? ⟨g, 7, none⟩ = some (.slice dA D.length dc) ∧ (w7.drew).cell? ⟨W.heap.size + 1, 1, none⟩ = some (.int .i64 a) ∧ (w7.drew).cell? ⟨w6.heap.size, 0, none⟩ = some (.int .i64 (h - tk + lv)) ∧ (w7.drew).cell? ⟨w6.heap.size, 1, none⟩ = some (.int .i64 t) := ⟨V7.out.c7, I7.cell 1, N7.cell 0, N7.cell 1⟩
      have A2g2 : (w7.alloc (.cells #[.int .i64 a, .int .i64 (h - tk + lv), .int .i64 t] 128)).drew.cell? ⟨g, 7, none⟩ = some (.slice dA D.length dc) ∧ (w7.alloc (.cells #[.int .i64 a, .int .i64 (h - tk + lv), .int .i64 t] 128)).drew.cell? ⟨W.heap.size + 1, 1, none⟩ = some (.int .i64 a) ∧ (w7.alloc (.cells #[.int .i64 a, .int .i64 (h - tk + lv), .int .i64 t] 128)).drew.cell? ⟨w6.heap.size, 0, none⟩ = some (.int .i64 (h - tk + lv)) ∧ (w7.alloc (.cells #[.int .i64 a, .int .i64 (h - tk + lv), .int .i64 t] 128)).drew.cell? ⟨w6.heap.size, 1, none⟩ = some (.int .i64 t) := ⟨Eg2.c7, (((I7).alloc (.cells #[.int .i64 a, .int .i64 (h - tk + lv), .int .i64 t] 128)).drew).cell 1, (((N7).alloc (.cells #[.int .i64 a, .int .i64 (h - tk + lv), .int .i64 t] 128)).drew).cell 0, (((N7).alloc (.cells #[.int .i64 a, .int .i64 (h - tk + lv), .int .i64 t] 128)).drew).cell 1⟩
      have hvg2 := V7.out.chk.lt
      refine wp_region_last (S := fun X => X.cell? ⟨g, 7, none⟩ = some (.slice dA D.length dc) ∧ X.cell? ⟨W.heap.size + 1, 1, none⟩ = some (.int .i64 a) ∧ X.cell? ⟨w6.heap.size, 0, none⟩ = some (.int .i64 (h - tk + lv)) ∧ X.cell? ⟨w6.heap.size, 1, none⟩ = some (.int .i64 t)) 13 (by kernel_rfl) (by kernel_rfl) (by kernel_rfl) (by kernel_rfl) A1g2 (fun hHeld => ?_)
      refine wpAnyH_take (i := 0) (oi := ⟨some 86, _, _, _, _, _⟩) (v := ?_) rfl (by kernel_rfl) (by kernel_rfl) (by kernel_rfl) (fun _ _ _ h => h) (Or.inl ⟨by kernel_rfl, ?_⟩) (by assumption) ?_
      rotate_left
      · intro w hSw
        go_simp
        try with_reducible rfl
      try simp only [Act.put, List.setIfInBounds_toArray, List.set_cons_zero, List.set_cons_succ]
      refine wpAnyH_take (i := 1) (oi := ⟨some 87, _, _, _, _, _⟩) (v := ?_) rfl (by kernel_rfl) (by kernel_rfl) (by kernel_rfl) (fun _ _ _ h => h) (Or.inl ⟨by kernel_rfl, ?_⟩) (by assumption) ?_
      rotate_left
      · intro w hSw
        go_simp
        try with_reducible rfl
      try simp only [Act.put, List.setIfInBounds_toArray, List.set_cons_zero, List.set_cons_succ]
      refine wpAnyH_take (i := 2) (oi := ⟨some 88, _, _, _, _, _⟩) (v := ?_) rfl (by kernel_rfl) (by kernel_rfl) (by kernel_rfl) (fun _ _ _ h => h) (Or.inl ⟨by kernel_rfl, ?_⟩) (by assumption) ?_
      rotate_left
      · intro w hSw
        go_simp
        try with_reducible rfl
      try simp only [Act.put, List.setIfInBounds_toArray, List.set_cons_zero, List.set_cons_succ]
      refine wpAnyH_take (i := 3) (oi := ⟨some 89, _, _, _, _, _⟩) (v := ?_) rfl (by kernel_rfl) (by kernel_rfl) (by kernel_rfl) (fun _ _ _ h => h) (Or.inl ⟨by kernel_rfl, ?_⟩) (by assumption) ?_
      rotate_left
      · intro w hSw
        go_simp
        try with_reducible rfl
      try simp only [Act.put, List.setIfInBounds_toArray, List.set_cons_zero, List.set_cons_succ]
      refine wpAnyH_take (i := 4) (oi := ⟨some 90, _, _, _, _, _⟩) (v := ?_) rfl (by kernel_rfl) (by kernel_rfl) (by kernel_rfl) (fun _ _ _ h => h) (Or.inl ⟨by kernel_rfl, ?_⟩) (by assumption) ?_
      rotate_left
      · intro w hSw
        go_simp
        try with_reducible rfl
      try simp only [Act.put, List.setIfInBounds_toArray, List.set_cons_zero, List.set_cons_succ]
      refine wpAnyH_take (i := 5) (oi := ⟨some 91, _, _, _, _, _⟩) (v := ?_) rfl (by kernel_rfl) (by kernel_rfl) (by kernel_rfl) (fun _ _ _ h => h) (Or.inl ⟨by kernel_rfl, ?_⟩) (by assumption) ?_
      rotate_left
      · intro w hSw
        go_simp
        try with_reducible rfl
      try simp only [Act.put, List.setIfInBounds_toArray, List.set_cons_zero, List.set_cons_succ]
      refine wpAnyH_take (i := 6) (oi := ⟨some 92, _, _, _, _, _⟩) (v := ?_) rfl (by kernel_rfl) (by kernel_rfl) (by kernel_rfl) (fun _ _ _ h => h) (Or.inl ⟨by kernel_rfl, ?_⟩) (by assumption) ?_
      rotate_left
      · intro w hSw
        go_simp
        try with_reducible rfl
      try simp only [Act.put, List.setIfInBounds_toArray, List.set_cons_zero, List.set_cons_succ]
      refine wpAnyH_take (i := 7) (oi := ⟨some 93, _, _, _, _, _⟩) (v := ?_) rfl (by kernel_rfl) (by kernel_rfl) (by kernel_rfl) (fun _ _ _ h => h) (Or.inl ⟨by kernel_rfl, ?_⟩) (by assumption) ?_
      rotate_left
      · intro w hSw
        go_simp
        try with_reducible rfl
      try simp only [Act.put, List.setIfInBounds_toArray, List.set_cons_zero, List.set_cons_succ]
      refine wpAnyH_take (i := 8) (oi := ⟨some 94, _, _, _, _, _⟩) (v := ?_) rfl (by kernel_rfl) (by kernel_rfl) (by kernel_rfl) (fun _ _ _ h => h) (Or.inl ⟨by kernel_rfl, ?_⟩) (by assumption) ?_
      rotate_left
      · intro w hSw
        go_simp
        try with_reducible rfl
      try simp only [Act.put, List.setIfInBounds_toArray, List.set_cons_zero, List.set_cons_succ]
      refine wpAnyH_ready (rs := [9]) (by kernel_rfl) (by simp) ?_
      refine AllReadyH.cons (o := ⟨some 95, _, _, _, _, _⟩) rfl (fun K hK => ?_) AllReadyH.nil
      go_simp
      refine hK.out _ _ ?_ (fun hHeld => ?_)
      · exact A2g2
      clear hK K
      try simp only [Act.put, List.setIfInBounds_toArray, List.set_cons_zero, List.set_cons_succ]
      refine wpAnyH_ready (rs := [10]) (by kernel_rfl) (by simp) ?_
      refine AllReadyH.cons (o := ⟨some 96, _, _, _, _, _⟩) rfl (fun K hK => ?_) AllReadyH.nil
      refine step_append_que _ (by rfl) (.tmp 90) (.tmp 95) 119 (by rfl) (g + 1) 128 ti _ 3 24 Tryd.underlying119 hi0 hz0 hz1 hz2 rfl (by omega) (.slice dA D.length dc) D.length (D.flatMap nxCells) (by rfl) ((V7.out.hd.alloc _).drew) ⟨w7.heap.size, 0, none⟩ 1 1 [.int .i64 a, .int .i64 (h - tk + lv), .int .i64 t] (by rfl) rfl (World.news_of_block (cs := #[.int .i64 a, .int .i64 (h - tk + lv), .int .i64 t]) (t := 128) (fr := (0, 0)) (heap_alloc_new w7 _)) (by simp [Value.oneCell']) (by unfold maxLen; omega) (by omega) (by have := V7.out.chk.lt; simp; omega) ?_
      intro vg2 wg2 howng2 hgrowg2
      obtain ⟨dAg2, dcg2, rfl⟩ := howng2.form
      have Cg2 := ((V7.out.hd.alloc _).drew).blk ((V7.out.chk.alloc (.cells #[.int .i64 a, .int .i64 (h - tk + lv), .int .i64 t] 128)).drew) hgrowg2 (by decide)
      have scg2 : wg2.cell? ⟨g, 7, none⟩ = some (.slice dA D.length dc) := Cg2.cell 7
      have sfg2 := Cg2.frozen 7
      have Ikg2 := ((V7.out.hd.alloc _).drew).blk (((I7).alloc (.cells #[.int .i64 a, .int .i64 (h - tk + lv), .int .i64 t] 128)).drew) hgrowg2 (by decide)
      have Nkg2 := ((V7.out.hd.alloc _).drew).blk (((N7).alloc (.cells #[.int .i64 a, .int .i64 (h - tk + lv), .int .i64 t] 128)).drew) hgrowg2 (by decide)
      have A3g2 : wg2.cell? ⟨g, 7, none⟩ = some (.slice dA D.length dc) ∧ wg2.cell? ⟨W.heap.size + 1, 1, none⟩ = some (.int .i64 a) ∧ wg2.cell? ⟨w6.heap.size, 0, none⟩ = some (.int .i64 (h - tk + lv)) ∧ wg2.cell? ⟨w6.heap.size, 1, none⟩ = some (.int .i64 t) := ⟨scg2, Ikg2.cell 1, Nkg2.cell 0, Nkg2.cell 1⟩
      have Vg2 := Eg2.push (y := (a, (h - tk + lv, t))) hgrowg2 howng2 rfl
      have Ig2 := Eg2.pushBlk (((I7).alloc (.cells #[.int .i64 a, .int .i64 (h - tk + lv), .int .i64 t] 128)).drew) (by decide) (by decide) hgrowg2 (dv' := .slice dAg2 (D.length + 1) dcg2)
      have Ng2 := Eg2.pushBlk (((N7).alloc (.cells #[.int .i64 a, .int .i64 (h - tk + lv), .int .i64 t] 128)).drew) (by decide) (by decide) hgrowg2 (dv' := .slice dAg2 (D.length + 1) dcg2)
      refine hK.out _ _ ?_ (fun hHeld => ?_)
      · exact A3g2
      clear hK K
      try simp only [Act.put, List.setIfInBounds_toArray, List.set_cons_zero, List.set_cons_succ]
      refine wpAnyH_take (i := 11) (oi := ⟨some 97, _, _, _, _, _⟩) (v := ?_) rfl (by kernel_rfl) (by kernel_rfl) (by kernel_rfl) (fun _ _ _ h => h) (Or.inl ⟨by kernel_rfl, ?_⟩) (by assumption) ?_
      rotate_left
      · intro w hSw
        go_simp
        try with_reducible rfl
      try simp only [Act.put, List.setIfInBounds_toArray, List.set_cons_zero, List.set_cons_succ]
      refine wpAnyH_take (i := 12) (oi := ⟨some 98, _, _, _, _, _⟩) (v := ?_) rfl (by kernel_rfl) (by kernel_rfl) (by kernel_rfl) (fun _ _ _ h => h) (Or.inl ⟨by kernel_rfl, ?_⟩) (by assumption) ?_
      rotate_left
      · intro w hSw
        go_simp
        try with_reducible rfl
      try simp only [Act.put, List.setIfInBounds_toArray, List.set_cons_zero, List.set_cons_succ]
      refine wpAnyH_done (by kernel_rfl) ?_ _
      refine lastPost_run (o := ⟨none, _, _, _, _, _⟩) rfl (fun K hK => ?_)
      go_simp
      refine hK.out _ _ ?_
      clear hK K
      have hlg2 : D.length + 1 = (D ++ [(a, (h - tk + lv, t))]).length := by simp
      clear A1g2 A2g2 A3g2
      generalize hDeg2 : D ++ [(a, (h - tk + lv, t))] = Dg2 at Vg2 hlg2
      have HDg2 := Lib.hid hDeg2
      clear hDeg2
      rw [hlg2] at Vg2 Ig2 Ng2 ⊢
      generalize wg2.setCell ⟨g, 7, none⟩ (.slice dAg2 Dg2.length dcg2) = ug2 at Vg2 Ig2 Ng2 ⊢
      have Vg2 := Lib.hid Vg2
      have hDg2 : Dg2.length ≤ 100002 := by omega
      clear Eg2 Cg2 scg2 sfg2 howng2 hgrowg2
      have i0g2t := (Ig2).cell 0
      have i1g2t := (Ig2).cell 1
      have i2g2t := (Ig2).cell 2
      go_wp2_with fail
      refine (c22 _ _ _ _).mono ?_
      rintro e wxg2t ⟨rfl, bg2t⟩
      have VXg2t := Lib.hid (Vg2.out.next bg2t)
      have IXg2t := (Ig2).next bg2t
      have NXg2t := (Ng2).next bg2t
      clear bg2t i0g2t i1g2t i2g2t
      rw [he]
      go_wp2_with fail

      have Eg2tz := (VXg2t.out.alloc (.cells #[.int .i64 ((k : Int) + 1), .int .i64 (h - tk + lv), .int .i64 (t)] 128)).drew
      have A1g2tz : (wxg2t.drew).cell? ⟨g, 7, none⟩ = some (.slice dAg2 Dg2.length dcg2) ∧ (wxg2t.drew).cell? ⟨w6.heap.size, 0, none⟩ = some (.int .i64 (h - tk + lv)) ∧ (wxg2t.drew).cell? ⟨w6.heap.size, 1, none⟩ = some (.int .i64 (t)) := ⟨VXg2t.out.c7, NXg2t.cell 0, NXg2t.cell 1⟩
      have A2g2tz : (wxg2t.alloc (.cells #[.int .i64 ((k : Int) + 1), .int .i64 (h - tk + lv), .int .i64 (t)] 128)).drew.cell? ⟨g, 7, none⟩ = some (.slice dAg2 Dg2.length dcg2) ∧ (wxg2t.alloc (.cells #[.int .i64 ((k : Int) + 1), .int .i64 (h - tk + lv), .int .i64 (t)] 128)).drew.cell? ⟨w6.heap.size, 0, none⟩ = some (.int .i64 (h - tk + lv)) ∧ (wxg2t.alloc (.cells #[.int .i64 ((k : Int) + 1), .int .i64 (h - tk + lv), .int .i64 (t)] 128)).drew.cell? ⟨w6.heap.size, 1, none⟩ = some (.int .i64 (t)) := ⟨Eg2tz.c7, (((NXg2t).alloc (.cells #[.int .i64 ((k : Int) + 1), .int .i64 (h - tk + lv), .int .i64 (t)] 128)).drew).cell 0, (((NXg2t).alloc (.cells #[.int .i64 ((k : Int) + 1), .int .i64 (h - tk + lv), .int .i64 (t)] 128)).drew).cell 1⟩
      have hvg2tz := VXg2t.out.chk.lt
      refine wp_region_last (S := fun X => X.cell? ⟨g, 7, none⟩ = some (.slice dAg2 Dg2.length dcg2) ∧ X.cell? ⟨w6.heap.size, 0, none⟩ = some (.int .i64 (h - tk + lv)) ∧ X.cell? ⟨w6.heap.size, 1, none⟩ = some (.int .i64 (t))) 13 (by kernel_rfl) (by kernel_rfl) (by kernel_rfl) (by kernel_rfl) A1g2tz (fun hHeld => ?_)
      refine wpAnyH_take (i := 0) (oi := ⟨some 102, _, _, _, _, _⟩) (v := ?_) rfl (by kernel_rfl) (by kernel_rfl) (by kernel_rfl) (fun _ _ _ h => h) (Or.inl ⟨by kernel_rfl, ?_⟩) (by assumption) ?_
      rotate_left
      · intro w hSw
        go_simp
        try with_reducible rfl
      try simp only [Act.put, List.setIfInBounds_toArray, List.set_cons_zero, List.set_cons_succ]
      refine wpAnyH_take (i := 1) (oi := ⟨some 103, _, _, _, _, _⟩) (v := ?_) rfl (by kernel_rfl) (by kernel_rfl) (by kernel_rfl) (fun _ _ _ h => h) (Or.inl ⟨by kernel_rfl, ?_⟩) (by assumption) ?_
      rotate_left
      · intro w hSw
        go_simp
        try with_reducible rfl
      try simp only [Act.put, List.setIfInBounds_toArray, List.set_cons_zero, List.set_cons_succ]
      refine wpAnyH_take (i := 2) (oi := ⟨some 104, _, _, _, _, _⟩) (v := ?_) rfl (by kernel_rfl) (by kernel_rfl) (by kernel_rfl) (fun _ _ _ h => h) (Or.inl ⟨by kernel_rfl, ?_⟩) (by assumption) ?_
      rotate_left
      · intro w hSw
        go_simp
        try with_reducible rfl
      try simp only [Act.put, List.setIfInBounds_toArray, List.set_cons_zero, List.set_cons_succ]
      refine wpAnyH_take (i := 3) (oi := ⟨some 105, _, _, _, _, _⟩) (v := ?_) rfl (by kernel_rfl) (by kernel_rfl) (by kernel_rfl) (fun _ _ _ h => h) (Or.inl ⟨by kernel_rfl, ?_⟩) (by assumption) ?_
      rotate_left
      · intro w hSw
        go_simp
        try with_reducible rfl
      try simp only [Act.put, List.setIfInBounds_toArray, List.set_cons_zero, List.set_cons_succ]
      refine wpAnyH_take (i := 4) (oi := ⟨some 106, _, _, _, _, _⟩) (v := ?_) rfl (by kernel_rfl) (by kernel_rfl) (by kernel_rfl) (fun _ _ _ h => h) (Or.inl ⟨by kernel_rfl, ?_⟩) (by assumption) ?_
      rotate_left
      · intro w hSw
        go_simp
        try with_reducible rfl
      try simp only [Act.put, List.setIfInBounds_toArray, List.set_cons_zero, List.set_cons_succ]
      refine wpAnyH_take (i := 5) (oi := ⟨some 107, _, _, _, _, _⟩) (v := ?_) rfl (by kernel_rfl) (by kernel_rfl) (by kernel_rfl) (fun _ _ _ h => h) (Or.inl ⟨by kernel_rfl, ?_⟩) (by assumption) ?_
      rotate_left
      · intro w hSw
        go_simp
        try with_reducible rfl
      try simp only [Act.put, List.setIfInBounds_toArray, List.set_cons_zero, List.set_cons_succ]
      refine wpAnyH_take (i := 6) (oi := ⟨some 108, _, _, _, _, _⟩) (v := ?_) rfl (by kernel_rfl) (by kernel_rfl) (by kernel_rfl) (fun _ _ _ h => h) (Or.inl ⟨by kernel_rfl, ?_⟩) (by assumption) ?_
      rotate_left
      · intro w hSw
        go_simp
        try with_reducible rfl
      try simp only [Act.put, List.setIfInBounds_toArray, List.set_cons_zero, List.set_cons_succ]
      refine wpAnyH_take (i := 7) (oi := ⟨some 109, _, _, _, _, _⟩) (v := ?_) rfl (by kernel_rfl) (by kernel_rfl) (by kernel_rfl) (fun _ _ _ h => h) (Or.inl ⟨by kernel_rfl, ?_⟩) (by assumption) ?_
      rotate_left
      · intro w hSw
        go_simp
        try with_reducible rfl
      try simp only [Act.put, List.setIfInBounds_toArray, List.set_cons_zero, List.set_cons_succ]
      refine wpAnyH_take (i := 8) (oi := ⟨some 110, _, _, _, _, _⟩) (v := ?_) rfl (by kernel_rfl) (by kernel_rfl) (by kernel_rfl) (fun _ _ _ h => h) (Or.inl ⟨by kernel_rfl, ?_⟩) (by assumption) ?_
      rotate_left
      · intro w hSw
        go_simp
        try with_reducible rfl
      try simp only [Act.put, List.setIfInBounds_toArray, List.set_cons_zero, List.set_cons_succ]
      refine wpAnyH_ready (rs := [9]) (by kernel_rfl) (by simp) ?_
      refine AllReadyH.cons (o := ⟨some 111, _, _, _, _, _⟩) rfl (fun K hK => ?_) AllReadyH.nil
      go_simp
      refine hK.out _ _ ?_ (fun hHeld => ?_)
      · exact A2g2tz
      clear hK K
      try simp only [Act.put, List.setIfInBounds_toArray, List.set_cons_zero, List.set_cons_succ]
      refine wpAnyH_ready (rs := [10]) (by kernel_rfl) (by simp) ?_
      refine AllReadyH.cons (o := ⟨some 112, _, _, _, _, _⟩) rfl (fun K hK => ?_) AllReadyH.nil
      refine step_append_que _ (by rfl) (.tmp 106) (.tmp 111) 119 (by rfl) (g + 1) 128 ti _ 3 24 Tryd.underlying119 hi0 hz0 hz1 hz2 rfl (by omega) (.slice dAg2 Dg2.length dcg2) Dg2.length (Dg2.flatMap nxCells) (by rfl) ((VXg2t.out.hd.alloc _).drew) ⟨wxg2t.heap.size, 0, none⟩ 1 1 [.int .i64 ((k : Int) + 1), .int .i64 (h - tk + lv), .int .i64 (t)] (by rfl) rfl (World.news_of_block (cs := #[.int .i64 ((k : Int) + 1), .int .i64 (h - tk + lv), .int .i64 (t)]) (t := 128) (fr := (0, 0)) (heap_alloc_new wxg2t _)) (by simp [Value.oneCell']) (by unfold maxLen; omega) (by omega) (by have := VXg2t.out.chk.lt; simp; omega) ?_
      intro vg2tz wg2tz howng2tz hgrowg2tz
      obtain ⟨dAg2tz, dcg2tz, rfl⟩ := howng2tz.form
      have Cg2tz := ((VXg2t.out.hd.alloc _).drew).blk ((VXg2t.out.chk.alloc (.cells #[.int .i64 ((k : Int) + 1), .int .i64 (h - tk + lv), .int .i64 (t)] 128)).drew) hgrowg2tz (by decide)
      have scg2tz : wg2tz.cell? ⟨g, 7, none⟩ = some (.slice dAg2 Dg2.length dcg2) := Cg2tz.cell 7
      have sfg2tz := Cg2tz.frozen 7
      have Nkg2tz := ((VXg2t.out.hd.alloc _).drew).blk (((NXg2t).alloc (.cells #[.int .i64 ((k : Int) + 1), .int .i64 (h - tk + lv), .int .i64 (t)] 128)).drew) hgrowg2tz (by decide)
      have A3g2tz : wg2tz.cell? ⟨g, 7, none⟩ = some (.slice dAg2 Dg2.length dcg2) ∧ wg2tz.cell? ⟨w6.heap.size, 0, none⟩ = some (.int .i64 (h - tk + lv)) ∧ wg2tz.cell? ⟨w6.heap.size, 1, none⟩ = some (.int .i64 (t)) := ⟨scg2tz, Nkg2tz.cell 0, Nkg2tz.cell 1⟩
      have Vg2tz := Eg2tz.push (y := ((k : Int) + 1, (h - tk + lv, t))) hgrowg2tz howng2tz rfl
      have Ig2tz := Eg2tz.pushBlk (((IXg2t).alloc (.cells #[.int .i64 ((k : Int) + 1), .int .i64 (h - tk + lv), .int .i64 (t)] 128)).drew) (by decide) (by decide) hgrowg2tz (dv' := .slice dAg2tz (Dg2.length + 1) dcg2tz)
      have Ng2tz := Eg2tz.pushBlk (((NXg2t).alloc (.cells #[.int .i64 ((k : Int) + 1), .int .i64 (h - tk + lv), .int .i64 (t)] 128)).drew) (by decide) (by decide) hgrowg2tz (dv' := .slice dAg2tz (Dg2.length + 1) dcg2tz)
      refine hK.out _ _ ?_ (fun hHeld => ?_)
      · exact A3g2tz
      clear hK K
      try simp only [Act.put, List.setIfInBounds_toArray, List.set_cons_zero, List.set_cons_succ]
      refine wpAnyH_take (i := 11) (oi := ⟨some 113, _, _, _, _, _⟩) (v := ?_) rfl (by kernel_rfl) (by kernel_rfl) (by kernel_rfl) (fun _ _ _ h => h) (Or.inl ⟨by kernel_rfl, ?_⟩) (by assumption) ?_
      rotate_left
      · intro w hSw
        go_simp
        try with_reducible rfl
      try simp only [Act.put, List.setIfInBounds_toArray, List.set_cons_zero, List.set_cons_succ]
      refine wpAnyH_take (i := 12) (oi := ⟨some 114, _, _, _, _, _⟩) (v := ?_) rfl (by kernel_rfl) (by kernel_rfl) (by kernel_rfl) (fun _ _ _ h => h) (Or.inl ⟨by kernel_rfl, ?_⟩) (by assumption) ?_
      rotate_left
      · intro w hSw
        go_simp
        try with_reducible rfl
      try simp only [Act.put, List.setIfInBounds_toArray, List.set_cons_zero, List.set_cons_succ]
      refine wpAnyH_done (by kernel_rfl) ?_ _
      refine lastPost_run (o := ⟨none, _, _, _, _, _⟩) rfl (fun K hK => ?_)
      go_simp
      refine hK.out _ _ ?_
      clear hK K
      have hlg2tz : Dg2.length + 1 = (Dg2 ++ [((k : Int) + 1, (h - tk + lv, t))]).length := by simp
      clear A1g2tz A2g2tz A3g2tz
      generalize hDeg2tz : Dg2 ++ [((k : Int) + 1, (h - tk + lv, t))] = Dg2tz at Vg2tz hlg2tz
      have HDg2tz := Lib.hid hDeg2tz
      clear hDeg2tz
      rw [hlg2tz] at Vg2tz Ig2tz Ng2tz ⊢
      generalize wg2tz.setCell ⟨g, 7, none⟩ (.slice dAg2tz Dg2tz.length dcg2tz) = ug2tz at Vg2tz Ig2tz Ng2tz ⊢
      have Vg2tz := Lib.hid Vg2tz
      have hDg2tz : Dg2tz.length ≤ 100002 := by omega
      clear Eg2tz Cg2tz scg2tz sfg2tz howng2tz hgrowg2tz
      go_wp2_with fail
      go_ret
      exact ⟨by rw [HX.out]; simp, _, _, Vg2tz.out, fun _ => by rw [HNW.out, ← HDg2tz.out, ← HDg2.out]; simp [he]⟩
    have f11 : (o == 11) = false := beq_eq_false_iff_ne.2 h11
    have F11 := h11
    have i0e := (I7).cell 0
    have i1e := (I7).cell 1
    have i2e := (I7).cell 2
    go_wp2_with fail
    refine (c22 _ _ _ _).mono ?_
    rintro e wxe ⟨rfl, be⟩
    have VXe := Lib.hid (V7.out.next be)
    have IXe := (I7).next be
    have NXe := (N7).next be
    clear be i0e i1e i2e
    cases he : gEnds o
    · have HE := Lib.hid he
      clear he
      go_wp2_with fail

      have Eez := (VXe.out.alloc (.cells #[.int .i64 ((k : Int) + 1), .int .i64 (h - tk + lv), .int .i64 (t)] 128)).drew
      have A1ez : (wxe.drew).cell? ⟨g, 7, none⟩ = some (.slice dA D.length dc) ∧ (wxe.drew).cell? ⟨w6.heap.size, 0, none⟩ = some (.int .i64 (h - tk + lv)) ∧ (wxe.drew).cell? ⟨w6.heap.size, 1, none⟩ = some (.int .i64 (t)) := ⟨VXe.out.c7, NXe.cell 0, NXe.cell 1⟩
      have A2ez : (wxe.alloc (.cells #[.int .i64 ((k : Int) + 1), .int .i64 (h - tk + lv), .int .i64 (t)] 128)).drew.cell? ⟨g, 7, none⟩ = some (.slice dA D.length dc) ∧ (wxe.alloc (.cells #[.int .i64 ((k : Int) + 1), .int .i64 (h - tk + lv), .int .i64 (t)] 128)).drew.cell? ⟨w6.heap.size, 0, none⟩ = some (.int .i64 (h - tk + lv)) ∧ (wxe.alloc (.cells #[.int .i64 ((k : Int) + 1), .int .i64 (h - tk + lv), .int .i64 (t)] 128)).drew.cell? ⟨w6.heap.size, 1, none⟩ = some (.int .i64 (t)) := ⟨Eez.c7, (((NXe).alloc (.cells #[.int .i64 ((k : Int) + 1), .int .i64 (h - tk + lv), .int .i64 (t)] 128)).drew).cell 0, (((NXe).alloc (.cells #[.int .i64 ((k : Int) + 1), .int .i64 (h - tk + lv), .int .i64 (t)] 128)).drew).cell 1⟩
      have hvez := VXe.out.chk.lt
      refine wp_region_last (S := fun X => X.cell? ⟨g, 7, none⟩ = some (.slice dA D.length dc) ∧ X.cell? ⟨w6.heap.size, 0, none⟩ = some (.int .i64 (h - tk + lv)) ∧ X.cell? ⟨w6.heap.size, 1, none⟩ = some (.int .i64 (t))) 13 (by kernel_rfl) (by kernel_rfl) (by kernel_rfl) (by kernel_rfl) A1ez (fun hHeld => ?_)
      refine wpAnyH_take (i := 0) (oi := ⟨some 102, _, _, _, _, _⟩) (v := ?_) rfl (by kernel_rfl) (by kernel_rfl) (by kernel_rfl) (fun _ _ _ h => h) (Or.inl ⟨by kernel_rfl, ?_⟩) (by assumption) ?_
      rotate_left
      · intro w hSw
        go_simp
        try with_reducible rfl
      try simp only [Act.put, List.setIfInBounds_toArray, List.set_cons_zero, List.set_cons_succ]
      refine wpAnyH_take (i := 1) (oi := ⟨some 103, _, _, _, _, _⟩) (v := ?_) rfl (by kernel_rfl) (by kernel_rfl) (by kernel_rfl) (fun _ _ _ h => h) (Or.inl ⟨by kernel_rfl, ?_⟩) (by assumption) ?_
      rotate_left
      · intro w hSw
        go_simp
        try with_reducible rfl
      try simp only [Act.put, List.setIfInBounds_toArray, List.set_cons_zero, List.set_cons_succ]
      refine wpAnyH_take (i := 2) (oi := ⟨some 104, _, _, _, _, _⟩) (v := ?_) rfl (by kernel_rfl) (by kernel_rfl) (by kernel_rfl) (fun _ _ _ h => h) (Or.inl ⟨by kernel_rfl, ?_⟩) (by assumption) ?_
      rotate_left
      · intro w hSw
        go_simp
        try with_reducible rfl
      try simp only [Act.put, List.setIfInBounds_toArray, List.set_cons_zero, List.set_cons_succ]
      refine wpAnyH_take (i := 3) (oi := ⟨some 105, _, _, _, _, _⟩) (v := ?_) rfl (by kernel_rfl) (by kernel_rfl) (by kernel_rfl) (fun _ _ _ h => h) (Or.inl ⟨by kernel_rfl, ?_⟩) (by assumption) ?_
      rotate_left
      · intro w hSw
        go_simp
        try with_reducible rfl
      try simp only [Act.put, List.setIfInBounds_toArray, List.set_cons_zero, List.set_cons_succ]
      refine wpAnyH_take (i := 4) (oi := ⟨some 106, _, _, _, _, _⟩) (v := ?_) rfl (by kernel_rfl) (by kernel_rfl) (by kernel_rfl) (fun _ _ _ h => h) (Or.inl ⟨by kernel_rfl, ?_⟩) (by assumption) ?_
      rotate_left
      · intro w hSw
        go_simp
        try with_reducible rfl
      try simp only [Act.put, List.setIfInBounds_toArray, List.set_cons_zero, List.set_cons_succ]
      refine wpAnyH_take (i := 5) (oi := ⟨some 107, _, _, _, _, _⟩) (v := ?_) rfl (by kernel_rfl) (by kernel_rfl) (by kernel_rfl) (fun _ _ _ h => h) (Or.inl ⟨by kernel_rfl, ?_⟩) (by assumption) ?_
      rotate_left
      · intro w hSw
        go_simp
        try with_reducible rfl
      try simp only [Act.put, List.setIfInBounds_toArray, List.set_cons_zero, List.set_cons_succ]
      refine wpAnyH_take (i := 6) (oi := ⟨some 108, _, _, _, _, _⟩) (v := ?_) rfl (by kernel_rfl) (by kernel_rfl) (by kernel_rfl) (fun _ _ _ h => h) (Or.inl ⟨by kernel_rfl, ?_⟩) (by assumption) ?_
      rotate_left
      · intro w hSw
        go_simp
        try with_reducible rfl
      try simp only [Act.put, List.setIfInBounds_toArray, List.set_cons_zero, List.set_cons_succ]
      refine wpAnyH_take (i := 7) (oi := ⟨some 109, _, _, _, _, _⟩) (v := ?_) rfl (by kernel_rfl) (by kernel_rfl) (by kernel_rfl) (fun _ _ _ h => h) (Or.inl ⟨by kernel_rfl, ?_⟩) (by assumption) ?_
      rotate_left
      · intro w hSw
        go_simp
        try with_reducible rfl
      try simp only [Act.put, List.setIfInBounds_toArray, List.set_cons_zero, List.set_cons_succ]
      refine wpAnyH_take (i := 8) (oi := ⟨some 110, _, _, _, _, _⟩) (v := ?_) rfl (by kernel_rfl) (by kernel_rfl) (by kernel_rfl) (fun _ _ _ h => h) (Or.inl ⟨by kernel_rfl, ?_⟩) (by assumption) ?_
      rotate_left
      · intro w hSw
        go_simp
        try with_reducible rfl
      try simp only [Act.put, List.setIfInBounds_toArray, List.set_cons_zero, List.set_cons_succ]
      refine wpAnyH_ready (rs := [9]) (by kernel_rfl) (by simp) ?_
      refine AllReadyH.cons (o := ⟨some 111, _, _, _, _, _⟩) rfl (fun K hK => ?_) AllReadyH.nil
      go_simp
      refine hK.out _ _ ?_ (fun hHeld => ?_)
      · exact A2ez
      clear hK K
      try simp only [Act.put, List.setIfInBounds_toArray, List.set_cons_zero, List.set_cons_succ]
      refine wpAnyH_ready (rs := [10]) (by kernel_rfl) (by simp) ?_
      refine AllReadyH.cons (o := ⟨some 112, _, _, _, _, _⟩) rfl (fun K hK => ?_) AllReadyH.nil
      refine step_append_que _ (by rfl) (.tmp 106) (.tmp 111) 119 (by rfl) (g + 1) 128 ti _ 3 24 Tryd.underlying119 hi0 hz0 hz1 hz2 rfl (by omega) (.slice dA D.length dc) D.length (D.flatMap nxCells) (by rfl) ((VXe.out.hd.alloc _).drew) ⟨wxe.heap.size, 0, none⟩ 1 1 [.int .i64 ((k : Int) + 1), .int .i64 (h - tk + lv), .int .i64 (t)] (by rfl) rfl (World.news_of_block (cs := #[.int .i64 ((k : Int) + 1), .int .i64 (h - tk + lv), .int .i64 (t)]) (t := 128) (fr := (0, 0)) (heap_alloc_new wxe _)) (by simp [Value.oneCell']) (by unfold maxLen; omega) (by omega) (by have := VXe.out.chk.lt; simp; omega) ?_
      intro vez wez hownez hgrowez
      obtain ⟨dAez, dcez, rfl⟩ := hownez.form
      have Cez := ((VXe.out.hd.alloc _).drew).blk ((VXe.out.chk.alloc (.cells #[.int .i64 ((k : Int) + 1), .int .i64 (h - tk + lv), .int .i64 (t)] 128)).drew) hgrowez (by decide)
      have scez : wez.cell? ⟨g, 7, none⟩ = some (.slice dA D.length dc) := Cez.cell 7
      have sfez := Cez.frozen 7
      have Nkez := ((VXe.out.hd.alloc _).drew).blk (((NXe).alloc (.cells #[.int .i64 ((k : Int) + 1), .int .i64 (h - tk + lv), .int .i64 (t)] 128)).drew) hgrowez (by decide)
      have A3ez : wez.cell? ⟨g, 7, none⟩ = some (.slice dA D.length dc) ∧ wez.cell? ⟨w6.heap.size, 0, none⟩ = some (.int .i64 (h - tk + lv)) ∧ wez.cell? ⟨w6.heap.size, 1, none⟩ = some (.int .i64 (t)) := ⟨scez, Nkez.cell 0, Nkez.cell 1⟩
      have Vez := Eez.push (y := ((k : Int) + 1, (h - tk + lv, t))) hgrowez hownez rfl
      have Iez := Eez.pushBlk (((IXe).alloc (.cells #[.int .i64 ((k : Int) + 1), .int .i64 (h - tk + lv), .int .i64 (t)] 128)).drew) (by decide) (by decide) hgrowez (dv' := .slice dAez (D.length + 1) dcez)
      have Nez := Eez.pushBlk (((NXe).alloc (.cells #[.int .i64 ((k : Int) + 1), .int .i64 (h - tk + lv), .int .i64 (t)] 128)).drew) (by decide) (by decide) hgrowez (dv' := .slice dAez (D.length + 1) dcez)
      refine hK.out _ _ ?_ (fun hHeld => ?_)
      · exact A3ez
      clear hK K
      try simp only [Act.put, List.setIfInBounds_toArray, List.set_cons_zero, List.set_cons_succ]
      refine wpAnyH_take (i := 11) (oi := ⟨some 113, _, _, _, _, _⟩) (v := ?_) rfl (by kernel_rfl) (by kernel_rfl) (by kernel_rfl) (fun _ _ _ h => h) (Or.inl ⟨by kernel_rfl, ?_⟩) (by assumption) ?_
      rotate_left
      · intro w hSw
        go_simp
        try with_reducible rfl
      try simp only [Act.put, List.setIfInBounds_toArray, List.set_cons_zero, List.set_cons_succ]
      refine wpAnyH_take (i := 12) (oi := ⟨some 114, _, _, _, _, _⟩) (v := ?_) rfl (by kernel_rfl) (by kernel_rfl) (by kernel_rfl) (fun _ _ _ h => h) (Or.inl ⟨by kernel_rfl, ?_⟩) (by assumption) ?_
      rotate_left
      · intro w hSw
        go_simp
        try with_reducible rfl
      try simp only [Act.put, List.setIfInBounds_toArray, List.set_cons_zero, List.set_cons_succ]
      refine wpAnyH_done (by kernel_rfl) ?_ _
      refine lastPost_run (o := ⟨none, _, _, _, _, _⟩) rfl (fun K hK => ?_)
      go_simp
      refine hK.out _ _ ?_
      clear hK K
      have hlez : D.length + 1 = (D ++ [((k : Int) + 1, (h - tk + lv, t))]).length := by simp
      clear A1ez A2ez A3ez
      generalize hDeez : D ++ [((k : Int) + 1, (h - tk + lv, t))] = Dez at Vez hlez
      have HDez := Lib.hid hDeez
      clear hDeez
      rw [hlez] at Vez Iez Nez ⊢
      generalize wez.setCell ⟨g, 7, none⟩ (.slice dAez Dez.length dcez) = uez at Vez Iez Nez ⊢
      have Vez := Lib.hid Vez
      have hDez : Dez.length ≤ 100002 := by omega
      clear Eez Cez scez sfez hownez hgrowez
      go_wp2_with fail
      go_ret
      exact ⟨by rw [HX.out]; simp, _, _, Vez.out, fun _ => by rw [HNW.out, ← HDez.out]; simp [HE.out, F33, F34, F10, F11]⟩
    · have HE := Lib.hid he
      clear he
      go_wp2_with fail
      go_ret
      exact ⟨by rw [HX.out]; simp, _, _, VXe.out, fun _ => by rw [HNW.out]; simp [HE.out, F33, F10, F11]⟩
end Go.Proofs.YtiphicejaljhiaaDoor
