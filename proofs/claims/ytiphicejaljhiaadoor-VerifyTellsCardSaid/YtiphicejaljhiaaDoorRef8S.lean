/- stockpotref08.States: the states of a function of a program that may be. -/
import Derived.Test.YtiphicejaljhiaaDoorRef8V
import Derived.Test.YtiphicejaljhiaaDoorOwn
import Derived.Deep.CutRange
import Derived.Deep.CutBlock
import Derived.Deep.DeepCutAuto
import Derived.Deep.LoopGhost
namespace Go.Proofs.YtiphicejaljhiaaDoor
open Go.ChangeShapes Go.WideShapes Go.ChangeAt Go.RowKit
set_option linter.unusedSimpArgs false
def RsPost (w : World) (r : Option (List Sta)) (e : Ending) (W' : World) : Prop :=
  ∃ A c, e = .returned (.agg #[.slice A (r.getD []).length c, .bool r.isSome]) ∧ Reads W' W'.heap.size 2 A (r.getD []).length ((r.getD []).flatMap stCells) ∧ Below w.heap.size w W'
section
variable {w W : World} {q : PrMem} {x : Fnv} {r : Nat} {tv : Value} {L : List Sta} {T : List Nat} {res : Option (List Sta)}
/-- A cell of a block of another that lies behind. -/
theorem RSt.setN (h : RSt w W q x r tv L T) (b i : Nat) (u : Value) (hb : w.heap.size + 3 < b) (hs : r ≠ b) (ht : tv.ownBlock ≠ some b) : RSt w (W.setCell ⟨b, i, none⟩ u) q x r tv L T :=
  ⟨h.low.setCell (p := ⟨b, i, none⟩) (by show _ ≤ b; omega) _, h.P.far (by show _ ≠ b; omega) _, h.R.far (by show _ ≠ b; omega) _, h.F.far (by show _ ≠ b; omega) _, h.S.kept (grown_set W b i u) (.inr (by simpa [Value.ownBlock] using hs)), h.tr.kept (grown_set W b i u) (.inr ht)⟩
theorem RSt.blkR (h : RSt w W q x r tv L T) (y z : Value) : Blk ((W.setCell ⟨w.heap.size + 1, 0, none⟩ y).setCell ⟨w.heap.size + 1, 1, none⟩ z) (w.heap.size + 1) 70 #[y, z] ∧
    Below w.heap.size w ((W.setCell ⟨w.heap.size + 1, 0, none⟩ y).setCell ⟨w.heap.size + 1, 1, none⟩ z) :=
  ⟨(h.R.set_ 0 y).set_ 1 z, (h.low.setCell (p := ⟨w.heap.size + 1, 0, none⟩) (Nat.le_succ _) y).setCell (p := ⟨w.heap.size + 1, 1, none⟩) (Nat.le_succ _) z⟩
theorem RSt.end_no (h : RSt w W q x r tv L T) (hr : res = none) (a : Act) (h4 : a.tmps.getD 4 undef = .pointer (some ⟨w.heap.size + 1, 0, none⟩)) (hd : a.defers = []) :
    bodyPost Tryd.prog Tryd.f38 (RsPost w res) .ret a ((W.setCell ⟨w.heap.size + 1, 0, none⟩ (.slice none 0 0)).setCell ⟨w.heap.size + 1, 1, none⟩ (.bool false)) := by
  obtain ⟨k, b⟩ := h.blkR (.slice none 0 0) (.bool false)
  subst hr
  exact bodyPost_ret (results_cell_row rfl _ _ _ 70 _ (0, 0) _ h4 k Tryd.underlying70 rfl (by kernel_rfl)) hd ⟨none, 0, rfl, Reads.none_, b⟩
theorem RSt.end_yes (h : RSt w W q x r tv L T) (hr : res = some L) (a : Act) (h4 : a.tmps.getD 4 undef = .pointer (some ⟨w.heap.size + 1, 0, none⟩)) (hd : a.defers = []) :
    bodyPost Tryd.prog Tryd.f38 (RsPost w res) .ret a ((W.setCell ⟨w.heap.size + 1, 0, none⟩ (.slice (some ⟨r, 0, none⟩) L.length L.length)).setCell ⟨w.heap.size + 1, 1, none⟩ (.bool true)) := by
  obtain ⟨k, b⟩ := h.blkR (.slice (some ⟨r, 0, none⟩) L.length L.length) (.bool true)
  subst hr
  refine bodyPost_ret (results_cell_row rfl _ _ _ 70 _ (0, 0) _ h4 k Tryd.underlying70 rfl (by kernel_rfl)) hd ⟨_, L.length, rfl, ?_, b⟩
  exact Reads.of_own (own_set (own_set h.S h.R (by decide)) (h.R.set_ 0 _) (by decide))
end
theorem rRun_step (code : List Ins) (n : Nat) (L : List Sta) (k : Nat) (T : List Nat) : rRun code (n + 1) L (k :: T) =
    if rOk (code.getD k ⟨0, 0, 0⟩) (L.getD k unk) then
      match rPush L T (rNews (code.getD k ⟨0, 0, 0⟩) k (L.getD k unk)) with
      | none => none
      | some r => rRun code n r.1 r.2
    else none := by rw [rRun]; rfl
theorem c16z {o a b : Int} (hg : insGood ⟨o, a, b⟩ = true) (w : World) : Calls Tryd.prog 16 #[.agg #[.int .i64 o, .int .i64 a, .int .i64 b]] w fun e w' => e = .returned (.agg #[.int .i64 (gTakes o a b), .int .i64 (gLeaves o)]) ∧ Below w.heap.size w w' := by
  have h := c16 o a b w
  rw [rEff_good (show gGood o a b = true from hg)] at h
  exact h
theorem made_sta (n : Nat) : (madeCells (Value.agg #[.int .i64 0, .int .i64 0]).cells (n * 2)).toList = (List.replicate n ((0, 0) : Sta)).flatMap stCells := by
  have e : (List.replicate n ((0, 0) : Sta)).flatMap stCells = List.replicate (n * 2) (.int .i64 0) := by
    induction n with
    | zero => rfl
    | succ n ih =>
      rw [List.replicate_succ, List.flatMap_cons, ih, Nat.succ_mul, Nat.add_comm]
      exact List.replicate_append_replicate (n := 2)
  rw [e]
  unfold madeCells
  apply List.ext_getElem
  · simp
  · intro i h1 h2
    have hm : i % 2 = 0 ∨ i % 2 = 1 := by omega
    simp only [Array.toList_map, List.getElem_map, List.getElem_replicate]
    rcases hm with hm | hm <;> simp [Value.cells, hm]
theorem own_new8 (w : World) {b n cap : Nat} {e : TypeId} {s : Nat} {xs : List Value} (hb : b ≤ w.heap.size) (hn : xs.length = n * s) (hm : n ≤ maxLen) (hc : cap = n) :
    (w.alloc (.cells xs.toArray e)).ownsRow b e s (.slice (some ⟨w.heap.size, 0, none⟩) n cap) n xs := by
  subst hc
  exact ⟨hn, .inr ⟨w.heap.size, cap, xs.toArray, rfl, hb, heap_alloc_new w _, Nat.le_refl _, hm, by simpa using hn, by rw [List.take_of_length_le (by simp [hn])]⟩⟩
theorem step_call8 {ops : Array Oper} {o : Oper} {a : Act} {w : World} {K : Act → World → Prop} {Q : Exit → Act → World → Prop} {E : Prop} (hgd : o.guard = none) (f : Nat) (xs : Array Operand) (ts : Array TypeId)
    (ho : o.op = .call { callee := .value (.func f), args := xs, argTypes := ts }) (fn : Func) (hf : Tryd.prog.funcs[f]? = some fn) (hname : (fn.name == "runtime.NumGoroutine") = false) (hb : fn.body.isNone = false) (vs : Array Value) (hv0 : xs.toList.map a.eval = vs.toList) {R : Ending → World → Prop} (hc : Calls Tryd.prog f vs w R) (h : ∀ e w', R e w' → ∃ v, e = .returned v ∧ K (a.put o.dst v) w') :
    if Region.wanted o (yielded ops a.tmps) = true then Oper.wp Tryd.prog o a w K Q else E := by
  have hw : Region.wanted o (yielded ops a.tmps) = true := by simp [Region.wanted, hgd]
  rw [if_pos hw]
  have hv : xs.map a.eval = vs := Array.toList_inj.1 (by rw [Array.toList_map]; exact hv0)
  have h1 : ¬ fn.name = "runtime.NumGoroutine" := by simpa using hname
  have h2 : ¬ fn.body = none := by cases hx : fn.body <;> simp_all
  have hrun : (execOp a.eval o).run Tryd.prog w = .ok (.enter f vs) w := by
    unfold execOp
    simp [ho, resolve, Deferred.ofValue, invoke, callFunc, hf, h1, h2, Act.eval, hv]
  unfold Oper.wp
  rw [hrun]
  exact hc.mono fun e w' hr => by
    obtain ⟨v, rfl, hk⟩ := h e w' hr
    exact hk
set_option maxRecDepth 100000 in
set_option maxHeartbeats 8000000 in
theorem c38 (q : PrMem) (k0 : Nat) (x : Fnv) (hx : q.L[k0]? = some x) (w : World) (hq : PrOk w w.heap.size q) (hg : gPr q.pr = true) :
    Calls Tryd.prog 38 #[q.val, .int .i64 k0] w (RsPost w (rStates q.pr x.fn)) := by
  obtain ⟨ti, hi0, hz0, hz1, hz2⟩ := info_parts pair_info
  obtain ⟨i3, fi3, nz0, nz1, nz2⟩ := info_parts (show (Tryd.prog.info? 3).map (fun i => (i.zero, i.size, i.bytes)) = some (some (.int .i64 0), 1, 8) by kernel_rfl)
  have hk : k0 < q.L.length := (List.getElem?_eq_some_iff.1 hx).1
  have hxm : x ∈ q.L := List.mem_of_getElem? hx
  obtain ⟨hgi, hl0, hl6⟩ := gPr_code hg (f := x.fn) (List.mem_map.2 ⟨x, hxm, rfl⟩)
  have hs := gPr_sizes hg
  have hll : q.pr.funcs.length = q.L.length := List.length_map ..
  rw [hll] at hs
  have b1 := next_ (below_new w (.cells #[.slice q.AF q.L.length q.cF, .slice q.AS q.S.length q.cS, .slice q.AM q.M.length q.cM] 42)) (below_new _ (.cells #[.slice none 0 0, .bool false] 70))
  have Q1 := hq.next b1
  obtain ⟨ad, e, adb, hcs⟩ := Reads.rowAt (f := Fnv.cells) (m := 3) (fun _ => rfl) Q1.fns (by decide) hx
  have hfn := hq.fn x hxm
  have P1 := (Blk.new w 42 #[.slice q.AF q.L.length q.cF, .slice q.AS q.S.length q.cS, .slice q.AM q.M.length q.cM]).alloc (.cells #[.slice none 0 0, .bool false] 70)
  have R1 := Blk.new (w.alloc (.cells #[.slice q.AF q.L.length q.cF, .slice q.AS q.S.length q.cS, .slice q.AM q.M.length q.cM] 42)) 70 #[.slice none 0 0, .bool false]
  rw [World.size_alloc] at R1
  have e1 : ((w.alloc (.cells #[.slice q.AF q.L.length q.cF, .slice q.AS q.S.length q.cS, .slice q.AM q.M.length q.cM] 42)).alloc (.cells #[.slice none 0 0, .bool false] 70)).heap.size = w.heap.size + 2 := by rw [World.size_alloc, World.size_alloc]
  have HB1 := Lib.hid b1
  have HQ := Lib.hid hq
  have HG := Lib.hid hgi
  have HX := Lib.hid hfn
  have HCS := Lib.hid hcs
  have HP1 := Lib.hid P1
  have HR1 := Lib.hid R1
  have p0 := P1.cell 0
  clear b1 Q1 hcs hq hgi hfn hxm hll P1 R1 hg hx
  obtain ⟨⟨lo, fr, cd⟩, xa, xc⟩ := x
  obtain ⟨AF, cF, FL, AS, cS, S, AM, cM, M⟩ := q
  simp only at hl0 hl6 hs HG HX HCS e hk p0
  subst e
  simp only [PrMem.val]
  generalize hqp : (PrMem.mk (some ad) cF FL AS cS S AM cM M).pr = qp
  have HQP := Lib.hid hqp
  clear hqp
  have hk1 : (k0 : Int) < (FL.length : Int) := by omega
  have hk2 : (0 : Int) ≤ (k0 : Int) := by omega
  go_enter Tryd.func38, Tryd.ntmps38
  go_wp2_with (first
    | (refine wpList_load_at rfl 60 (.tmp 22) rfl (ad.add (k0 * 3)) rfl [.int .i64 lo, .int .i64 fr, .slice xa cd.length xc] _ HCS.out Tryd.underlying60 rfl (by kernel_rfl) ?_)
    | (at_make; refine wpList_make_full _ rfl (.tmp 27) (.tmp 27) 66 rfl (w.heap.size + 3) 79 ti _ 2 Tryd.underlying66 hi0 hz0 hz1 _ _ _ _ cd.length rfl rfl rfl rfl (by rw [hz2]; omega) (by unfold maxLen; omega) (by simp only [World.size_alloc]; omega) ?_; intro w1 hown hgrow))
  have D0 := Lib.hid (show RSt w w1 ⟨some ad, cF, FL, AS, cS, S, AM, cM, M⟩ ⟨⟨lo, fr, cd⟩, xa, xc⟩ (w.heap.size + 3) (.slice none 0 0) (List.replicate cd.length (0, 0)) [] by
    have b2 := below_new ((w.alloc (.cells #[.slice (some ad) FL.length cF, .slice AS S.length cS, .slice AM M.length cM] 42)).alloc (.cells #[.slice none 0 0, .bool false] 70)) (.cells #[.int .i64 lo, .int .i64 fr, .slice xa cd.length xc] 60)
    have b3 := (Below.refl (((w.alloc (.cells #[.slice (some ad) FL.length cF, .slice AS S.length cS, .slice AM M.length cM] 42)).alloc (.cells #[.slice none 0 0, .bool false] 70)).alloc (.cells #[.int .i64 lo, .int .i64 fr, .slice xa cd.length xc] 60)).heap.size _).grown hgrow (Nat.le_refl _) (fun k hk => by cases hk)
    have b4 := next_ b2 b3
    have F1 := (Blk.new ((w.alloc (.cells #[.slice (some ad) FL.length cF, .slice AS S.length cS, .slice AM M.length cM] 42)).alloc (.cells #[.slice none 0 0, .bool false] 70)) 60 #[.int .i64 lo, .int .i64 fr, .slice xa cd.length xc]).next b3
    rw [e1] at F1
    refine ⟨next_ HB1.out b4, HP1.out.next b4, HR1.out.next b4, F1, ?_, ⟨rfl, .inl ⟨rfl, rfl⟩⟩⟩
    rw [List.length_replicate, ← made_sta]
    rw [World.size_alloc, World.size_alloc, World.size_alloc] at hown
    exact hown)
  clear hown hgrow HP1 HR1 HB1 p0 e1 HCS
  -- WALK
  go_loopw [8] (fun i wr => ∃ k : Nat, k ≤ cd.length ∧ i = .int .i64 k ∧ Hid ((cd.take k).all (vNames qp ⟨lo, fr, cd⟩) = true) ∧ Hid (RSt w wr ⟨some ad, cF, FL, AS, cS, S, AM, cM, M⟩ ⟨⟨lo, fr, cd⟩, xa, xc⟩ (w.heap.size + 3) (.slice none 0 0) (List.replicate k unk ++ List.replicate (cd.length - k) (0, 0)) [])) (fun i _ => cd.length - (intOf i).toNat)
  case atStart => exact ⟨0, by omega, rfl, Lib.hid rfl, D0⟩
  clear D0
  case round =>
    obtain ⟨k, hk, rfl, HA, HD⟩ := hrel
    by_cases hlt : k < cd.length
    · have hl : (k : Int) < (cd.length : Int) := by omega
      have hk0 : (0 : Int) ≤ (k : Int) := by omega
      have hgi' := HG.out _ (List.getElem_mem hlt)
      have hat := all_take1 (p := vNames qp ⟨lo, fr, cd⟩) hlt HA.out
      have han := all_not1 (p := vNames qp ⟨lo, fr, cd⟩) hlt
      have hLk : (List.replicate k unk ++ List.replicate (cd.length - k) ((0, 0) : Sta))[k]? = some (0, 0) := by
        rw [List.getElem?_append_right (by simp), List.length_replicate, Nat.sub_self, List.getElem?_replicate, if_pos (by omega)]
      obtain ⟨s0, s1, z0, z1⟩ := HD.out.cells hLk
      have D2 := HD.out.set (k := k) (by simp; omega) unk
      have hLs : (List.replicate k unk ++ List.replicate (cd.length - k) ((0, 0) : Sta)).set k unk = List.replicate (k + 1) unk ++ List.replicate (cd.length - (k + 1)) (0, 0) := by
        rw [List.set_append_right _ _ (by simp), List.length_replicate, Nat.sub_self, show cd.length - k = (cd.length - (k + 1)) + 1 by omega, List.replicate_succ, List.set_cons_zero, List.replicate_succ', List.append_assoc]
        rfl
      rw [hLs] at D2
      have D2 := Lib.hid D2
      obtain ⟨ae, e, aeb, hcj⟩ := (HX.out.1).insAt (List.getElem?_eq_getElem hlt)
      simp only at e
      subst e
      generalize hin : cd[k] = i at hcj hgi' hat han
      have HAT := Lib.hid hat
      have HAN := Lib.hid han
      have hb0 : (ae.add (k * 3)).block < w.heap.size := by rw [block_of_add]; exact aeb
      have KS := Lib.hid (show ∀ V, Below w.heap.size w V → RSt w V ⟨some ad, cF, FL, AS, cS, S, AM, cM, M⟩ ⟨⟨lo, fr, cd⟩, some ae, xc⟩ (w.heap.size + 3) (.slice none 0 0) (List.replicate (k + 1) unk ++ List.replicate (cd.length - (k + 1)) (0, 0)) [] → ((V.cell? ⟨w.heap.size, 0, none⟩ = some (.slice (some ad) FL.length cF) ∧ V.cell? ⟨w.heap.size, 1, none⟩ = some (.slice AS S.length cS) ∧ V.cell? ⟨w.heap.size, 2, none⟩ = some (.slice AM M.length cM)) ∧ (V.cell? ⟨w.heap.size + 2, 0, none⟩ = some (.int .i64 lo) ∧ V.cell? ⟨w.heap.size + 2, 1, none⟩ = some (.int .i64 fr) ∧ V.cell? ⟨w.heap.size + 2, 2, none⟩ = some (.slice (some ae) cd.length xc)) ∧ V.cell? (ae.add (k * 3)) = some (.int .i64 i.o) ∧ V.cell? ⟨(ae.add (k * 3)).block, (ae.add (k * 3)).off + 1, none⟩ = some (.int .i64 i.a) ∧ V.cell? ⟨(ae.add (k * 3)).block, (ae.add (k * 3)).off + 2, none⟩ = some (.int .i64 i.b)) from fun V hb h =>
        have h0 : w.cell? (ae.add (k * 3)) = some (.int .i64 i.o) := hcj 0 _ rfl
        have h1 : w.cell? ⟨(ae.add (k * 3)).block, (ae.add (k * 3)).off + 1, none⟩ = some (.int .i64 i.a) := hcj 1 _ rfl
        have h2 : w.cell? ⟨(ae.add (k * 3)).block, (ae.add (k * 3)).off + 2, none⟩ = some (.int .i64 i.b) := hcj 2 _ rfl
        ⟨⟨h.P.cell 0, h.P.cell 1, h.P.cell 2⟩, ⟨h.F.cell 0, h.F.cell 1, h.F.cell 2⟩, (hb.cell hb0).trans h0, (hb.cell (p := ⟨(ae.add (k * 3)).block, _, none⟩) hb0).trans h1, (hb.cell (p := ⟨(ae.add (k * 3)).block, _, none⟩) hb0).trans h2⟩)
      clear hat han hcj hin hLk hLs
      go_wp2_with fail
      have D2 := Lib.hid D2.out.drew
      refine wp_region_last (S := fun V => (V.cell? ⟨w.heap.size, 0, none⟩ = some (.slice (some ad) FL.length cF) ∧ V.cell? ⟨w.heap.size, 1, none⟩ = some (.slice AS S.length cS) ∧ V.cell? ⟨w.heap.size, 2, none⟩ = some (.slice AM M.length cM)) ∧ (V.cell? ⟨w.heap.size + 2, 0, none⟩ = some (.int .i64 lo) ∧ V.cell? ⟨w.heap.size + 2, 1, none⟩ = some (.int .i64 fr) ∧ V.cell? ⟨w.heap.size + 2, 2, none⟩ = some (.slice (some ae) cd.length xc)) ∧ V.cell? (ae.add (k * 3)) = some (.int .i64 i.o) ∧ V.cell? ⟨(ae.add (k * 3)).block, (ae.add (k * 3)).off + 1, none⟩ = some (.int .i64 i.a) ∧ V.cell? ⟨(ae.add (k * 3)).block, (ae.add (k * 3)).off + 2, none⟩ = some (.int .i64 i.b)) 8 (by kernel_rfl) (by kernel_rfl) (by kernel_rfl) (by kernel_rfl) (KS.out _ D2.out.low D2.out) (fun hHeld => ?_)
      refine wpAnyH_take (i := 0) (oi := ⟨some 38, _, _, _, _, _⟩) (v := ?_) rfl (by kernel_rfl) (by kernel_rfl) (by kernel_rfl) (fun _ _ _ h => h) (Or.inl ⟨by kernel_rfl, ?_⟩) (by assumption) ?_
      rotate_left
      · intro w hSw
        go_simp
        try with_reducible rfl
      try simp only [Act.put, List.setIfInBounds_toArray, List.set_cons_zero, List.set_cons_succ]
      refine wpAnyH_take (i := 1) (oi := ⟨some 39, _, _, _, _, _⟩) (v := ?_) rfl (by kernel_rfl) (by kernel_rfl) (by kernel_rfl) (fun _ _ _ h => h) (Or.inl ⟨by kernel_rfl, ?_⟩) (by assumption) ?_
      rotate_left
      · intro w hSw
        go_simp
        try with_reducible rfl
      try simp only [Act.put, List.setIfInBounds_toArray, List.set_cons_zero, List.set_cons_succ]
      refine wpAnyH_take (i := 2) (oi := ⟨some 40, _, _, _, _, _⟩) (v := ?_) rfl (by kernel_rfl) (by kernel_rfl) (by kernel_rfl) (fun _ _ _ h => h) (Or.inl ⟨by kernel_rfl, ?_⟩) (by assumption) ?_
      rotate_left
      · intro w hSw
        go_simp
        try with_reducible rfl
      try simp only [Act.put, List.setIfInBounds_toArray, List.set_cons_zero, List.set_cons_succ]
      refine wpAnyH_take (i := 3) (oi := ⟨some 41, _, _, _, _, _⟩) (v := ?_) rfl (by kernel_rfl) (by kernel_rfl) (by kernel_rfl) (fun _ _ _ h => h) (Or.inl ⟨by kernel_rfl, ?_⟩) (by assumption) ?_
      rotate_left
      · intro w hSw
        go_simp
        try with_reducible rfl
      try simp only [Act.put, List.setIfInBounds_toArray, List.set_cons_zero, List.set_cons_succ]
      refine wpAnyH_take (i := 4) (oi := ⟨some 42, _, _, _, _, _⟩) (v := ?_) rfl (by kernel_rfl) (by kernel_rfl) (by kernel_rfl) (fun _ _ _ h => h) (Or.inl ⟨by kernel_rfl, ?_⟩) (by assumption) ?_
      rotate_left
      · intro w hSw
        go_simp
        try with_reducible rfl
      try simp only [Act.put, List.setIfInBounds_toArray, List.set_cons_zero, List.set_cons_succ]
      refine wpAnyH_take (i := 5) (oi := ⟨some 43, _, _, _, _, _⟩) (v := ?_) rfl (by kernel_rfl) (by kernel_rfl) (by kernel_rfl) (fun _ _ _ h => h) (Or.inl ⟨by kernel_rfl, ?_⟩) (by assumption) ?_
      rotate_left
      · intro w hSw
        go_simp
        try with_reducible rfl
      try simp only [Act.put, List.setIfInBounds_toArray, List.set_cons_zero, List.set_cons_succ]
      refine wpAnyH_take (i := 6) (oi := ⟨some 44, _, _, _, _, _⟩) (v := ?_) rfl (by kernel_rfl) (by kernel_rfl) (by kernel_rfl) (fun _ _ _ h => h) (Or.inl ⟨by kernel_rfl, ?_⟩) (by assumption) ?_
      rotate_left
      · intro w hSw
        go_simp
        try with_reducible rfl
      try simp only [Act.put, List.setIfInBounds_toArray, List.set_cons_zero, List.set_cons_succ]
      refine wpAnyH_ready (rs := [7]) (by kernel_rfl) (by simp) ?_
      refine AllReadyH.cons (o := ⟨some 45, _, _, _, _, _⟩) rfl (fun K hK => ?_) AllReadyH.nil
      have hc := c68 ⟨some ad, cF, FL, AS, cS, S, AM, cM, M⟩ ⟨lo, fr, cd⟩ (some ae) xc i w.heap.size _ (HQ.out.below D2.out.low) D2.out.low.size hgi' (by unfold maxLen; show cd.length ≤ _; omega)
      rw [HQP.out] at hc
      refine step_call8 (by rfl) 68 #[.tmp 38, .tmp 39, .tmp 44] #[42, 60, 23] (by rfl) Tryd.f68 Tryd.func68 (by kernel_rfl) (by kernel_rfl) #[.agg #[.slice (some ad) FL.length cF, .slice AS S.length cS, .slice AM M.length cM], .agg #[.int .i64 lo, .int .i64 fr, .slice (some ae) cd.length xc], .agg #[.int .i64 i.o, .int .i64 i.a, .int .i64 i.b]] (by rfl) hc ?_
      rintro e w6 ⟨rfl, b6⟩
      refine ⟨_, rfl, ?_⟩
      have D3 := Lib.hid (D2.out.next b6)
      refine hK.out _ _ ?_ (fun hHeld => ?_)
      · exact KS.out _ (next_ D2.out.low b6) D3.out
      clear hK K
      try simp only [Act.put, List.setIfInBounds_toArray, List.set_cons_zero, List.set_cons_succ]
      refine wpAnyH_done (by kernel_rfl) ?_ _
      refine lastPost_run (o := ⟨some 46, _, _, _, _, _⟩) rfl (fun K hK => ?_)
      go_simp
      refine hK.out _ _ ?_
      clear hK K

      cases hnm : vNames qp ⟨lo, fr, cd⟩ i
      · have HNM := Lib.hid (show rStates qp ⟨lo, fr, cd⟩ = none by
          unfold rStates
          rw [if_neg]
          rw [show (Fn.code ⟨lo, fr, cd⟩).all _ = false from HAN.out hnm]
          decide)
        have r0 := D3.out.R.cell 0
        have r1 := D3.out.R.cell 1
        have y0 := D3.out.R.frozen 0
        have y1 := D3.out.R.frozen 1
        clear hnm s0 s1 z0 z1
        go_wp2_with fail
        exact D3.out.end_no HNM.out _ rfl rfl
      · have HNM := Lib.hid (HAT.out hnm)
        clear hnm s0 s1 z0 z1
        go_wp2_with fail
        go_roundw
        case rel => exact ⟨k + 1, by omega, by go_num, HNM, D3⟩
        case measure => simp [intOf]; omega
    · have hl : ¬ (k : Int) < (cd.length : Int) := by omega
      obtain rfl : k = cd.length := by omega
      have HALL := Lib.hid (show (Fn.code ⟨lo, fr, cd⟩).all (vNames qp ⟨lo, fr, cd⟩) = true by
        have h := HA.out
        rw [List.take_length] at h
        exact h)
      have HRUN := Lib.hid (show rStates qp ⟨lo, fr, cd⟩ = rRun cd cd.length ((List.replicate cd.length unk).set 0 (0, 0)) [0] by unfold rStates; rw [if_pos HALL.out])
      have hD := HD.out
      rw [Nat.sub_self, List.replicate_zero, List.append_nil] at hD
      have hL0 : (List.replicate cd.length unk)[0]? = some unk := by rw [List.getElem?_replicate, if_pos hl0]
      obtain ⟨s0, s1, z0, z1⟩ := hD.cells hL0
      have D4 := hD.set (k := 0) (by simp; exact hl0) (0, 0)
      have D5 := Lib.hid (show RSt w ((((wr.setCell ⟨w.heap.size + 3, 0, none⟩ (.int .i64 0)).setCell ⟨w.heap.size + 3, 1, none⟩ (.int .i64 0))).alloc (.cells #[.int .i64 0] 3)) ⟨some ad, cF, FL, AS, cS, S, AM, cM, M⟩ ⟨⟨lo, fr, cd⟩, xa, xc⟩ (w.heap.size + 3) (.slice (some ⟨wr.heap.size, 0, none⟩) 1 1) ((List.replicate cd.length unk).set 0 (0, 0)) [0] from by
        have D4' := D4.next (below_new _ (.cells #[.int .i64 0] 3))
        have hsz := hD.low.size
        have hrb := hD.rb
        have o := own_new8 ((wr.setCell ⟨w.heap.size + 3, 0, none⟩ (.int .i64 0)).setCell ⟨w.heap.size + 3, 1, none⟩ (.int .i64 0)) (b := w.heap.size + 3) (n := 1) (cap := 1) (e := 3) (s := 1) (xs := [.int .i64 0]) (by rw [World.size_setCell, World.size_setCell]; omega) rfl (by unfold maxLen; omega) rfl
        rw [World.size_setCell, World.size_setCell] at o
        exact ⟨D4'.low, D4'.P, D4'.R, D4'.F, D4'.S, o⟩)
      clear hD D4 hL0 HD HALL HA
      go_wp2_with fail
      clear s0 s1 z0 z1
      go_loopg [9] cd.length (fun gk tv wr => ∃ (L : List Sta) (T : List Nat), Hid (RSt w wr ⟨some ad, cF, FL, AS, cS, S, AM, cM, M⟩ ⟨⟨lo, fr, cd⟩, xa, xc⟩ (w.heap.size + 3) tv L T) ∧ Hid (RInv cd L T) ∧ Hid (rStates qp ⟨lo, fr, cd⟩ = rRun cd gk L T) ∧ Hid (rMu L T ≤ gk) ∧ gk ≤ cd.length)
      case atStart => exact ⟨_, _, D5, Lib.hid (rinv0 hl0), HRUN, Lib.hid (by
        have hc := set_count (L := List.replicate cd.length unk) (k := 0) (s := ((0, 0) : Sta)) (by simp; exact hl0) (by rw [List.getD_eq_getElem?_getD, List.getElem?_replicate, if_pos hl0]; rfl) (by decide)
        rw [count_all] at hc
        unfold rMu
        simp only [List.length_cons, List.length_nil]
        omega), Nat.le_refl _⟩
      clear D5 HRUN
      case round =>
        obtain ⟨L, T, HD, HI, HR, HM, hgk⟩ := hrel
        obtain ⟨A, c, rfl⟩ := own_form HD.out.tr
        cases T with
        | nil =>
          have hl : ¬ (0 : Int) < (([] : List Nat).length : Int) := by simp
          have r0 := HD.out.R.cell 0
          have r1 := HD.out.R.cell 1
          have y0 := HD.out.R.frozen 0
          have y1 := HD.out.R.frozen 1
          have HLEN := Lib.hid HI.out.len
          have HRES := Lib.hid (show rStates qp ⟨lo, fr, cd⟩ = some L by rw [HR.out]; cases gk <;> rfl)
          go_wp2_with fail
          have h9 := HD.out.end_yes HRES.out
          rw [HLEN.out] at h9
          exact h9 _ rfl rfl
        | cons k T =>
          have hTl : T.length < 600 := by
            have h := HM.out
            unfold rMu at h
            simp only [List.length_cons] at h
            omega
          obtain ⟨g, rfl, _, htop, hcap⟩ := HD.out.top
          have hkn := HI.out.todo k (List.mem_cons_self ..)
          have hkl : k < L.length := known_lt hkn
          have HLEN := Lib.hid HI.out.len
          have hkc : k < cd.length := by rw [← HLEN.out]; exact hkl
          have hkc1 : (k : Int) < (cd.length : Int) := by omega
          have hk0 : (0 : Int) ≤ (k : Int) := by omega
          have D1 := Lib.hid HD.out.pop
          obtain ⟨c0, c1, _, _⟩ := HD.out.cells (getD_at hkl)
          obtain ⟨ae, e, aeb, hcj⟩ := (HX.out.1.below HD.out.low).insAt (List.getElem?_eq_getElem hkc)
          simp only at e
          subst e
          have hgi := HG.out _ (List.getElem_mem hkc)
          have hcg : cd.getD k ⟨0, 0, 0⟩ = cd[k] := by rw [List.getD_eq_getElem?_getD, List.getElem?_eq_getElem hkc]; rfl
          have HR2 := HR.out
          obtain ⟨gk, rfl⟩ : ∃ n, gk = n + 1 := ⟨gk - 1, by
            have h := HM.out
            unfold rMu at h
            simp only [List.length_cons] at h
            omega⟩
          rw [rRun_step, hcg] at HR2
          have hok4 := HI.out.ok k hkn
          generalize hs : L.getD k unk = s at c0 c1 HR2 hok4 hkn
          generalize hin : cd[k] = i at hcj hgi HR2
          have HS := Lib.hid hs
          have HIN := Lib.hid hin
          have HCG := Lib.hid hcg
          have HCJ := Lib.hid hcj
          have HGI := Lib.hid hgi
          have HRR := Lib.hid HR2
          have HOK := Lib.hid hok4
          have HKN := Lib.hid hkn
          clear hs hin hcg hcj hgi HR2 hok4 hkn
          obtain ⟨h, t⟩ := s
          obtain ⟨o, a, b⟩ := i
          simp only at c0 c1
          have f2 := HD.out.F.cell 2
          have W1 : IntKind.i64.wrap (((T.length + 1 : Nat) : Int) - 1) = (T.length : Int) := (IntWalk.i64_in _ (by omega)).trans (by omega)
          have hT0 : (0 : Int) < ((T.length + 1 : Nat) : Int) := by omega
          have hT1 : (0 : Int) ≤ (T.length : Int) := by omega
          have hT2 : (T.length : Int) < ((T.length + 1 : Nat) : Int) := by omega
          have hT3 : (T.length : Int) ≤ (c : Int) := by omega
          go_wp2_with (first
            | (refine wpList_load_at rfl 23 (.tmp 70) rfl (ae.add (k * 3)) rfl [.int .i64 o, .int .i64 a, .int .i64 b] _ HCJ.out Tryd.underlying23 rfl (by kernel_rfl) ?_)
            | (refine wpList_load_at rfl 23 (.tmp 69) rfl (ae.add (k * 3)) rfl [.int .i64 o, .int .i64 a, .int .i64 b] _ HCJ.out Tryd.underlying23 rfl (by kernel_rfl) ?_))
          clear f2 htop c0 c1
          refine (c16z HGI.out _).mono ?_
          rintro e w3 ⟨rfl, b3⟩
          have b2 := below_new wr (.cells #[.int .i64 o, .int .i64 a, .int .i64 b] 23)
          have D3 := Lib.hid (D1.out.next (next_ b2 b3))
          have X3 := (Blk.new wr 23 #[.int .i64 o, .int .i64 a, .int .i64 b]).next b3
          clear b2 b3
          generalize htk : gTakes o a b = tk
          generalize hlv : gLeaves o = lv
          have TK := Lib.hid htk
          have LV := Lib.hid hlv
          clear htk hlv
          have D4 := Lib.hid (D3.out.next (below_new w3 (.cells #[.int .i64 tk, .int .i64 lv] 27)))
          have X4 := X3.alloc (.cells #[.int .i64 tk, .int .i64 lv] 27)
          have E4 := Blk.new w3 27 #[.int .i64 tk, .int .i64 lv]
          obtain ⟨c0, c1, _, _⟩ := D4.out.cells (getD_at hkl)
          rw [HS.out] at c0 c1
          simp only at c0 c1
          go_wp2_with fail
          go_quiet (fail)
          have D5 := D4.out.drewN nq
          have X5 := X4.drewN nq
          have E5 := E4.drewN nq
          have hx5 := X3.lt
          generalize hW5 : (w3.alloc (.cells #[.int .i64 tk, .int .i64 lv] 27)).drewN nq = W5 at D5 X5 E5
          have HD5 := Lib.hid D5
          clear hW5 D5 D4 X4 E4 D3 X3 c0 c1
          have HROK := Lib.hid (show rOk ⟨o, a, b⟩ (h, t) = !(decide (h < tk) || (decide (o = 9) && decide (h ≠ 1 ∨ t ≠ 0)) || (decide (o = 8) && decide (h ≠ 2 ∨ t ≠ 0)) || (decide (o = 34) && decide (t = 0))) by unfold rOk; simp only; rw [TK.out])
          have x0 := X5.cell 0
          have e0 := E5.cell 0
          go_upto_region 18 with fail
          go_cut [121] (fun cv wx => cv = .bool (!rOk ⟨o, a, b⟩ (h, t)) ∧ wx = W5)
          case first =>
            by_cases g1 : h < tk
            · have f1 : decide (h < tk) = true := decide_eq_true g1
              as_aux_lemma =>
                go_wp2_with fail
                go_meet
                exact ⟨by simp [HROK.out, g1], rfl⟩
            have f1 : decide (h < tk) = false := decide_eq_false g1
            by_cases g9 : o = 9
            · subst g9
              by_cases g2 : h = 1
              · have f2 : (h != 1) = false := bne_eq_false_iff_eq.2 g2
                have G2 := Lib.hid g2
                clear g2
                by_cases g3 : t = 0
                · have f3 : (t != 0) = false := bne_eq_false_iff_eq.2 g3
                  have G3 := Lib.hid g3
                  clear g3
                  as_aux_lemma =>
                    go_wp2_with fail
                    go_meet
                    exact ⟨by rw [HROK.out, f1, G2.out, G3.out]; rfl, rfl⟩
                · have f3 : (t != 0) = true := bne_iff_ne.2 g3
                  as_aux_lemma =>
                    go_wp2_with fail
                    go_meet
                    exact ⟨by rw [HROK.out]; simp [g1, G2.out, g3], rfl⟩
              · have f2 : (h != 1) = true := bne_iff_ne.2 g2
                as_aux_lemma =>
                  go_wp2_with fail
                  go_meet
                  exact ⟨by simp [HROK.out, g1, g2], rfl⟩
            have f9 : (o == 9) = false := beq_eq_false_iff_ne.2 g9
            by_cases g8 : o = 8
            · subst g8
              by_cases g2 : h = 2
              · have f2 : (h != 2) = false := bne_eq_false_iff_eq.2 g2
                have G2 := Lib.hid g2
                clear g2
                by_cases g3 : t = 0
                · have f3 : (t != 0) = false := bne_eq_false_iff_eq.2 g3
                  have G3 := Lib.hid g3
                  clear g3
                  as_aux_lemma =>
                    go_wp2_with fail
                    go_meet
                    exact ⟨by rw [HROK.out, f1, G2.out, G3.out]; rfl, rfl⟩
                · have f3 : (t != 0) = true := bne_iff_ne.2 g3
                  as_aux_lemma =>
                    go_wp2_with fail
                    go_meet
                    exact ⟨by rw [HROK.out]; simp [g1, G2.out, g3], rfl⟩
              · have f2 : (h != 2) = true := bne_iff_ne.2 g2
                as_aux_lemma =>
                  go_wp2_with fail
                  go_meet
                  exact ⟨by simp [HROK.out, g1, g2], rfl⟩
            have f8 : (o == 8) = false := beq_eq_false_iff_ne.2 g8
            by_cases g34 : o = 34
            · subst g34
              by_cases g3 : t = 0
              · have f3 : (t == 0) = true := beq_iff_eq.2 g3
                have G3 := Lib.hid g3
                clear g3
                as_aux_lemma =>
                  go_wp2_with fail
                  go_meet
                  exact ⟨by rw [HROK.out, f1, G3.out]; simp, rfl⟩
              · have f3 : (t == 0) = false := beq_eq_false_iff_ne.2 g3
                as_aux_lemma =>
                  go_wp2_with fail
                  go_meet
                  exact ⟨by simp [HROK.out, g1, g3], rfl⟩
            have f34 : (o == 34) = false := beq_eq_false_iff_ne.2 g34
            as_aux_lemma =>
              go_wp2_with fail
              go_meet
              exact ⟨by simp [HROK.out, g1, g9, g8, g34], rfl⟩
          case rest =>
            obtain ⟨rfl, rfl⟩ := hcut
            clear e0 x0
            cases hrok : rOk ⟨o, a, b⟩ (h, t)
            · have HRES := Lib.hid (show rStates qp ⟨lo, fr, cd⟩ = none by rw [HRR.out, hrok]; rfl)
              clear hrok
              have r0 := HD5.out.R.cell 0
              have r1 := HD5.out.R.cell 1
              have y0 := HD5.out.R.frozen 0
              have y1 := HD5.out.R.frozen 1
              go_wp2_with fail
              exact HD5.out.end_no HRES.out _ rfl rfl
            have HRK := Lib.hid hrok
            have HRES := Lib.hid (show rStates qp ⟨lo, fr, cd⟩ = (match rPush L T (rNews ⟨o, a, b⟩ k (h, t)) with | none => none | some r => rRun cd gk r.1 r.2) by rw [HRR.out, if_pos HRK.out])
            clear hrok
            have htk := takes_nonneg HGI.out
            have hlv := leaves_nonneg HGI.out
            have hok := HOK.out
            simp only [TK.out, LV.out] at htk hlv
            obtain ⟨o1, o2, o3, o4, _⟩ := hok
            have V1 : IntKind.i64.wrap (h - tk) = h - tk := IntWalk.i64_in _ (by omega)
            have V2 : IntKind.i64.wrap (h - tk + lv) = h - tk + lv := IntWalk.i64_in _ (by omega)
            have V3 : IntKind.i64.wrap (t + 1) = t + 1 := IntWalk.i64_in _ (by omega)
            have V4 : IntKind.i64.wrap (t - 1) = t - 1 := IntWalk.i64_in _ (by omega)
            have x0 := X5.cell 0
            have e0 := E5.cell 0
            have e1 := E5.cell 1
            have hxw := X5.lt
            have hnr : w.heap.size + 3 < wc.heap.size := HD5.out.rb.2
            have htb : (Value.slice (some ⟨g, 0, none⟩) T.length c).ownBlock ≠ some wc.heap.size := fun e => by have := HD5.out.tr.lt _ e; omega
            have D6 := Lib.hid (HD5.out.next (below_new wc (.cells #[.int .i64 (h - tk + lv), .int .i64 t] 79)))
            have X6 := X5.alloc (.cells #[.int .i64 (h - tk + lv), .int .i64 t] 79)
            have N6 := Blk.new wc 79 #[.int .i64 (h - tk + lv), .int .i64 t]
            go_upto_region 21 with fail
            generalize hw6 : wc.alloc (.cells #[.int .i64 (h - tk + lv), .int .i64 t] 79) = w6 at D6 X6 N6
            have hn6 := N6.lt
            clear hw6 x0 e0 e1 E5 X5 HD5
            have x0 := X6.cell 0
            have y1 := N6.cell 1
            have yz := N6.frozen 1
            obtain ⟨wn, rfl⟩ : ∃ wn : World, wn = wc := ⟨_, rfl⟩
            have hxn : wr.heap.size < wn.heap.size := hxw
            go_upto_if 134 with fail
            go_cut [] (fun wx => Hid (RSt w wx ⟨some ad, cF, FL, AS, cS, S, AM, cM, M⟩ ⟨⟨lo, fr, cd⟩, some ae, xc⟩ (w.heap.size + 3) (.slice (some ⟨g, 0, none⟩) T.length c) L T) ∧ Blk wx wr.heap.size 23 #[.int .i64 o, .int .i64 a, .int .i64 b] ∧ Blk wx wn.heap.size 79 #[.int .i64 (h - tk + lv), .int .i64 (if o = 33 then t + 1 else t)] ∧ wn.heap.size < wx.heap.size ∧ wr.heap.size < wn.heap.size)
            case first =>
              by_cases g33 : o = 33
              · have f33 : (o == 33) = true := beq_iff_eq.2 g33
                as_aux_lemma =>
                  go_wp2_with fail
                  go_meet
                  exact ⟨Lib.hid (D6.out.setN wn.heap.size 1 (.int .i64 (t + 1)) hnr (by omega) htb), X6.far (by show _ ≠ wn.heap.size; omega) _, by rw [if_pos g33]; exact N6.set_ 1 _, by rw [World.size_setCell]; exact hn6, hxn⟩
              · have f33 : (o == 33) = false := beq_eq_false_iff_ne.2 g33
                as_aux_lemma =>
                  go_wp2_with fail
                  go_meet
                  exact ⟨D6, X6, by rw [if_neg g33]; exact N6, hn6, hxn⟩
            case rest =>
              obtain ⟨HD7, X7, N7, hn7, _⟩ := hcut
              clear D6 X6 N6 hn6 x0 y1 yz
              have ht1 : (if o = 33 then t + 1 else t) = t ∨ (if o = 33 then t + 1 else t) = t + 1 := by split <;> simp
              generalize hte : (if o = 33 then t + 1 else t) = t1 at N7 ht1
              have HT1 := Lib.hid hte
              have HT1B := Lib.hid ht1
              have V5 : IntKind.i64.wrap (t1 - 1) = t1 - 1 := IntWalk.i64_in _ (by omega)
              clear hte ht1
              have x0 := X7.cell 0
              have y1 := N7.cell 1
              have yz := N7.frozen 1
              obtain ⟨w7, rfl⟩ : ∃ w7 : World, w7 = wc := ⟨_, rfl⟩
              go_upto_if 141 with fail
              go_cut [] (fun wx => Hid (RSt w wx ⟨some ad, cF, FL, AS, cS, S, AM, cM, M⟩ ⟨⟨lo, fr, cd⟩, some ae, xc⟩ (w.heap.size + 3) (.slice (some ⟨g, 0, none⟩) T.length c) L T) ∧ Blk wx wr.heap.size 23 #[.int .i64 o, .int .i64 a, .int .i64 b] ∧ Blk wx wn.heap.size 79 #[.int .i64 (h - tk + lv), .int .i64 (if o = 34 then t1 - 1 else t1)] ∧ wn.heap.size < wx.heap.size)
              case first =>
                by_cases g34 : o = 34
                · have f34 : (o == 34) = true := beq_iff_eq.2 g34
                  as_aux_lemma =>
                    go_wp2_with fail
                    go_meet
                    exact ⟨Lib.hid (HD7.out.setN wn.heap.size 1 (.int .i64 (t1 - 1)) hnr (by omega) htb), X7.far (by show _ ≠ wn.heap.size; omega) _, by rw [if_pos g34]; exact N7.set_ 1 _, by rw [World.size_setCell]; exact hn7⟩
                · have f34 : (o == 34) = false := beq_eq_false_iff_ne.2 g34
                  as_aux_lemma =>
                    go_wp2_with fail
                    go_meet
                    exact ⟨HD7, X7, by rw [if_neg g34]; exact N7, hn7⟩
              case rest =>
                obtain ⟨HD8, X8, N8, hn8⟩ := hcut
                clear HD7 X7 N7 hn7 x0 y1 yz
                have HNX := Lib.hid (show vBh2 ⟨o, a, b⟩ (h, t) = (h - tk + lv, if o = 34 then t1 - 1 else t1) by
                  have e1 : vBh ⟨o, a, b⟩ (h, t) = (h - tk + lv, t) := by unfold vBh; simp only; rw [TK.out, LV.out]
                  unfold vBh2
                  simp only
                  rw [e1, ← HT1.out]
                  by_cases g33 : o = 33
                  · rw [if_pos g33, if_pos g33, if_neg (by omega)]
                  · rw [if_neg g33, if_neg g33]
                    by_cases g34 : o = 34
                    · rw [if_pos g34, if_pos g34]
                    · rw [if_neg g34, if_neg g34])
                generalize htn : (if o = 34 then t1 - 1 else t1) = tn at N8 HNX
                generalize hhn : h - tk + lv = hn at N8 HNX
                clear htn hhn
                have x0 := X8.cell 0
                have x1 := X8.cell 1
                have x2 := X8.cell 2
                obtain ⟨w8, rfl⟩ : ∃ w8 : World, w8 = wc := ⟨_, rfl⟩
                go_wp2_with fail
                refine (c23 o a b w8).mono ?_
                rintro e w9 ⟨rfl, b9⟩
                have D9 := Lib.hid (HD8.out.next b9)
                have X9 := X8.next b9
                have N9 := N8.next b9
                have hn9 := Nat.lt_of_lt_of_le hn8 b9.size
                have HXL := Lib.hid (show wr.heap.size < w9.heap.size from X9.lt)
                clear HD8 X8 N8 hn8 b9 x0 x1 x2
                have V6 : IntKind.i64.wrap ((k : Int) + 1) = (k : Int) + 1 := IntWalk.i64_in _ (by omega)
                go_upto_if 148 with fail
                go_cut [16, 17] (fun tov wv wx => Below w9.heap.size w9 wx ∧ NSt wx w9.heap.size tov wv (if gEnds o then [] else [((k : Int) + 1, (hn, tn))]))
                case first =>
                  cases he : gEnds o
                  · go_upto_region 28 with fail
                    refine reg28 w9.heap.size wn.heap.size k hn tn w9 (Nat.le_refl _) hn9 (by omega) N9 (fun _ _ d _ _ h => by cases d <;> exact h) ?_
                    intro v149 v150 v151 v152 v153 v154 v155 v156 v157 v16 v17 w' hb hN
                    have HB' := Lib.hid hb
                    have HN' := Lib.hid hN
                    clear hb hN
                    as_aux_lemma =>
                      go_wp2_with fail
                      go_meet
                      exact ⟨HB'.out, by rw [if_neg (by rw [he]; decide)]; exact HN'.out⟩
                  · as_aux_lemma =>
                      go_wp2_with fail
                      go_meet
                      exact ⟨Below.refl _ _, by rw [if_pos he]; exact NSt.nil _ _⟩
                case rest =>
                  obtain ⟨b10, HN1⟩ := hcut
                  have X10 := X9.next b10
                  have N10 := N9.next b10
                  have L10 := Lib.hid b10
                  clear X9 N9 b10
                  generalize hxs1 : (if gEnds o then ([] : List Nxt) else [((k : Int) + 1, (hn, tn))]) = xs1 at HN1
                  have HX1 := Lib.hid hxs1
                  have hl1 : xs1.length ≤ 1 := by rw [← hxs1]; split <;> simp
                  clear hxs1
                  obtain ⟨A1, c1, e1⟩ := own_form HN1.rt
                  obtain ⟨A2, c2, e2⟩ := own_form HN1.rw
                  subst e1 e2
                  have HN1 := Lib.hid HN1
                  obtain ⟨w10, rfl⟩ : ∃ w10 : World, w10 = wc := ⟨_, rfl⟩
                  have x0 := X10.cell 0
                  have hs10 := L10.out.size
                  have hnn9 := hn9
                  go_upto_block 4 with fail
                  refine sw38 w9.heap.size wn.heap.size wr.heap.size o a b h t hn tn A1 A2 c1 c2 xs1 w10 hs10 hnn9 (by have := HXL.out; omega) hl1 (by omega) (by omega) N10 X10 HN1.out (fun _ _ d _ _ h => by cases d <;> exact h) ?_
                  intro v160 v161 v162 v163 v164 v165 v166 v167 v168 v169 v170 v171 v172 v173 v174 v175 v176 v177 v178 v179 v180 v181 v182 v183 v184 v185 v16 v17 w11 hb hN
                  clear x0 X10 N10 HN1
                  have L11 := Lib.hid (L10.out.trans hb)
                  have D11 := Lib.hid (D9.out.next L11.out)
                  have hN2 : NSt w11 w9.heap.size v16 v17 (rNews ⟨o, a, b⟩ k (h, t)) := by
                    unfold rNews
                    rw [HNX.out, HX1.out]
                    exact hN
                  have hlen := rNews_len ⟨o, a, b⟩ k (h, t)
                  have hpos := (r_news HG.out HI.out (show rOk (cd.getD k ⟨0, 0, 0⟩) (L.getD k unk) = true by rw [HCG.out, HIN.out, HS.out]; exact HRK.out)).2
                  have HSTEP := Lib.hid (fun (r : List Sta × List Nat) (hr : rPush L T (rNews (cd.getD k ⟨0, 0, 0⟩) k (L.getD k unk)) = some r) => RInv.step HG.out HI.out (show rOk (cd.getD k ⟨0, 0, 0⟩) (L.getD k unk) = true by rw [HCG.out, HIN.out, HS.out]; exact HRK.out) hr)
                  rw [HCG.out, HIN.out, HS.out] at hpos HSTEP
                  have HRES2 := HRES.out
                  generalize rNews ⟨o, a, b⟩ k (h, t) = xs at hN2 hlen hpos HSTEP HRES2
                  have HRES2 := Lib.hid HRES2
                  have HPOS := Lib.hid hpos
                  obtain ⟨A3, c3, e3⟩ := own_form hN2.rt
                  obtain ⟨A4, c4, e4⟩ := own_form hN2.rw
                  subst e3 e4
                  have HN2 := Lib.hid hN2
                  have HAP := Lib.hid (show (Value.slice A3 xs.length c3).ownBlock = none ∨ (Value.slice A3 xs.length c3).ownBlock ≠ (Value.slice (some ⟨g, 0, none⟩) T.length c).ownBlock from .inr fun e => absurd (hN2.rt.lt g e).1 (by have := (D9.out.tr.lt g rfl).2; omega))
                  clear hb hN hN2 hpos
                  go_upto_block 5 with fail
                  refine in38 w ⟨some ad, cF, FL, AS, cS, S, AM, cM, M⟩ ⟨⟨lo, fr, cd⟩, some ae, xc⟩ (w.heap.size + 3) w9.heap.size cd.length (.slice (some ⟨g, 0, none⟩) T.length c) L T A3 A4 c3 c4 xs w11 hl6 HLEN.out (by omega) hlen HPOS.out D9.out.rb.2 D11.out HN2.out HAP.out (fun _ _ d _ _ h => by cases d <;> exact h) ?_ ?_
                  · intro a' W v L' T' h4 hd hR hno
                    exact hR.end_no (by rw [HRES2.out, hno]) a' h4 hd
                  · intro v9 v18 v186 v187 v188 v189 v190 v191 v192 v193 v194 v195 v196 v197 v198 v199 v200 v201 v202 v203 v204 v205 v206 v207 v208 v209 v210 v211 v212 v213 v214 v215 v216 v217 v218 v219 v220 v221 v222 v223 v224 v225 v226 v227 v228 v229 v230 v231 v232 v233 v234 v235 v236 v237 v238 v239 v240 v241 v242 v243 v244 v245 v246 v247 v248 v249 v250 v251 v252 v253 v254 v255 w12 L' T' hD hsome
                    have hst := HSTEP.out _ hsome
                    have HD12 := Lib.hid hD
                    have HI12 := Lib.hid hst.1
                    have HR12 := Lib.hid (show rStates qp ⟨lo, fr, cd⟩ = rRun cd gk L' T' by rw [HRES2.out, hsome])
                    have HM12 := Lib.hid (show rMu L' T' ≤ gk by
                      have h1 := hst.2.2
                      have h2 := HM.out
                      simp only at h1
                      unfold rMu at h1 h2 ⊢
                      simp only [List.length_cons] at h2
                      omega)
                    clear hst hD hsome
                    go_wp2_with fail
                    go_roundg gk
                    case measure => omega
                    case rel => exact ⟨L', T', HD12, HI12, HR12, HM12, by omega⟩
end Go.Proofs.YtiphicejaljhiaaDoor
