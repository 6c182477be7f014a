/- The walk of VerifyTells: it returns true, whatever the program, the capabilities and the number are. -/
import Derived.Test.YtiphicejaljhiaaDoorRef8S
import Derived.Test.YtiphicejaljhiaaDoorVWakes
import Derived.Test.YtiphicejaljhiaaDoorKProg
import Derived.Test.YtiphicejaljhiaaDoorOwn
import Derived.Deep.CutRange
import Derived.Deep.CutBlock
import Derived.Deep.DeepCutAuto
namespace Go.Proofs.YtiphicejaljhiaaDoor
open Go.ChangeShapes Go.WideShapes Go.ChangeAt Go.RowKit
set_option linter.unusedSimpArgs false
set_option linter.unusedVariables false
theorem run_field70 (w : World) (A : Option Addr) (n c : Nat) (b : Bool) : (Instr.field 70 (.agg #[.slice A n c, .bool b]) 1).run Tryd.prog w = .ok (.bool b) w := by kernel_rfl
set_option maxRecDepth 100000 in
set_option maxHeartbeats 2000000 in
theorem c69 (q : PrMem) (w : World) (hq : PrOk w w.heap.size q) :
    Calls Tryd.prog 69 #[q.val] w fun e w' => e = .returned (.bool (gRight q.pr)) ∧ Below w.heap.size w w' := by
  have b1 := below_new w (.cells #[.slice q.AF q.L.length q.cF, .slice q.AS q.S.length q.cS, .slice q.AM q.M.length q.cM] 42)
  have P1 := Blk.new w 42 #[.slice q.AF q.L.length q.cF, .slice q.AS q.S.length q.cS, .slice q.AM q.M.length q.cM]
  have HQ1 := Lib.hid (hq.next b1)
  have B1 := Lib.hid b1
  have c29' := Lib.hid (c29 q _ HQ1.out)
  have c38' := Lib.hid (fun (k : Nat) (x : Fnv) (hx : q.L[k]? = some x) (hg : gPr q.pr = true) (w2 : World) (b2 : Below w.heap.size w w2) => (c38 q k x hx w2 (hq.next b2) hg).mono fun e w' (h : RsPost w2 (rStates q.pr x.fn) e w') =>
    show RsPost w2 (vStates q.pr x.fn) e w' by
      obtain ⟨hgi, hl0, _⟩ := gPr_code hg (f := x.fn) (List.mem_map.2 ⟨x, List.mem_of_getElem? hx, rfl⟩)
      rw [← states_ref hgi hl0]
      exact h)
  generalize hpr : q.pr = p at c29' c38'
  have HLEN := Lib.hid (show p.funcs.length = q.L.length by rw [← hpr]; exact List.length_map ..)
  have HPR := Lib.hid hpr
  clear hpr b1 hq
  simp only [PrMem.val] at c29' c38' ⊢
  have p0 := P1.cell 0
  have p1 := P1.cell 1
  have p2 := P1.cell 2
  go_enter Tryd.func69, Tryd.ntmps69
  go_wp2_with fail
  refine c29'.out.mono ?_
  rintro e w2 ⟨rfl, b2⟩
  have B2 := Lib.hid (next_ B1.out b2)
  have P2 := P1.next b2
  clear b2 P1 p0 p1 p2 c29'
  cases hg : gPr p
  · have HN := Lib.hid (show gRight p = false by unfold gRight; rw [hg]; rfl)
    clear hg
    go_wp2_with fail
    go_ret
    exact ⟨by simp [HN.out], B2.out⟩
  have HG := Lib.hid hg
  clear hg
  obtain ⟨s1, s2, _, _⟩ := gPr_sizes HG.out
  rw [HLEN.out] at s1 s2
  have p0 := P2.cell 0
  go_wp2_with fail
  go_loopw [3] (fun i wr => ∃ k : Nat, k ≤ q.L.length ∧ i = .int .i64 k ∧ Hid ((p.funcs.take k).all (fun f => (vStates p f).isSome) = true) ∧ Hid (Below w2.heap.size w2 wr)) (fun i _ => q.L.length - (intOf i).toNat)
  case atStart => exact ⟨0, by omega, rfl, Lib.hid rfl, Lib.hid (Below.refl _ _)⟩
  case round =>
    obtain ⟨k, hk, rfl, HA, HB⟩ := hrel
    have P3 := P2.next HB.out
    have q0 := P3.cell 0
    have q1 := P3.cell 1
    have q2 := P3.cell 2
    have BB := Lib.hid (B2.out.trans (HB.out.mono B2.out.size))
    by_cases hlt : k < q.L.length
    · have hl : (k : Int) < (q.L.length : Int) := by omega
      obtain ⟨x, hx⟩ : ∃ x, q.L[k]? = some x := ⟨q.L[k], List.getElem?_eq_getElem hlt⟩
      have hpk : k < p.funcs.length := by have := HLEN.out; omega
      have hfk : p.funcs[k] = x.fn := by
        have h := HPR.out
        subst h
        have := (List.getElem?_eq_some_iff.1 hx).2
        simp [PrMem.pr, this]
      have hat := all_take1 (p := fun f => (vStates p f).isSome) hpk HA.out
      have han := all_not1 (p := fun f => (vStates p f).isSome) hpk
      rw [hfk] at hat han
      have HAT := Lib.hid hat
      have HAN := Lib.hid han
      have HX := Lib.hid hx
      clear hat han hfk hpk hx
      go_wp2_with fail
      refine (c38'.out k x HX.out HG.out wr BB.out).mono ?_
      rintro e w3 ⟨A, c, rfl, _, b3⟩
      have HB3 := Lib.hid (HB.out.trans (b3.mono HB.out.size))
      clear b3
      generalize hgd : (vStates p x.fn).getD [] = gl
      clear hgd
      have hf70 := fun b => run_field70 w3 A gl.length c b
      cases hr : vStates p x.fn with
      | none =>
        have HN := Lib.hid (show gRight p = false by
          unfold gRight
          rw [HAN.out (by rw [hr]; rfl), Bool.and_false])
        clear hr
        rw [Option.isSome_none]
        go_wp2_with fail
        go_ret
        exact ⟨by simp [HN.out], B2.out.trans (HB3.out.mono B2.out.size)⟩
      | some R =>
        have HN := Lib.hid (HAT.out (by rw [hr]; rfl))
        clear hr
        rw [Option.isSome_some]
        go_wp2_with fail
        go_roundw
        case rel => exact ⟨k + 1, by omega, by go_num, HN, HB3⟩
        case measure => simp [intOf]; omega
    · have hl : ¬ (k : Int) < (q.L.length : Int) := by omega
      obtain rfl : k = q.L.length := by omega
      have HE := Lib.hid (show gRight p = true by
        have h := HA.out
        rw [List.take_of_length_le (by rw [HLEN.out]; omega)] at h
        unfold gRight
        rw [HG.out, h]
        rfl)
      go_wp2_with fail
      go_ret
      exact ⟨by simp [HE.out], BB.out⟩
set_option maxRecDepth 100000 in
set_option maxHeartbeats 2000000 in
theorem c41 (q : PrMem) (grants : Int) (w : World) (hq : PrOk w w.heap.size q) :
    Calls Tryd.prog 41 #[q.val, .int .i64 grants] w fun e w' => e = .returned (.int .i64 (gCheck q.pr grants)) ∧ Below w.heap.size w w' := by
  have b1 := below_new w (.cells #[.slice q.AF q.L.length q.cF, .slice q.AS q.S.length q.cS, .slice q.AM q.M.length q.cM] 42)
  have P1 := Blk.new w 42 #[.slice q.AF q.L.length q.cF, .slice q.AS q.S.length q.cS, .slice q.AM q.M.length q.cM]
  have B1 := Lib.hid b1
  have c69' := Lib.hid (c69 q _ (hq.next b1))
  have c39' := Lib.hid (fun (w2 : World) (b2 : Below w.heap.size w w2) (hg : gPr q.pr = true) => c39 q w2 (hq.next b2) hg)
  generalize q.pr = p at c69' c39'
  clear b1 hq
  simp only [PrMem.val] at c69' c39' ⊢
  have p0 := P1.cell 0
  have p1 := P1.cell 1
  have p2 := P1.cell 2
  go_enter Tryd.func41, Tryd.ntmps41
  go_wp2_with fail
  refine c69'.out.mono ?_
  rintro e w2 ⟨rfl, b2⟩
  have B2 := Lib.hid (next_ B1.out b2)
  have P2 := P1.next b2
  clear b2 P1 p0 p1 p2 c69'
  cases hr : gRight p
  · have HN := Lib.hid (show gCheck p grants = 2 by unfold gCheck; rw [hr]; rfl)
    clear hr
    go_wp2_with fail
    go_ret
    exact ⟨by simp [HN.out], B2.out⟩
  have HG := Lib.hid (show gPr p = true by
    unfold gRight at hr
    simp only [Bool.and_eq_true] at hr
    exact hr.1)
  have HE := Lib.hid (show gCheck p grants = if bits .andNot .i64 (gBits p) grants = 0 then 0 else 18 by
    unfold gCheck gDen gCalls
    rw [hr, HG.out]
    rfl)
  clear hr
  have p0 := P2.cell 0
  have p1 := P2.cell 1
  have p2 := P2.cell 2
  go_wp2_with fail
  refine (c39'.out w2 B2.out HG.out).mono ?_
  rintro e w3 ⟨rfl, b3⟩
  have B3 := Lib.hid (next_ B2.out b3)
  clear b3 p0 p1 p2
  generalize gBits p = c at HE
  by_cases hz : bits .andNot .i64 c grants = 0
  · have HR := Lib.hid (show gCheck p grants = 0 by rw [HE.out, if_pos hz])
    have fz : (bits .andNot .i64 c grants != 0) = false := bne_eq_false_iff_eq.2 hz
    clear hz
    go_wp2_with fail
    go_ret
    exact ⟨by simp [HR.out], B3.out⟩
  · have HR := Lib.hid (show gCheck p grants = 18 by rw [HE.out, if_neg hz])
    have fz : (bits .andNot .i64 c grants != 0) = true := bne_iff_ne.2 hz
    clear hz
    go_wp2_with fail
    go_ret
    exact ⟨by simp [HR.out], B3.out⟩
theorem step_callw {ops : Array Oper} {o : Oper} {a : Act} {w : World} {K : Act → World → Prop} {Q : Exit → Act → World → Prop} {E : Prop} (hw : Region.wanted o (yielded ops a.tmps) = true) (f : Nat) (xs : Array Operand) (ts : Array TypeId)
    (ho : o.op = .call { callee := .value (.func f), args := xs, argTypes := ts }) (fn : Func) (hf : Tryd.prog.funcs[f]? = some fn) (hname : (fn.name == "runtime.NumGoroutine") = false) (hb : fn.body.isNone = false) (vs : Array Value) (hv0 : xs.toList.map a.eval = vs.toList) {R : Ending → World → Prop} (hc : Calls Tryd.prog f vs w R) (h : ∀ e w', R e w' → ∃ v, e = .returned v ∧ K (a.put o.dst v) w') :
    if Region.wanted o (yielded ops a.tmps) = true then Oper.wp Tryd.prog o a w K Q else E := by
  rw [if_pos hw]
  have hv : xs.map a.eval = vs := Array.toList_inj.1 (by rw [Array.toList_map]; exact hv0)
  have h1 : ¬ fn.name = "runtime.NumGoroutine" := by simpa using hname
  have h2 : ¬ fn.body = none := by cases hx : fn.body <;> simp_all
  have hrun : (execOp a.eval o).run Tryd.prog w = .ok (.enter f vs) w := by
    unfold execOp
    simp [ho, resolve, Deferred.ofValue, invoke, callFunc, hf, h1, h2, Act.eval, hv]
  unfold Oper.wp
  rw [hrun]
  exact hc.mono fun e w' hr => by
    obtain ⟨v, rfl, hk⟩ := h e w' hr
    exact hk
theorem small_pr {q q0 : PrMem} (h : SmallP q0) (e : q.pr = q0.pr) : SmallP q := by
  have e1 : q.L.map (·.fn) = q0.L.map (·.fn) := congrArg Pr.funcs e
  have e2 : q.S = q0.S := congrArg Pr.strs e
  have e3 : q.M.map (·.fm) = q0.M.map (·.fm) := congrArg Pr.forms e
  refine ⟨?_, by rw [e2]; exact h.S, ?_, fun x hx => ?_, fun x hx => ?_⟩
  · have := congrArg List.length e1
    rw [List.length_map, List.length_map] at this
    rw [this]; exact h.F
  · have := congrArg List.length e3
    rw [List.length_map, List.length_map] at this
    rw [this]; exact h.M
  · have hm : x.fn ∈ q0.L.map (·.fn) := by rw [← e1]; exact List.mem_map.2 ⟨x, hx, rfl⟩
    obtain ⟨y, hy, e⟩ := List.mem_map.1 hm
    rw [← e]; exact h.f y hy
  · have hm : x.fm ∈ q0.M.map (·.fm) := by rw [← e3]; exact List.mem_map.2 ⟨x, hx, rfl⟩
    obtain ⟨y, hy, e⟩ := List.mem_map.1 hm
    rw [← e]; exact h.m y hy
theorem st_len {p : Pr} {f : Int} {R : List Sta} (h : gStates p f = some R) : R.length = (p.funcs.getD f.toNat ⟨0, 0, []⟩).code.length ∧ R.length ≤ 600 := by
  unfold gStates at h
  split at h
  · cases h
  · rename_i hn
    have hg : gPr p = true := by
      cases hg : gPr p
      · exact absurd (.inr (.inr hg)) hn
      · rfl
    have hlt : f.toNat < p.funcs.length := by omega
    have hm : p.funcs.getD f.toNat ⟨0, 0, []⟩ ∈ p.funcs := by
      rw [List.getD_eq_getElem?_getD, List.getElem?_eq_getElem hlt]
      exact List.getElem_mem hlt
    obtain ⟨g1, g2, g3⟩ := gPr_code hg hm
    have hc := vStates_cl g1 g2 h
    exact ⟨hc.len, by rw [hc.len]; exact g3⟩
/-- The document's answer lies in a variable of the law's. -/
def G70 (W : World) (b : Nat) (R : Option (List Sta)) : Prop := ∃ A c, Blk W b 70 #[.slice A (R.getD []).length c, .bool R.isSome] ∧ Reads W W.heap.size 2 A (R.getD []).length ((R.getD []).flatMap stCells)
theorem G70.next {W W' : World} {b : Nat} {R : Option (List Sta)} (h : G70 W b R) (hb : Below W.heap.size W W') : G70 W' b R := by
  obtain ⟨A, c, h1, h2⟩ := h
  exact ⟨A, c, h1.next hb, (h2.below hb).more hb.size⟩
/-- A variable of another type than the rows' holds none of their cells. -/
theorem reads_off {w : World} {B n g i : Nat} {A A' : Option Addr} {m c : Nat} {d : Bool} {u : Value} {l : List Sta} (h : Reads w B 2 A n (l.flatMap stCells)) (hb : Blk w g 70 #[.slice A' m c, .bool d]) : Reads (w.setCell ⟨g, i, none⟩ u) B 2 A n (l.flatMap stCells) := by
  refine ⟨h.1, fun hn => ?_⟩
  obtain ⟨ad, e, hlt, hc⟩ := h.2 hn
  refine ⟨ad, e, hlt, fun j v hv => ?_⟩
  have hne : g ≠ ad.block := by
    rintro rfl
    have hl := h.1
    cases l with
    | nil => simp at hl; omega
    | cons s l =>
      have h0 := hc 0 _ rfl
      obtain ⟨blk, off, fi⟩ := ad
      cases fi with
      | some f =>
        rw [show (⟨blk, off, some f⟩ : Addr).add 0 = ⟨blk, off, some f⟩ from rfl] at h0
        unfold World.cell? at h0
        rw [show w.heap[blk]? = some _ from hb] at h0
        simp at h0
      | none =>
        have h1 := hb.cell off
        rw [show (⟨blk, off, none⟩ : Addr).add 0 = ⟨blk, off, none⟩ from rfl, h1] at h0
        match off with
        | 0 => cases h0
        | 1 => cases h0
        | k + 2 => simp at h0
  rw [World.cell?_setCell_other w _ _ u (fun e => hne (by have := congrArg Addr.block e; rw [block_of_add] at this; exact this))]
  exact hc j v hv
set_option maxRecDepth 100000 in
set_option maxHeartbeats 8000000 in
theorem c11 (q0 : PrMem) (grants f : Int) (w : World) (ht : VTab w) (hq : PrOk w w.heap.size q0) (hz : SizedP q0) : Calls Tryd.prog 11 #[q0.val, .int .i64 grants, .int .i64 f] w fun e w' => e = .returned (.bool true) ∧ Below w.heap.size w w' := by
  have HT := Lib.hid ht
  have HZ := Lib.hid hz
  obtain ⟨AF, cF, L, AS, cS, S, AM, cM, M⟩ := q0
  have lF := hq.lF
  simp only [PrMem.val] at lF ⊢
  unfold maxLen at lF
  have P1 := Blk.new w 42 #[.slice AF L.length cF, .slice AS S.length cS, .slice AM M.length cM]
  have B1 := Lib.hid (below_new w (.cells #[.slice AF L.length cF, .slice AS S.length cS, .slice AM M.length cM] 42))
  have Q1 := Lib.hid (hq.next B1.out)
  clear hq ht hz
  go_enter Tryd.func11, Tryd.ntmps11
  go_wp2_with fail
  refine (c25 _ _ Q1.out).mono ?_
  rintro e w2 ⟨rfl, b2⟩
  have B2 := Lib.hid (next_ B1.out b2)
  have Q2 := Lib.hid (Q1.out.next b2)
  have P2 := P1.next b2
  clear b2 P1
  have n0 := P2.cell 0
  have n1 := P2.cell 1
  have n2 := P2.cell 2
  cases hbig : gLarge _
  case true =>
    clear hbig
    go_wp2_with fail
    refine (c36 w2 (HT.out.next B2.out)).mono ?_
    rintro e w3 ⟨rfl, b3⟩
    go_wp2_with fail
    go_ret
    exact ⟨by simp, next_ B2.out b3⟩
  case false =>
    have HS := Lib.hid (small_of hbig HZ.out)
    clear hbig
    generalize hpr : (PrMem.mk AF cF L AS cS S AM cM M).pr = p
    have HP := Lib.hid hpr
    clear hpr
    have HLEN := Lib.hid (show p.funcs.length = L.length by rw [← HP.out]; exact List.length_map ..)
    go_wp2_with fail
    have hc := c27 (PrMem.mk AF cF L AS cS S AM cM M) HS.out w2 Q2.out
    simp only [PrMem.val] at hc
    refine hc.mono ?_
    clear hc
    rintro e w3 ⟨q1, rfl, hp1, ho1, b3⟩
    have QI3 := Lib.hid (ho1.ok (small_pr HS.out hp1))
    rw [HP.out] at hp1
    have HP1 := Lib.hid hp1
    have B3 := Lib.hid (next_ B2.out b3)
    have Q3 := Lib.hid (Q2.out.next b3)
    have P3 := P2.next b3
    clear hp1 ho1 b3 P2 n0 n1 n2
    obtain ⟨AF1, cF1, L1, AS1, cS1, S1, AM1, cM1, M1⟩ := q1
    simp only [PrMem.val]
    have B4 := Lib.hid (next_ B3.out (below_new w3 (.cells #[.slice AF1 L1.length cF1, .slice AS1 S1.length cS1, .slice AM1 M1.length cM1] 42)))
    have QI4 := Lib.hid (QI3.out.next (below_new w3 (.cells #[.slice AF1 L1.length cF1, .slice AS1 S1.length cS1, .slice AM1 M1.length cM1] 42)))
    have Q4 := Lib.hid (Q3.out.next (below_new w3 (.cells #[.slice AF1 L1.length cF1, .slice AS1 S1.length cS1, .slice AM1 M1.length cM1] 42)))
    have P4 := P3.alloc (.cells #[.slice AF1 L1.length cF1, .slice AS1 S1.length cS1, .slice AM1 M1.length cM1] 42)
    have I4 := Blk.new w3 42 #[.slice AF1 L1.length cF1, .slice AS1 S1.length cS1, .slice AM1 M1.length cM1]
    have n0 := I4.cell 0
    have n1 := I4.cell 1
    have n2 := I4.cell 2
    clear P3
    go_wp2_with fail
    have hc := c37 (PrMem.mk AF1 cF1 L1 AS1 cS1 S1 AM1 cM1 M1) f _ (HT.out.next B4.out) QI4.out
    rw [HP1.out] at hc
    simp only [PrMem.val] at hc
    refine hc.mono ?_
    clear hc
    rintro e w5 ⟨A5, c5, rfl, hr5, b5⟩
    have B5 := Lib.hid (next_ B4.out b5)
    have Q5 := Lib.hid (Q4.out.next b5)
    have QI5 := Lib.hid (QI4.out.next b5)
    have P5 := P4.next b5
    have I5 := I4.next b5
    clear P4 I4 b5 n0 n1 n2
    have HR5 := Lib.hid hr5
    clear hr5
    generalize hR : gStates p f = R at HR5 ⊢
    have HR := Lib.hid hR
    clear hR
    have B6 := Lib.hid (below_new w5 (.cells #[.slice none 0 0, .bool false] 70))
    have G6 := Blk.new w5 70 #[.slice none 0 0, .bool false]
    have P6 := P5.alloc (.cells #[.slice none 0 0, .bool false] 70)
    have hbig5 : w.heap.size < w5.heap.size := P5.lt
    go_upto_region 6 with fail
    generalize hw6 : w5.alloc (.cells #[.slice none 0 0, .bool false] 70) = w6 at B6 G6 P6
    clear hw6
    have n0 := P6.cell 0
    have n1 := P6.cell 1
    have n2 := P6.cell 2
    go_cut [36] (fun cv wx => cv = .bool (gPr p && decide (0 ≤ f) && decide (f < (L.length : Int))) ∧ Below w6.heap.size w6 wx)
    case first =>
      have hc := c29 (PrMem.mk AF cF L AS cS S AM cM M) w6 (Q5.out.next B6.out)
      rw [HP.out] at hc
      simp only [PrMem.val] at hc
      go_wp2_with fail
      refine hc.mono ?_
      clear hc
      rintro e w7 ⟨rfl, b7⟩
      have B7 := Lib.hid b7
      have P7 := P6.next b7
      clear b7 P6 n0 n1 n2
      have n0 := P7.cell 0
      cases hg : gPr p
      · as_aux_lemma =>
          go_wp2_with fail
          go_meet
          exact ⟨by rw [hg]; rfl, B7.out⟩
      · by_cases h0 : 0 ≤ f
        · have f0 : decide (0 ≤ f) = true := decide_eq_true h0
          by_cases h1 : f < (L.length : Int)
          · have f1 : decide (f < (L.length : Int)) = true := decide_eq_true h1
            as_aux_lemma =>
              go_wp2_with fail
              go_meet
              exact ⟨by rw [hg]; simp [h0, h1], B7.out⟩
          · have f1 : decide (f < (L.length : Int)) = false := decide_eq_false h1
            as_aux_lemma =>
              go_wp2_with fail
              go_meet
              exact ⟨by rw [hg]; simp [h1], B7.out⟩
        · have f0 : decide (0 ≤ f) = false := decide_eq_false h0
          as_aux_lemma =>
            go_wp2_with fail
            go_meet
            exact ⟨by rw [hg, f0]; rfl, B7.out⟩
    case rest =>
      obtain ⟨rfl, b7⟩ := hcut
      have L7 := Lib.hid (next_ B6.out b7)
      have G7 := G6.next b7
      clear b7 G6 P6 n0 n1 n2
      have P7 := P5.next L7.out
      have n0 := P7.cell 0
      have n1 := P7.cell 1
      have n2 := P7.cell 2
      obtain ⟨w7, rfl⟩ : ∃ w7 : World, w7 = wc := ⟨_, rfl⟩
      generalize hbin : (gPr p && decide (0 ≤ f) && decide (f < (L.length : Int))) = bin
      have HBIN := Lib.hid hbin
      clear hbin
      go_upto_if 36 with fail
      go_cut [] (fun wx => Below w5.heap.size w5 wx ∧ G70 wx w5.heap.size R)
      case first =>
        cases bin
        · have HN := Lib.hid (show R = none by
            rw [← HR.out]
            unfold gStates
            rw [if_pos]
            have h := HBIN.out
            rw [HLEN.out]
            cases hg : gPr p
            · exact .inr (.inr rfl)
            · rw [hg, Bool.true_and, Bool.and_eq_false_iff] at h
              rcases h with h | h
              · have := of_decide_eq_false h; omega
              · have := of_decide_eq_false h; omega)
          as_aux_lemma =>
            go_wp2_with fail
            go_meet
            refine ⟨L7.out, ?_⟩
            rw [HN.out]
            exact ⟨none, 0, G7, Reads.none_⟩
        · have hb := HBIN.out
          simp only [Bool.and_eq_true, decide_eq_true_eq] at hb
          obtain ⟨⟨hg, h0⟩, h1⟩ := hb
          obtain ⟨k, rfl⟩ := Int.eq_ofNat_of_zero_le h0
          have hk : k < L.length := by omega
          have HRK := Lib.hid (show rStates p (L[k]).fn = R by
            have hfk : p.funcs.getD k ⟨0, 0, []⟩ = (L[k]).fn := by
              rw [← HP.out, List.getD_eq_getElem?_getD]
              show ((L.map (·.fn))[k]?).getD _ = _
              rw [List.getElem?_map, List.getElem?_eq_getElem hk]
              rfl
            have hm : (L[k]).fn ∈ p.funcs := by
              rw [← HP.out]
              exact List.mem_map.2 ⟨L[k], List.getElem_mem hk, rfl⟩
            obtain ⟨hgi, hl0, _⟩ := gPr_code hg hm
            rw [states_ref hgi hl0, ← HR.out]
            unfold gStates
            rw [if_neg (by rw [hg, HLEN.out]; rintro (h | h | h); omega; omega; cases h), Int.toNat_natCast, hfk])
          have hc := c38 (PrMem.mk AF cF L AS cS S AM cM M) k L[k] (List.getElem?_eq_getElem hk) w7 (Q5.out.next L7.out) (by rw [HP.out]; exact hg)
          rw [HP.out, HRK.out] at hc
          simp only [PrMem.val] at hc
          generalize L[k] = xk at HRK hc
          clear h0 h1 hg hk
          go_wp2_with fail
          refine hc.mono ?_
          clear hc
          rintro e w8 ⟨A, c, rfl, hr8, b8⟩
          have G8 := G7.next b8
          have L8 := Lib.hid (next_ L7.out b8)
          have HR8 := Lib.hid hr8
          clear b8 hr8 n0 n1 n2
          have g0 := G8.cell 0
          have g1 := G8.cell 1
          have z0 := G8.frozen 0
          have z1 := G8.frozen 1
          go_wp2_with fail
          go_meet
          refine ⟨(L8.out.setCell (p := ⟨w5.heap.size, 0, none⟩) (Nat.le_refl _) _).setCell (p := ⟨w5.heap.size, 1, none⟩) (Nat.le_refl _) _, A, c, (G8.set_ 0 _).set_ 1 _, ?_⟩
          rw [World.size_setCell, World.size_setCell]
          exact reads_off (reads_off HR8.out G8) (G8.set_ 0 _)
      case rest =>
        obtain ⟨L8, HG8⟩ := hcut
        have L8 := Lib.hid L8
        have HG8 := Lib.hid HG8
        clear G7 P7 n0 n1 n2
        obtain ⟨w8, rfl⟩ : ∃ w8 : World, w8 = wc := ⟨_, rfl⟩
        have P8 := P5.next L8.out
        have n0 := P8.cell 0
        have n1 := P8.cell 1
        have n2 := P8.cell 2
        have hc := c29 (PrMem.mk AF cF L AS cS S AM cM M) w8 (Q5.out.next L8.out)
        rw [HP.out] at hc
        simp only [PrMem.val] at hc
        go_wp2_with fail
        refine hc.mono ?_
        clear hc
        rintro e wa ⟨rfl, ba⟩
        have La := Lib.hid (next_ L8.out ba)
        have HGa := Lib.hid (HG8.out.next ba)
        clear P8 n0 n1 n2 ba
        have Pa := P5.next La.out
        have n0 := Pa.cell 0
        have n1 := Pa.cell 1
        have n2 := Pa.cell 2
        go_upto_if 41 with fail
        go_cut [11] (fun cv wx => cv = .int .i64 (gCalls p) ∧ Below wa.heap.size wa wx)
        case first =>
          cases hg : gPr p
          · have HN := Lib.hid (show gCalls p = 0 by unfold gCalls; rw [hg]; rfl)
            as_aux_lemma =>
              go_wp2_with fail
              go_meet
              exact ⟨by rw [HN.out], Below.refl _ _⟩
          · have HN := Lib.hid (show gCalls p = gBits p by unfold gCalls; rw [hg]; rfl)
            have hc := c39 (PrMem.mk AF cF L AS cS S AM cM M) wa (Q5.out.next La.out) (by rw [HP.out]; exact hg)
            rw [HP.out] at hc
            simp only [PrMem.val] at hc
            clear hg
            go_wp2_with fail
            refine hc.mono ?_
            clear hc
            rintro e wb ⟨rfl, bb⟩
            go_wp2_with fail
            go_meet
            exact ⟨by rw [HN.out], bb⟩
        case rest =>
          obtain ⟨rfl, bb⟩ := hcut
          obtain ⟨w9, rfl⟩ : ∃ w9 : World, w9 = wc := ⟨_, rfl⟩
          obtain ⟨A6, c6, G9, hr6⟩ := HGa.out.next bb
          have L9 := Lib.hid (next_ La.out bb)
          have B9 := Lib.hid (next_ B5.out L9.out)
          have P9 := P5.next L9.out
          have I9 := I5.next L9.out
          have Q9 := Lib.hid (Q5.out.next L9.out)
          have QI9 := Lib.hid (QI5.out.next L9.out)
          have HR6 := Lib.hid hr6
          have HR9 := Lib.hid ((HR5.out.below L9.out).more L9.out.size)
          have HM := Lib.hid (show (R.getD []).length ≤ maxLen by
            cases hR : R with
            | none => exact Nat.zero_le _
            | some l =>
              have := (st_len (HR.out.trans hR)).2
              unfold maxLen
              show l.length ≤ _
              omega)
          have KS := Lib.hid (show ∀ V, Below w9.heap.size w9 V → (V.cell? ⟨w.heap.size, 0, none⟩ = some (.slice AF L.length cF) ∧ V.cell? ⟨w.heap.size, 1, none⟩ = some (.slice AS S.length cS) ∧ V.cell? ⟨w.heap.size, 2, none⟩ = some (.slice AM M.length cM) ∧ V.cell? ⟨w3.heap.size, 0, none⟩ = some (.slice AF1 L1.length cF1) ∧ V.cell? ⟨w3.heap.size, 1, none⟩ = some (.slice AS1 S1.length cS1) ∧ V.cell? ⟨w3.heap.size, 2, none⟩ = some (.slice AM1 M1.length cM1) ∧ V.cell? ⟨w5.heap.size, 0, none⟩ = some (.slice A6 (R.getD []).length c6) ∧ V.cell? ⟨w5.heap.size, 1, none⟩ = some (.bool R.isSome)) from fun V h => ⟨(P9.next h).cell 0, (P9.next h).cell 1, (P9.next h).cell 2, (I9.next h).cell 0, (I9.next h).cell 1, (I9.next h).cell 2, (G9.next h).cell 0, (G9.next h).cell 1⟩)
          clear bb hr6 Pa n0 n1 n2 P5 I5 P9 I9 G9 HR5
          have HR5 := HR9
          clear HR9
          go_wp2_with fail
          have Ld := Lib.hid ((Below.refl w9.heap.size w9).drew)
          refine wp_region_held_drew (S := fun V => V.cell? ⟨w.heap.size, 0, none⟩ = some (.slice AF L.length cF) ∧ V.cell? ⟨w.heap.size, 1, none⟩ = some (.slice AS S.length cS) ∧ V.cell? ⟨w.heap.size, 2, none⟩ = some (.slice AM M.length cM) ∧ V.cell? ⟨w3.heap.size, 0, none⟩ = some (.slice AF1 L1.length cF1) ∧ V.cell? ⟨w3.heap.size, 1, none⟩ = some (.slice AS1 S1.length cS1) ∧ V.cell? ⟨w3.heap.size, 2, none⟩ = some (.slice AM1 M1.length cM1) ∧ V.cell? ⟨w5.heap.size, 0, none⟩ = some (.slice A6 (R.getD []).length c6) ∧ V.cell? ⟨w5.heap.size, 1, none⟩ = some (.bool R.isSome)) (by kernel_rfl) (KS.out _ Ld.out) (fun hHeld => ?_)
          generalize w9.drew = d at Ld hHeld ⊢
          refine wpAnyH_take (i := 0) (oi := ⟨some 44, _, _, _, _, _⟩) (v := ?_) rfl (by kernel_rfl) (by kernel_rfl) (by kernel_rfl) (fun _ _ _ h => h) (Or.inl ⟨by kernel_rfl, ?_⟩) (by assumption) ?_
          rotate_left
          · intro w hSw
            go_simp
            try with_reducible rfl
          try simp only [Act.put, List.setIfInBounds_toArray, List.set_cons_zero, List.set_cons_succ]
          refine wpAnyH_take (i := 1) (oi := ⟨some 45, _, _, _, _, _⟩) (v := ?_) rfl (by kernel_rfl) (by kernel_rfl) (by kernel_rfl) (fun _ _ _ h => h) (Or.inl ⟨by kernel_rfl, ?_⟩) (by assumption) ?_
          rotate_left
          · intro w hSw
            go_simp
            try with_reducible rfl
          try simp only [Act.put, List.setIfInBounds_toArray, List.set_cons_zero, List.set_cons_succ]
          refine wpAnyH_take (i := 3) (oi := ⟨some 47, _, _, _, _, _⟩) (v := ?_) rfl (by kernel_rfl) (by kernel_rfl) (by kernel_rfl) (fun _ _ _ h => h) (Or.inl ⟨by kernel_rfl, ?_⟩) (by assumption) ?_
          rotate_left
          · intro w hSw
            go_simp
            try with_reducible rfl
          try simp only [Act.put, List.setIfInBounds_toArray, List.set_cons_zero, List.set_cons_succ]
          refine wpAnyH_take (i := 4) (oi := ⟨some 48, _, _, _, _, _⟩) (v := ?_) rfl (by kernel_rfl) (by kernel_rfl) (by kernel_rfl) (fun _ _ _ h => h) (Or.inl ⟨by kernel_rfl, ?_⟩) (by assumption) ?_
          rotate_left
          · intro w hSw
            go_simp
            try with_reducible rfl
          try simp only [Act.put, List.setIfInBounds_toArray, List.set_cons_zero, List.set_cons_succ]
          refine wpAnyH_ready (rs := [2]) (by kernel_rfl) (by simp) ?_
          refine AllReadyH.cons (o := ⟨some 46, _, _, _, _, _⟩) rfl (fun K hK => ?_) AllReadyH.nil
          have hc := c40 (PrMem.mk AF1 cF1 L1 AS1 cS1 S1 AM1 cM1 M1) grants d (HT.out.next (next_ B9.out Ld.out)) (QI9.out.next Ld.out)
          rw [HP1.out] at hc
          refine step_callw (by kernel_rfl) 40 #[.tmp 44, .tmp 45] #[42, 3] (by rfl) Tryd.f40 Tryd.func40 (by kernel_rfl) (by kernel_rfl) #[.agg #[.slice AF1 L1.length cF1, .slice AS1 S1.length cS1, .slice AM1 M1.length cM1], .int .i64 grants] (by rfl) hc ?_
          rintro e d1 ⟨rfl, bd1⟩
          refine ⟨_, rfl, ?_⟩
          have Ld1 := Lib.hid (next_ Ld.out bd1)
          clear bd1 hc
          refine hK.out _ _ ?_ (fun hHeld => ?_)
          · exact KS.out _ Ld1.out
          clear hK K
          try simp only [Act.put, List.setIfInBounds_toArray, List.set_cons_zero, List.set_cons_succ]
          refine wpAnyH_ready (rs := [5]) (by kernel_rfl) (by simp) ?_
          refine AllReadyH.cons (o := ⟨some 49, _, _, _, _, _⟩) rfl (fun K hK => ?_) AllReadyH.nil
          have hc := c41 (PrMem.mk AF cF L AS cS S AM cM M) grants d1 (Q9.out.next Ld1.out)
          rw [HP.out] at hc
          refine step_callw (by kernel_rfl) 41 #[.tmp 47, .tmp 48] #[42, 3] (by rfl) Tryd.f41 Tryd.func41 (by kernel_rfl) (by kernel_rfl) #[.agg #[.slice AF L.length cF, .slice AS S.length cS, .slice AM M.length cM], .int .i64 grants] (by rfl) hc ?_
          rintro e d2 ⟨rfl, bd2⟩
          refine ⟨_, rfl, ?_⟩
          have Ld2 := Lib.hid (next_ Ld1.out bd2)
          clear bd2 hc
          refine hK.out _ _ ?_ (fun hHeld => ?_)
          · exact KS.out _ Ld2.out
          clear hK K
          try simp only [Act.put, List.setIfInBounds_toArray, List.set_cons_zero, List.set_cons_succ]
          refine wpAnyH_take (i := 6) (oi := ⟨some 50, _, _, _, _, _⟩) (v := ?_) rfl (by kernel_rfl) (by kernel_rfl) (by kernel_rfl) (fun _ _ _ h => h) (Or.inl ⟨by kernel_rfl, ?_⟩) (by assumption) ?_
          rotate_left
          · intro w hSw
            go_simp
            try with_reducible rfl
          try simp only [Act.put, List.setIfInBounds_toArray, List.set_cons_zero, List.set_cons_succ]
          refine wpAnyH_take (i := 7) (oi := ⟨some 51, _, _, _, _, _⟩) (v := ?_) rfl (by kernel_rfl) (by kernel_rfl) (by kernel_rfl) (fun _ _ _ h => h) (Or.inl ⟨by kernel_rfl, ?_⟩) (by assumption) ?_
          rotate_left
          · intro w hSw
            go_simp
            try with_reducible rfl
          try simp only [Act.put, List.setIfInBounds_toArray, List.set_cons_zero, List.set_cons_succ]
          refine wpAnyH_take (i := 8) (oi := ⟨some 52, _, _, _, _, _⟩) (v := ?_) rfl (by kernel_rfl) (by kernel_rfl) (by kernel_rfl) (fun _ _ _ h => h) (Or.inl ⟨by kernel_rfl, ?_⟩) (by assumption) ?_
          rotate_left
          · intro w hSw
            go_simp
            try with_reducible rfl
          try simp only [Act.put, List.setIfInBounds_toArray, List.set_cons_zero, List.set_cons_succ]
          refine wpAnyH_take (i := 9) (oi := ⟨some 53, _, _, _, _, _⟩) (v := ?_) rfl (by kernel_rfl) (by kernel_rfl) (by kernel_rfl) (fun _ _ _ h => h) (Or.inl ⟨by kernel_rfl, ?_⟩) (by assumption) ?_
          rotate_left
          · intro w hSw
            go_simp
            try with_reducible rfl
          try simp only [Act.put, List.setIfInBounds_toArray, List.set_cons_zero, List.set_cons_succ]
          refine wpAnyH_take (i := 10) (oi := ⟨some 54, _, _, _, _, _⟩) (v := ?_) rfl (by kernel_rfl) (by kernel_rfl) (by kernel_rfl) (fun _ _ _ h => h) (Or.inl ⟨by kernel_rfl, ?_⟩) (by assumption) ?_
          rotate_left
          · intro w hSw
            go_simp
            try with_reducible rfl
          try simp only [Act.put, List.setIfInBounds_toArray, List.set_cons_zero, List.set_cons_succ]
          refine wpAnyH_ready (rs := [11]) (by kernel_rfl) (by simp) ?_
          refine AllReadyH.cons (o := ⟨some 55, _, _, _, _, _⟩) rfl (fun K hK => ?_) AllReadyH.nil
          have hc := c42 (R.getD []) (R.getD []) A5 A6 c5 c6 w9.heap.size w9.heap.size d2 (HR5.out.below Ld2.out) (HR6.out.below Ld2.out) HM.out
          refine step_callw (by kernel_rfl) 42 #[.tmp 52, .tmp 54] #[66, 66] (by rfl) Tryd.f42 Tryd.func42 (by kernel_rfl) (by kernel_rfl) #[.slice A5 (R.getD []).length c5, .slice A6 (R.getD []).length c6] (by rfl) hc ?_
          rintro e d3 ⟨rfl, bd3⟩
          refine ⟨_, rfl, ?_⟩
          have Ld3 := Lib.hid (next_ Ld2.out bd3)
          clear bd3 hc
          refine hK.out _ _ ?_ (fun hHeld => ?_)
          · exact KS.out _ Ld3.out
          clear hK K
          try simp only [Act.put, List.setIfInBounds_toArray, List.set_cons_zero, List.set_cons_succ]
          refine wpAnyH_take (i := 12) (oi := ⟨some 56, _, _, _, _, _⟩) (v := ?_) rfl (by kernel_rfl) (by kernel_rfl) (by kernel_rfl) (fun _ _ _ h => h) (Or.inl ⟨by kernel_rfl, ?_⟩) (by assumption) ?_
          rotate_left
          · intro w hSw
            go_simp
            try with_reducible rfl
          try simp only [Act.put, List.setIfInBounds_toArray, List.set_cons_zero, List.set_cons_succ]
          refine wpAnyH_take (i := 13) (oi := ⟨some 57, _, _, _, _, _⟩) (v := ?_) rfl (by kernel_rfl) (by kernel_rfl) (by kernel_rfl) (fun _ _ _ h => h) (Or.inl ⟨by kernel_rfl, ?_⟩) (by assumption) ?_
          rotate_left
          · intro w hSw
            go_simp
            try with_reducible rfl
          try simp only [Act.put, List.setIfInBounds_toArray, List.set_cons_zero, List.set_cons_succ]
          refine wpAnyH_take (i := 14) (oi := ⟨some 58, _, _, _, _, _⟩) (v := ?_) rfl (by kernel_rfl) (by kernel_rfl) (by kernel_rfl) (fun _ _ _ h => h) (Or.inl ⟨by kernel_rfl, ?_⟩) (by assumption) ?_
          rotate_left
          · intro w hSw
            go_simp
            try with_reducible rfl
          try simp only [Act.put, List.setIfInBounds_toArray, List.set_cons_zero, List.set_cons_succ]
          refine wpAnyH_take (i := 15) (oi := ⟨some 59, _, _, _, _, _⟩) (v := ?_) rfl (by kernel_rfl) (by kernel_rfl) (by kernel_rfl) (fun _ _ _ h => h) (Or.inl ⟨by kernel_rfl, ?_⟩) (by assumption) ?_
          rotate_left
          · intro w hSw
            go_simp
            try with_reducible rfl
          try simp only [Act.put, List.setIfInBounds_toArray, List.set_cons_zero, List.set_cons_succ]
          refine wpAnyH_take (i := 16) (oi := ⟨some 60, _, _, _, _, _⟩) (v := ?_) rfl (by kernel_rfl) (by kernel_rfl) (by kernel_rfl) (fun _ _ _ h => h) (Or.inl ⟨by kernel_rfl, ?_⟩) (by assumption) ?_
          rotate_left
          · intro w hSw
            go_simp
            try with_reducible rfl
          try simp only [Act.put, List.setIfInBounds_toArray, List.set_cons_zero, List.set_cons_succ]
          refine wpAnyH_take (i := 17) (oi := ⟨some 61, _, _, _, _, _⟩) (v := ?_) rfl (by kernel_rfl) (by kernel_rfl) (by kernel_rfl) (fun _ _ _ h => h) (Or.inl ⟨by kernel_rfl, ?_⟩) (by assumption) ?_
          rotate_left
          · intro w hSw
            go_simp
            try with_reducible rfl
          try simp only [Act.put, List.setIfInBounds_toArray, List.set_cons_zero, List.set_cons_succ]
          refine wpAnyH_take (i := 18) (oi := ⟨some 62, _, _, _, _, _⟩) (v := ?_) rfl (by kernel_rfl) (by kernel_rfl) (by kernel_rfl) (fun _ _ _ h => h) (Or.inl ⟨by kernel_rfl, ?_⟩) (by assumption) ?_
          rotate_left
          · intro w hSw
            go_simp
            try with_reducible rfl
          try simp only [Act.put, List.setIfInBounds_toArray, List.set_cons_zero, List.set_cons_succ]
          refine wpAnyH_take (i := 19) (oi := ⟨some 63, _, _, _, _, _⟩) (v := ?_) rfl (by kernel_rfl) (by kernel_rfl) (by kernel_rfl) (fun _ _ _ h => h) (Or.inl ⟨by kernel_rfl, ?_⟩) (by assumption) ?_
          rotate_left
          · intro w hSw
            go_simp
            try with_reducible rfl
          try simp only [Act.put, List.setIfInBounds_toArray, List.set_cons_zero, List.set_cons_succ]
          refine wpAnyH_take (i := 20) (oi := ⟨some 64, _, _, _, _, _⟩) (v := ?_) rfl (by kernel_rfl) (by kernel_rfl) (by kernel_rfl) (fun _ _ _ h => h) (Or.inl ⟨by kernel_rfl, ?_⟩) (by assumption) ?_
          rotate_left
          · intro w hSw
            go_simp
            try with_reducible rfl
          try simp only [Act.put, List.setIfInBounds_toArray, List.set_cons_zero, List.set_cons_succ]
          refine wpAnyH_take (i := 22) (oi := ⟨some 66, _, _, _, _, _⟩) (v := ?_) rfl (by kernel_rfl) (by kernel_rfl) (by kernel_rfl) (fun _ _ _ h => h) (Or.inl ⟨by kernel_rfl, ?_⟩) (by assumption) ?_
          rotate_left
          · intro w hSw
            go_simp
            try with_reducible rfl
          try simp only [Act.put, List.setIfInBounds_toArray, List.set_cons_zero, List.set_cons_succ]
          refine wpAnyH_ready (rs := [21]) (by kernel_rfl) (by simp) ?_
          refine AllReadyH.cons (o := ⟨some 65, _, _, _, _, _⟩) rfl (fun K hK => ?_) AllReadyH.nil
          have hc := c43 (PrMem.mk AF1 cF1 L1 AS1 cS1 S1 AM1 cM1 M1) d3 (HT.out.next (next_ B9.out Ld3.out)).op (QI9.out.next Ld3.out)
          rw [HP1.out] at hc
          refine step_callw (by kernel_rfl) 43 #[.tmp 64] #[42] (by rfl) Tryd.f43 Tryd.func43 (by kernel_rfl) (by kernel_rfl) #[.agg #[.slice AF1 L1.length cF1, .slice AS1 S1.length cS1, .slice AM1 M1.length cM1]] (by rfl) hc ?_
          rintro e d4 ⟨rfl, bd4⟩
          refine ⟨_, rfl, ?_⟩
          have Ld4 := Lib.hid (next_ Ld3.out bd4)
          clear bd4 hc
          refine hK.out _ _ ?_ (fun hHeld => ?_)
          · exact KS.out _ Ld4.out
          clear hK K
          try simp only [Act.put, List.setIfInBounds_toArray, List.set_cons_zero, List.set_cons_succ]
          refine wpAnyH_take (i := 23) (oi := ⟨some 67, _, _, _, _, _⟩) (v := ?_) rfl (by kernel_rfl) (by kernel_rfl) (by kernel_rfl) (fun _ _ _ h => h) (Or.inl ⟨by kernel_rfl, ?_⟩) (by assumption) ?_
          rotate_left
          · intro w hSw
            go_simp
            try with_reducible rfl
          try simp only [Act.put, List.setIfInBounds_toArray, List.set_cons_zero, List.set_cons_succ]
          refine wpAnyH_take (i := 24) (oi := ⟨some 68, _, _, _, _, _⟩) (v := ?_) rfl (by kernel_rfl) (by kernel_rfl) (by kernel_rfl) (fun _ _ _ h => h) (Or.inl ⟨by kernel_rfl, ?_⟩) (by assumption) ?_
          rotate_left
          · intro w hSw
            go_simp
            try with_reducible rfl
          try simp only [Act.put, List.setIfInBounds_toArray, List.set_cons_zero, List.set_cons_succ]
          refine wpAnyH_take (i := 25) (oi := ⟨some 69, _, _, _, _, _⟩) (v := ?_) rfl (by kernel_rfl) (by kernel_rfl) (by kernel_rfl) (fun _ _ _ h => h) (Or.inl ⟨by kernel_rfl, ?_⟩) (by assumption) ?_
          rotate_left
          · intro w hSw
            go_simp
            try with_reducible rfl
          try simp only [Act.put, List.setIfInBounds_toArray, List.set_cons_zero, List.set_cons_succ]
          refine wpAnyH_take (i := 26) (oi := ⟨some 70, _, _, _, _, _⟩) (v := ?_) rfl (by kernel_rfl) (by kernel_rfl) (by kernel_rfl) (fun _ _ _ h => h) (Or.inl ⟨by kernel_rfl, ?_⟩) (by assumption) ?_
          rotate_left
          · intro w hSw
            go_simp
            try with_reducible rfl
          try simp only [Act.put, List.setIfInBounds_toArray, List.set_cons_zero, List.set_cons_succ]
          refine wpAnyH_take (i := 27) (oi := ⟨some 71, _, _, _, _, _⟩) (v := ?_) rfl (by kernel_rfl) (by kernel_rfl) (by kernel_rfl) (fun _ _ _ h => h) (Or.inl ⟨by kernel_rfl, ?_⟩) (by assumption) ?_
          rotate_left
          · intro w hSw
            go_simp
            try with_reducible rfl
          try simp only [Act.put, List.setIfInBounds_toArray, List.set_cons_zero, List.set_cons_succ]
          refine wpAnyH_ready (rs := [28]) (by kernel_rfl) (by simp) ?_
          refine AllReadyH.cons (o := ⟨some 72, _, _, _, _, _⟩) rfl (fun K hK => ?_) AllReadyH.nil
          have hc := c35 (PrMem.mk AF1 cF1 L1 AS1 cS1 S1 AM1 cM1 M1) (PrMem.mk AF cF L AS cS S AM cM M) true ⟨fun _ => by rw [HP1.out, HP.out], fun _ => rfl⟩ d4 (QI9.out.next Ld4.out) (Q9.out.next Ld4.out)
          refine step_callw (by kernel_rfl) 35 #[.tmp 70, .tmp 71] #[42, 42] (by rfl) Tryd.f35 Tryd.func35 (by kernel_rfl) (by kernel_rfl) #[.agg #[.slice AF1 L1.length cF1, .slice AS1 S1.length cS1, .slice AM1 M1.length cM1], .agg #[.slice AF L.length cF, .slice AS S.length cS, .slice AM M.length cM]] (by rfl) hc ?_
          rintro e d5 ⟨rfl, bd5⟩
          refine ⟨_, rfl, ?_⟩
          have Ld5 := Lib.hid (next_ Ld4.out bd5)
          clear bd5 hc
          refine hK.out _ _ ?_ (fun hHeld => ?_)
          · exact KS.out _ Ld5.out
          clear hK K
          try simp only [Act.put, List.setIfInBounds_toArray, List.set_cons_zero, List.set_cons_succ]
          refine wpAnyH_take (i := 29) (oi := ⟨some 73, _, _, _, _, _⟩) (v := ?_) rfl (by kernel_rfl) (by kernel_rfl) (by kernel_rfl) (fun _ _ _ h => h) (Or.inl ⟨by kernel_rfl, ?_⟩) (by assumption) ?_
          rotate_left
          · intro w hSw
            go_simp
            try with_reducible rfl
          try simp only [Act.put, List.setIfInBounds_toArray, List.set_cons_zero, List.set_cons_succ]
          refine wpAnyH_take (i := 30) (oi := ⟨some 74, _, _, _, _, _⟩) (v := ?_) rfl (by kernel_rfl) (by kernel_rfl) (by kernel_rfl) (fun _ _ _ h => h) (Or.inl ⟨by kernel_rfl, ?_⟩) (by assumption) ?_
          rotate_left
          · intro w hSw
            go_simp
            try with_reducible rfl
          try simp only [Act.put, List.setIfInBounds_toArray, List.set_cons_zero, List.set_cons_succ]
          refine wpAnyH_ready (rs := [31]) (by kernel_rfl) (by simp) ?_
          refine AllReadyH.cons (o := ⟨some 75, _, _, _, _, _⟩) rfl (fun K hK => ?_) AllReadyH.nil
          have hc := c36 d5 (HT.out.next (next_ B9.out Ld5.out))
          refine step_callw (by kernel_rfl) 36 #[] #[] (by rfl) Tryd.f36 Tryd.func36 (by kernel_rfl) (by kernel_rfl) #[] (by rfl) hc ?_
          rintro e d6 ⟨rfl, bd6⟩
          refine ⟨_, rfl, ?_⟩
          have Ld6 := Lib.hid (next_ Ld5.out bd6)
          clear bd6 hc
          refine hK.out _ _ ?_ (fun hHeld => ?_)
          · exact KS.out _ Ld6.out
          clear hK K
          try simp only [Act.put, List.setIfInBounds_toArray, List.set_cons_zero, List.set_cons_succ]
          refine wpAnyH_take (i := 32) (oi := ⟨some 76, _, _, _, _, _⟩) (v := ?_) rfl (by kernel_rfl) (by kernel_rfl) (by kernel_rfl) (fun _ _ _ h => h) (Or.inl ⟨by kernel_rfl, ?_⟩) (by assumption) ?_
          rotate_left
          · intro w hSw
            go_simp
            try with_reducible rfl
          try simp only [Act.put, List.setIfInBounds_toArray, List.set_cons_zero, List.set_cons_succ]
          refine wpAnyH_take (i := 33) (oi := ⟨some 6, _, _, _, _, _⟩) (v := ?_) rfl (by kernel_rfl) (by kernel_rfl) (by kernel_rfl) (fun _ _ _ h => h) (Or.inl ⟨by kernel_rfl, ?_⟩) (by assumption) ?_
          rotate_left
          · intro w hSw
            go_simp
            try with_reducible rfl
          try simp only [Act.put, List.setIfInBounds_toArray, List.set_cons_zero, List.set_cons_succ]
          refine wpAnyH_done (by kernel_rfl) ?_ _
          go_wp2_with fail
          go_ret
          exact ⟨by simp, next_ B9.out Ld6.out⟩
end Go.Proofs.YtiphicejaljhiaaDoor
