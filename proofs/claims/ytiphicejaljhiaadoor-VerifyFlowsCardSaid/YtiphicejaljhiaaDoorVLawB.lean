/- The walk of VerifyFlows: it returns true, whatever the program, the number and the ways are. -/
import Derived.Test.YtiphicejaljhiaaDoorVWakes
import Derived.Test.YtiphicejaljhiaaDoorLarge
import Derived.Test.YtiphicejaljhiaaDoorRGood
namespace Go.Proofs.YtiphicejaljhiaaDoor
open Go.ChangeShapes Go.WideShapes Go.ChangeAt Go.RowKit
/-- WHAT COMES NEXT has the states that were told. -/
theorem flow_step {code : List Ins} {R : List Sta} (hS : VCl code R) (hg : ∀ i ∈ code, insGood i = true) {k : Nat} (hk : k < R.length) {h t : Int} (he : R.getD k unk = (h, t)) (h0 : 0 ≤ t) :
    gTakes (code.getD k ⟨0, 0, 0⟩).o (code.getD k ⟨0, 0, 0⟩).a (code.getD k ⟨0, 0, 0⟩).b ≤ h ∧ h ≤ 100 ∧ t ≤ 10 ∧ vExit (code.getD k ⟨0, 0, 0⟩).o (h, t) = true ∧
      ∀ x ∈ vNews (code.getD k ⟨0, 0, 0⟩) k (h, t), 0 ≤ x.1 ∧ x.1 < R.length ∧ 0 ≤ x.2.1 ∧ 0 ≤ x.2.2 ∧ R.getD x.1.toNat unk = x.2 := by
  rcases hS.ok k hk with h1 | ⟨a1, a2, a3, a4, a5, a6⟩
  · rw [he] at h1
    exact absurd h1 (ne_unk h0)
  · rw [he] at a1 a2 a3 a4 a5 a6
    have hcg := code_good hg (k := k) (by rw [← hS.len]; exact hk)
    refine ⟨vOk_le a5, a2, a4, ?_, fun x hx => ?_⟩
    · unfold vOk at a5
      simp at a5
      exact a5.2
    · obtain ⟨b1, b2, b3, b4, b5⟩ := a6 x hx
      obtain ⟨c1, c2⟩ := news_at0 hcg a1 a5 x hx
      exact ⟨c1, b1, c2, b4, b5⟩
theorem c16y {o a b : Int} (hg : insGood ⟨o, a, b⟩ = true) (w : World) : Calls Tryd.prog 16 #[.agg #[.int .i64 o, .int .i64 a, .int .i64 b]] w fun e w' => e = .returned (.agg #[.int .i64 (gTakes o a b), .int .i64 (gLeaves o)]) ∧ Below w.heap.size w w' := by
  have h := c16 o a b w
  rw [rEff_good (show gGood o a b = true from hg)] at h
  exact h
theorem gRight_of {p : Pr} {g : Int} (h : gCheck p g = 0) : gPr p = true ∧ ∀ f ∈ p.funcs, ∃ R, vStates p f = some R := by
  unfold gCheck at h
  split at h
  · rename_i hr
    unfold gRight at hr
    simp only [Bool.and_eq_true] at hr
    exact ⟨hr.1, fun f hf => Option.isSome_iff_exists.1 (List.all_eq_true.1 hr.2 f hf)⟩
  · cases h
def FlowRel (R : List Sta) (k : Nat) (h t : Int) : Prop := k < R.length ∧ R.getD k unk = (h, t) ∧ 0 ≤ h ∧ 0 ≤ t
theorem flow_to {R : List Sta} {k : Nat} {h t a h' t' : Int} {i : Ins} (hn : ∀ x ∈ vNews i k (h, t), 0 ≤ x.1 ∧ x.1 < R.length ∧ 0 ≤ x.2.1 ∧ 0 ≤ x.2.2 ∧ R.getD x.1.toNat unk = x.2) (hm : (a, (h', t')) ∈ vNews i k (h, t)) : ∃ m : Nat, a = m ∧ FlowRel R m h' t' := by
  obtain ⟨b1, b2, b3, b4, b5⟩ := hn _ hm
  have b1' : 0 ≤ a := b1
  have b2' : a < R.length := b2
  exact ⟨a.toNat, by omega, by omega, b5, b3, b4⟩
set_option maxRecDepth 100000 in
set_option maxHeartbeats 8000000 in
theorem c12 (q : PrMem) (fn : Nat) (hfn : fn ≤ 255) (ys : List Bool) (Ay : Option Addr) (cy : Nat) (w : World) (ht : VTab w) (hq : PrOk w w.heap.size q) (hy : Reads w w.heap.size 1 Ay ys.length (ys.map Value.bool)) (hyl : ys.length ≤ maxLen) :
    Calls Tryd.prog 12 #[q.val, .int .u8 fn, .slice Ay ys.length cy] w fun e w' => e = .returned (.bool true) ∧ Below w.heap.size w w' := by
  have HT := Lib.hid ht
  unfold maxLen at hyl
  obtain ⟨AF, cF, L, AS, cS, S, AM, cM, M⟩ := q
  have lF := hq.lF
  simp only [PrMem.val] at lF ⊢
  unfold maxLen at lF
  have P1 := Blk.new w 42 #[.slice AF L.length cF, .slice AS S.length cS, .slice AM M.length cM]
  have B1 := Lib.hid (below_new w (.cells #[.slice AF L.length cF, .slice AS S.length cS, .slice AM M.length cM] 42))
  have Q1 := Lib.hid (hq.next B1.out)
  have HY := Lib.hid hy
  clear hq ht hy
  go_enter Tryd.func12, Tryd.ntmps12
  go_wp2_with fail
  refine (c25 _ _ Q1.out).mono ?_
  rintro e w2 ⟨rfl, b2⟩
  have B2 := Lib.hid (next_ B1.out b2)
  have Q2 := Lib.hid (Q1.out.next b2)
  have P2 := P1.next b2
  clear b2 P1
  have n0 := P2.cell 0
  have n1 := P2.cell 1
  have n2 := P2.cell 2
  generalize gLarge _ = big
  cases big
  case true =>
    go_wp2_with fail
    refine (c36 w2 (HT.out.next B2.out)).mono ?_
    rintro e w3 ⟨rfl, b3⟩
    go_wp2_with fail
    go_ret
    exact ⟨by simp, next_ B2.out b3⟩
  case false =>
    by_cases hl0 : L.length = 0
    · have f0 : ((L.length : Int) == 0) = true := beq_iff_eq.2 (by omega)
      clear hl0
      go_wp2_with fail
      refine (c36 w2 (HT.out.next B2.out)).mono ?_
      rintro e w3 ⟨rfl, b3⟩
      go_wp2_with fail
      go_ret
      exact ⟨by simp, next_ B2.out b3⟩
    have f0 : ((L.length : Int) == 0) = false := beq_eq_false_iff_ne.2 (by omega)
    by_cases hy3 : 300 < ys.length
    · have f3 : decide ((300 : Int) < (ys.length : Int)) = true := decide_eq_true (by omega)
      clear hl0 hy3
      go_wp2_with fail
      refine (c36 w2 (HT.out.next B2.out)).mono ?_
      rintro e w3 ⟨rfl, b3⟩
      go_wp2_with fail
      go_ret
      exact ⟨by simp, next_ B2.out b3⟩
    have f3 : decide ((300 : Int) < (ys.length : Int)) = false := decide_eq_false (by omega)
    have f0' : ¬ (L.length : Int) = 0 := by omega
    have hl1 : (0 : Int) < (L.length : Int) := by omega
    obtain ⟨k, hk⟩ : ∃ k, k = fn % L.length := ⟨_, rfl⟩
    have hkl : k < L.length := by rw [hk]; exact Nat.mod_lt _ (by omega)
    have hkm : (fn : Int) % (L.length : Int) = (k : Int) := by rw [hk]; exact (Int.natCast_emod fn L.length).symm
    clear hk hl0 hy3
    generalize hpr : (PrMem.mk AF cF L AS cS S AM cM M).pr = p
    have HP := Lib.hid hpr
    clear hpr
    have HLEN := Lib.hid (show p.funcs.length = L.length by rw [← HP.out]; exact List.length_map ..)
    go_wp2_with fail
    have hc := c40 (PrMem.mk AF cF L AS cS S AM cM M) 15 w2 (HT.out.next B2.out) Q2.out
    rw [HP.out] at hc
    simp only [PrMem.val] at hc
    refine hc.mono ?_
    clear hc
    rintro e w3 ⟨rfl, b3⟩
    have B3 := Lib.hid (next_ B2.out b3)
    have Q3 := Lib.hid (Q2.out.next b3)
    have P3 := P2.next b3
    clear b3 P2 n0 n1 n2
    have n0 := P3.cell 0
    have n1 := P3.cell 1
    have n2 := P3.cell 2
    generalize hgc : gCheck p 15 = gc
    by_cases hgz : gc = 0
    case neg =>
      have fz : (gc != 0) = true := bne_iff_ne.2 hgz
      clear hgc hgz
      go_wp2_with fail
      refine (c36 w3 (HT.out.next B3.out)).mono ?_
      rintro e w4 ⟨rfl, b4⟩
      go_wp2_with fail
      go_ret
      exact ⟨by simp, next_ B3.out b4⟩
    subst hgz
    obtain ⟨hg, hall⟩ := gRight_of hgc
    have HG := Lib.hid hg
    have hpk : k < p.funcs.length := by rw [HLEN.out]; exact hkl
    obtain ⟨R, hR⟩ := hall _ (List.getElem_mem hpk)
    obtain ⟨g1, g2, g3⟩ := gPr_code hg (List.getElem_mem hpk)
    have hcl := vStates_cl g1 g2 hR
    have hst : gStates p k = some R := by
      unfold gStates
      rw [if_neg (by rw [hg]; intro hh; rcases hh with hh | hh | hh; omega; omega; cases hh), Int.toNat_natCast, List.getD_eq_getElem?_getD, List.getElem?_eq_getElem hpk]
      exact hR
    have hfk : p.funcs[k] = (L[k]).fn := by have h := HP.out; subst h; simp [PrMem.pr]
    rw [hfk] at g1 g2 g3 hcl
    have HST := Lib.hid hst
    clear hgc hg hall hR hst hfk hpk
    have hxm := Q3.out.fn _ (List.getElem_mem hkl)
    obtain ⟨ad, e, adb, hcs⟩ := Reads.rowAt (f := Fnv.cells) (m := 3) (fun _ => rfl) Q3.out.fns (by decide) (List.getElem?_eq_getElem hkl)
    simp only at e
    subst e
    generalize L[k] = x at hcs g1 g2 g3 hcl hxm
    obtain ⟨⟨lo, fr, cd⟩, xa, xc⟩ := x
    simp only at g1 g2 g3 hcl hxm
    have a2 : w3.cell? ⟨(ad.add (k * 3)).block, (ad.add (k * 3)).off + 2, none⟩ = some (.slice xa cd.length xc) := hcs 2 _ rfl
    have HXM := Lib.hid hxm
    have HG1 := Lib.hid g1
    have HCL := Lib.hid hcl
    have hRl := hcl.len
    clear hcs hxm g1 hcl
    have hki : (k : Int) < (L.length : Int) := by omega
    have hk0 : (0 : Int) ≤ (k : Int) := by omega
    have HRL := Lib.hid hRl
    clear hRl
    go_wp2_with fail
    have hc := c37 (PrMem.mk (some ad) cF L AS cS S AM cM M) k w3 (HT.out.next B3.out) Q3.out
    rw [HP.out, HST.out] at hc
    simp only [PrMem.val] at hc
    refine hc.mono ?_
    clear hc
    rintro e w4 ⟨A4, c4, rfl, hr4, b4⟩
    simp only [Option.getD_some, Option.isSome_some] at hr4 ⊢
    rw [HRL.out] at hr4 ⊢
    have B4 := Lib.hid (next_ B3.out b4)
    have Q4 := Lib.hid (Q3.out.next b4)
    have P4 := P3.next b4
    have XM := Lib.hid (show FnOk w4 w4.heap.size ⟨⟨lo, fr, cd⟩, xa, xc⟩ from ⟨(HXM.out.1.below b4).more b4.size, HXM.out.2⟩)
    have a2' : w4.cell? ⟨(ad.add (k * 3)).block, (ad.add (k * 3)).off + 2, none⟩ = some (.slice xa cd.length xc) := (b4.cell (p := ⟨(ad.add (k * 3)).block, _, none⟩) (by rw [block_of_add]; exact adb)).trans a2
    have HR4 := Lib.hid hr4
    clear b4 P3 n0 n1 n2 a2 hr4 HXM
    have n0 := P4.cell 0
    have n1 := P4.cell 1
    have n2 := P4.cell 2
    go_wp2_with fail
    have hc := c29 (PrMem.mk (some ad) cF L AS cS S AM cM M) w4 Q4.out
    rw [HP.out, HG.out] at hc
    simp only [PrMem.val] at hc
    refine hc.mono ?_
    clear hc
    rintro e w5 ⟨rfl, b5⟩
    have B5 := Lib.hid (next_ B4.out b5)
    have XM5 := Lib.hid (show Reads w5 w5.heap.size 3 xa cd.length (cd.flatMap insCells) from (XM.out.1.below b5).more b5.size)
    have R5 := Lib.hid ((HR4.out.below b5).more b5.size)
    have Y5 := Lib.hid ((HY.out.below B5.out).more B5.out.size)
    clear b5 P4 n0 n1 n2 a2' XM HR4
    go_wp2_with fail
    go_loopw [11, 12, 13, 14] (fun a h t i wr => ∃ (k : Nat) (hh tt : Int) (j : Nat), a = .int .i64 k ∧ h = .int .i64 hh ∧ t = .int .i64 tt ∧ i = .int .i64 j ∧ j ≤ ys.length ∧ Hid (FlowRel R k hh tt) ∧ Hid (Below w5.heap.size w5 wr)) (fun _ _ _ i _ => ys.length - (intOf i).toNat)
    case atStart => exact ⟨0, 0, 0, 0, rfl, rfl, rfl, rfl, by omega, Lib.hid ⟨by rw [HRL.out]; exact g2, HCL.out.at0, by decide, by decide⟩, Lib.hid (Below.refl _ _)⟩
    case round =>
      obtain ⟨at', h, t, j, rfl, rfl, rfl, rfl, hj, HF, HB⟩ := hrel
      have hwz := HB.out.size
      have BB := Lib.hid (B5.out.trans (HB.out.mono B5.out.size))
      by_cases hlt : j < ys.length
      case neg =>
        have hl : ¬ (j : Int) < (ys.length : Int) := by omega
        go_wp2_with fail
        refine (c36 wr (HT.out.next BB.out)).mono ?_
        rintro e w6 ⟨rfl, b6⟩
        go_wp2_with fail
        go_ret
        exact ⟨by simp, next_ BB.out b6⟩
      have hl : (j : Int) < (ys.length : Int) := by omega
      have hj0 : (0 : Int) ≤ (j : Int) := by omega
      obtain ⟨hk1, hkR, hh0, ht0⟩ := HF.out
      have HRL' := HRL.out
      obtain ⟨s1, s2, s3, s4, s5⟩ := flow_step HCL.out HG1.out hk1 hkR ht0
      have hcd : at' < cd.length := by rw [← HRL']; exact hk1
      have hgi := code_good HG1.out hcd
      obtain ⟨ae, e, _, hci⟩ := (XM5.out.below HB.out).insAt (code_at hcd)
      subst e
      obtain ⟨a4, e, z0, z1⟩ := (R5.out.below HB.out).staN (show R[at']? = some (h, t) by rw [← hkR]; exact getD_at hk1)
      subst e
      simp only at z0 z1
      generalize hii : cd.getD at' ⟨0, 0, 0⟩ = i at s1 s4 s5 hgi hci
      clear hii HRL' hkR hk1
      obtain ⟨o, a, b⟩ := i
      simp only at s1 s4
      have htk := takes_nonneg hgi
      have hlv := leaves_nonneg hgi
      simp only at htk hlv
      have S5 := Lib.hid s5
      have S4 := Lib.hid s4
      have HGI := Lib.hid hgi
      have HCI := Lib.hid hci
      clear s5 s4 hgi hci
      have fa0 : decide ((at' : Int) < 0) = false := decide_eq_false (by omega)
      have fa1 : decide ((cd.length : Int) ≤ (at' : Int)) = false := decide_eq_false (by omega)
      have ha0 : (0 : Int) ≤ (at' : Int) := by omega
      have hal : (at' : Int) < (cd.length : Int) := by omega
      have en := fun w => run_ne2 w 79 Tryd.underlying79 h t h t
      simp only [beq_self_eq_true, Bool.and_self, Bool.not_true] at en
      have X1 := Blk.new wr 23 #[.int .i64 o, .int .i64 a, .int .i64 b]
      have x0 := X1.cell 0
      have x1 := X1.cell 1
      have x2 := X1.cell 2
      have B6 := Lib.hid (BB.out.alloc (by have := B5.out.size; omega) (.cells #[.int .i64 o, .int .i64 a, .int .i64 b] 23))
      have D6 := Lib.hid (HB.out.alloc hwz (.cells #[.int .i64 o, .int .i64 a, .int .i64 b] 23))
      go_wp2_with (refine wpList_load_at rfl 23 (.tmp 93) rfl (ae.add (at' * 3)) rfl [.int .i64 o, .int .i64 a, .int .i64 b] _ HCI.out Tryd.underlying23 rfl (by kernel_rfl) ?_)
      refine (c16y HGI.out _).mono ?_
      rintro e w7 ⟨rfl, b7⟩
      have B7 := Lib.hid (next_ B6.out b7)
      have X7 := X1.next b7
      have hs7 := b7.size
      have D7 := Lib.hid (D6.out.trans (b7.mono D6.out.size))
      rw [World.size_alloc] at hs7
      clear b7 x0 x1 x2 X1 z0 z1 en
      generalize htke : gTakes o a b = tk at s1 htk
      generalize hlve : gLeaves o = lv at hlv
      have TK := Lib.hid htke
      have LV := Lib.hid hlve
      clear htke hlve
      have X8 := X7.alloc (.cells #[.int .i64 tk, .int .i64 lv] 27)
      have B8 := Lib.hid (B7.out.alloc B7.out.size (.cells #[.int .i64 tk, .int .i64 lv] 27))
      have D8 := Lib.hid (D7.out.alloc D7.out.size (.cells #[.int .i64 tk, .int .i64 lv] 27))
      have x0 := X8.cell 0
      have x1 := X8.cell 1
      have N8 := Blk.new w7 27 #[.int .i64 tk, .int .i64 lv]
      have y0 := N8.cell 0
      have y1 := N8.cell 1
      have f1 : decide (h < tk) = false := decide_eq_false (by omega)
      have f2 : decide ((100 : Int) < h) = false := decide_eq_false (by omega)
      have f4 : decide ((10 : Int) < t) = false := decide_eq_false (by omega)
      have W1 : IntKind.i64.wrap (lv - tk) = lv - tk := IntWalk.i64_in _ (by omega)
      have W2 : IntKind.i64.wrap (h + (lv - tk)) = h + (lv - tk) := IntWalk.i64_in _ (by omega)
      have HNW := Lib.hid (show vNews ⟨o, a, b⟩ at' (h, t) = (if o = 33 then [(a, (h + 1, t))] else if o = 10 ∨ o = 11 then [(a, (h - tk + lv, t))] else []) ++ (if gEnds o then [] else [((at' : Int) + 1, if o = 33 then (h - tk + lv, t + 1) else if o = 34 then (h - tk + lv, t - 1) else (h - tk + lv, t))]) by rw [← TK.out, ← LV.out]; rfl)
      by_cases h9 : o = 9
      · subst h9
        have hz := S4.out
        unfold vExit at hz
        rw [if_pos rfl] at hz
        have hz' := of_decide_eq_true hz
        have htk1 : tk = 1 := by rw [← TK.out]; rfl
        have hlv0 : lv = 0 := by rw [← LV.out]; rfl
        injection hz' with hz1 hz2
        have e1 : (h + (lv - tk) == 0) = true := beq_iff_eq.2 (by omega)
        have e2 : (t == 0) = true := beq_iff_eq.2 hz2
        clear hz hz1 hz2 htk1 hlv0
        go_wp2_with fail
        refine (c36 _ (HT.out.next B8.out)).mono ?_
        rintro e w9 ⟨rfl, b9⟩
        go_wp2_with fail
        go_ret
        exact ⟨by simp, next_ B8.out b9⟩
      have f9 : (o == 9) = false := beq_eq_false_iff_ne.2 h9
      by_cases h8 : o = 8
      · subst h8
        have hz := S4.out
        unfold vExit at hz
        rw [if_neg (by decide), if_pos rfl] at hz
        have hz' := of_decide_eq_true hz
        have htk1 : tk = 2 := by rw [← TK.out]; rfl
        have hlv0 : lv = 0 := by rw [← LV.out]; rfl
        injection hz' with hz1 hz2
        have e1 : (h + (lv - tk) == 0) = true := beq_iff_eq.2 (by omega)
        have e2 : (t == 0) = true := beq_iff_eq.2 hz2
        clear hz hz1 hz2 htk1 hlv0
        go_wp2_with fail
        refine (c36 _ (HT.out.next B8.out)).mono ?_
        rintro e w9 ⟨rfl, b9⟩
        go_wp2_with fail
        go_ret
        exact ⟨by simp, next_ B8.out b9⟩
      have f8 : (o == 8) = false := beq_eq_false_iff_ne.2 h8
      by_cases h35 : o = 35
      · subst h35
        go_wp2_with fail
        refine (c36 _ (HT.out.next B8.out)).mono ?_
        rintro e w9 ⟨rfl, b9⟩
        go_wp2_with fail
        go_ret
        exact ⟨by simp, next_ B8.out b9⟩
      have f35 : (o == 35) = false := beq_eq_false_iff_ne.2 h35
      have hsum : h + (lv - tk) = h - tk + lv := by omega
      have HSUM := Lib.hid hsum
      clear hsum
      have W3 : IntKind.i64.wrap (t + 1) = t + 1 := IntWalk.i64_in _ (by omega)
      have W4 : IntKind.i64.wrap (t - 1) = t - 1 := IntWalk.i64_in _ (by omega)
      have W5 : IntKind.i64.wrap ((at' : Int) + 1) = (at' : Int) + 1 := IntWalk.i64_in _ (by omega)
      have W6 : IntKind.i64.wrap (h + (lv - tk) + 1) = h + (lv - tk) + 1 := IntWalk.i64_in _ (by omega)
      by_cases h10 : o = 10
      · subst h10
        obtain ⟨m, rfl, hfr⟩ := flow_to S5.out (a := a) (h' := h - tk + lv) (t' := t) (by rw [HNW.out]; simp)
        have HFR := Lib.hid hfr
        clear hfr
        go_wp2_with fail
        go_roundw
        case rel => exact ⟨m, h + (lv - tk), t, j + 1, rfl, rfl, rfl, by go_num, by omega, Lib.hid (by rw [HSUM.out]; exact HFR.out), D8⟩
        case measure => simp [intOf]; omega
      have f10 : (o == 10) = false := beq_eq_false_iff_ne.2 h10
      obtain ⟨ay, u, e, _, hu, yc⟩ := (Y5.out.below D8.out).at_ hlt
      subst e
      rw [List.getElem?_map, List.getElem?_eq_getElem hlt] at hu
      obtain rfl := Option.some.inj hu
      clear hu
      generalize ys[j] = yb at yc
      by_cases h11 : o = 11
      · subst h11
        cases yb
        · obtain ⟨m, hm, hfr⟩ := flow_to S5.out (a := (at' : Int) + 1) (h' := h - tk + lv) (t' := t) (by rw [HNW.out]; simp [show gEnds 11 = false by decide])
          have HFR := Lib.hid hfr
          have HM := Lib.hid hm
          clear hfr hm
          go_wp2_with fail
          go_roundw
          case rel => exact ⟨m, h + (lv - tk), t, j + 1, by rw [HM.out], rfl, rfl, by go_num, by omega, Lib.hid (by rw [HSUM.out]; exact HFR.out), D8⟩
          case measure => simp [intOf]; omega
        · obtain ⟨m, rfl, hfr⟩ := flow_to S5.out (a := a) (h' := h - tk + lv) (t' := t) (by rw [HNW.out]; simp)
          have HFR := Lib.hid hfr
          clear hfr
          go_wp2_with fail
          go_roundw
          case rel => exact ⟨m, h + (lv - tk), t, j + 1, rfl, rfl, rfl, by go_num, by omega, Lib.hid (by rw [HSUM.out]; exact HFR.out), D8⟩
          case measure => simp [intOf]; omega
      have f11 : (o == 11) = false := beq_eq_false_iff_ne.2 h11
      by_cases h33 : o = 33
      · subst h33
        cases yb
        · obtain ⟨m, hm, hfr⟩ := flow_to S5.out (a := (at' : Int) + 1) (h' := h - tk + lv) (t' := t + 1) (by rw [HNW.out]; simp [show gEnds 33 = false by decide])
          have HFR := Lib.hid hfr
          have HM := Lib.hid hm
          clear hfr hm
          go_wp2_with fail
          go_roundw
          case rel => exact ⟨m, h + (lv - tk), t + 1, j + 1, by rw [HM.out], rfl, rfl, by go_num, by omega, Lib.hid (by rw [HSUM.out]; exact HFR.out), D8⟩
          case measure => simp [intOf]; omega
        · have htk1 : tk = 0 := by rw [← TK.out]; rfl
          have hlv0 : lv = 0 := by rw [← LV.out]; rfl
          obtain ⟨m, rfl, hfr⟩ := flow_to S5.out (a := a) (h' := h + 1) (t' := t) (by rw [HNW.out]; simp)
          have HFR := Lib.hid (show FlowRel R m (h + (lv - tk) + 1) t by rw [show h + (lv - tk) + 1 = h + 1 by omega]; exact hfr)
          clear hfr htk1 hlv0
          go_wp2_with fail
          go_roundw
          case rel => exact ⟨m, h + (lv - tk) + 1, t, j + 1, rfl, rfl, rfl, by go_num, by omega, HFR, D8⟩
          case measure => simp [intOf]; omega
      have f33 : (o == 33) = false := beq_eq_false_iff_ne.2 h33
      by_cases h34 : o = 34
      · subst h34
        have hme : ((at' : Int) + 1, (h - tk + lv, t - 1)) ∈ vNews ⟨34, a, b⟩ at' (h, t) := by rw [HNW.out]; simp [show gEnds 34 = false by decide]
        obtain ⟨m, hm, hfr⟩ := flow_to S5.out hme
        have ht1 : ¬ t - 1 < 0 := by have := hfr.2.2.2; omega
        have ft : decide (t - 1 < 0) = false := decide_eq_false ht1
        have HFR := Lib.hid hfr
        have HM := Lib.hid hm
        clear hfr hm hme ht1
        go_wp2_with fail
        go_roundw
        case rel => exact ⟨m, h + (lv - tk), t - 1, j + 1, by rw [HM.out], rfl, rfl, by go_num, by omega, Lib.hid (by rw [HSUM.out]; exact HFR.out), D8⟩
        case measure => simp [intOf]; omega
      have f34 : (o == 34) = false := beq_eq_false_iff_ne.2 h34
      have hends : gEnds o = false := by
        unfold gEnds
        exact decide_eq_false (by omega)
      obtain ⟨m, hm, hfr⟩ := flow_to S5.out (a := (at' : Int) + 1) (h' := h - tk + lv) (t' := t) (by rw [HNW.out]; simp [hends, h33, h34])
      have HFR := Lib.hid hfr
      have HM := Lib.hid hm
      clear hfr hm hends h9 h8 h35 h10 h11 h33 h34
      go_wp2_with fail
      go_roundw
      case rel => exact ⟨m, h + (lv - tk), t, j + 1, by rw [HM.out], rfl, rfl, by go_num, by omega, Lib.hid (by rw [HSUM.out]; exact HFR.out), D8⟩
      case measure => simp [intOf]; omega
end Go.Proofs.YtiphicejaljhiaaDoor
