/- stockpotref07.Good: whether a program may be. -/
import Derived.Test.YtiphicejaljhiaaDoorRForms
import Derived.Test.YtiphicejaljhiaaDoorFun
import Derived.Test.YtiphicejaljhiaaDoorOps
namespace Go.Proofs.YtiphicejaljhiaaDoor
open Go.ChangeShapes Go.WideShapes Go.ChangeAt Go.RowKit
theorem gFn_eq (f : Fn) (z : Bool) (n : Nat) (hn : n = f.code.length) : gFn f z = ((decide ((if z then 0 else 1) ≤ f.locals) && (decide (f.locals ≤ 60) && (decide (0 ≤ f.free) && (decide (f.free ≤ if z then 0 else 30) && (decide (1 ≤ n) && decide (n ≤ 600)))))) && f.code.all insGood) := by
  subst hn
  rw [Bool.eq_iff_iff]
  unfold gFn gBetw
  simp only [Bool.and_eq_true, decide_eq_true_eq]
  constructor
  · rintro ⟨h0, h1, h2, h3⟩
    exact ⟨⟨h1.1, h1.2, h2.1, h2.2, by omega, by omega⟩, h0⟩
  · rintro ⟨⟨h1, h2, h3, h4, h5, h6⟩, h0⟩
    exact ⟨h0, ⟨h1, h2⟩, ⟨h3, h4⟩, by omega, by omega⟩
set_option maxRecDepth 100000 in
set_option maxHeartbeats 4000000 in
theorem c29 (q : PrMem) (w : World) (hq : PrOk w w.heap.size q) :
    Calls Tryd.prog 29 #[q.val] w fun e w' => e = .returned (.bool (gPr q.pr)) ∧ Below w.heap.size w w' := by
  obtain ⟨AF, cF, L, AS, cS, S, AM, cM, M⟩ := q
  obtain ⟨h1, h2, h3, h4, h5, l1, l2, l3⟩ := hq
  simp only [PrMem.val, PrMem.pr] at h1 h2 h3 h4 h5 l1 l2 l3 ⊢
  have L3 := Lib.hid l3
  unfold maxLen at l1 l2 l3
  have H2 := Lib.hid h2
  clear h2
  have P1 := Blk.new w 42 #[.slice AF L.length cF, .slice AS S.length cS, .slice AM M.length cM]
  have b1 := below_new w (.cells #[.slice AF L.length cF, .slice AS S.length cS, .slice AM M.length cM] 42)
  have H5 := Lib.hid (fun x hx => (⟨((h5 x hx).1.below b1).more b1.size, (h5 x hx).2⟩ : FmOk _ _ x))
  have H4 := Lib.hid ((h4.below b1).more b1.size)
  have B1 := Lib.hid b1
  clear b1 h4 h5
  generalize hF : L.map (·.fn) = F
  have HF := Lib.hid hF
  clear hF
  have HLF := Lib.hid (show F.length = L.length by rw [← HF.out]; simp)
  have HLG := Lib.hid (show (M.map (·.fm)).length = M.length by simp)
  generalize hG : (M.map (·.fm)).all (fun f => gFm f M.length) = gm
  have HGM := Lib.hid hG
  clear hG
  have HPR := Lib.hid (show gPr ⟨F, S, M.map (·.fm)⟩ = ((decide (1 ≤ L.length) && (decide (L.length ≤ 60) && decide (S.length ≤ 40))) && ((gm && decide (M.length ≤ 40)) && (S.all (fun s => decide (s.length ≤ 60)) && gFns true F))) by
    unfold gPr gBetw
    rw [HLF.out, HLG.out, HGM.out, Bool.eq_iff_iff]
    simp only [Bool.and_eq_true, decide_eq_true_eq]
    constructor
    · rintro ⟨⟨⟨h1, h2⟩, h3, h4⟩, h5, h6, h7⟩
      exact ⟨⟨by omega, by omega, h3⟩, ⟨h7, h4⟩, h6, h5⟩
    · rintro ⟨⟨h1, h2, h3⟩, ⟨h7, h4⟩, h6, h5⟩
      exact ⟨⟨⟨by omega, by omega⟩, h3, h4⟩, h5, h6, h7⟩)
  go_enter Tryd.func29, Tryd.ntmps29
  by_cases x1 : 1 ≤ L.length
  case neg =>
    have fx1 : decide ((L.length : Int) < 1) = true := decide_eq_true (by omega)
    have e0 := Lib.hid (show gPr ⟨F, S, M.map (·.fm)⟩ = false by rw [HPR.out, decide_eq_false x1]; first | done | rfl)
    go_wp2_with fail
    go_ret
    exact ⟨by rw [e0.out]; rfl, B1.out⟩
  have fx1 : decide ((L.length : Int) < 1) = false := decide_eq_false (by omega)
  have Xx1 := Lib.hid x1
  clear x1
  by_cases x2 : L.length ≤ 60
  case neg =>
    have fx2 : decide ((60 : Int) < L.length) = true := decide_eq_true (by omega)
    have e0 := Lib.hid (show gPr ⟨F, S, M.map (·.fm)⟩ = false by rw [HPR.out, decide_eq_true Xx1.out, decide_eq_false x2]; first | done | rfl)
    go_wp2_with fail
    go_ret
    exact ⟨by rw [e0.out]; rfl, B1.out⟩
  have fx2 : decide ((60 : Int) < L.length) = false := decide_eq_false (by omega)
  have Xx2 := Lib.hid x2
  clear x2
  by_cases x3 : S.length ≤ 40
  case neg =>
    have fx3 : decide ((40 : Int) < S.length) = true := decide_eq_true (by omega)
    have e0 := Lib.hid (show gPr ⟨F, S, M.map (·.fm)⟩ = false by rw [HPR.out, decide_eq_true Xx1.out, decide_eq_true Xx2.out, decide_eq_false x3]; first | done | rfl)
    go_wp2_with fail
    go_ret
    exact ⟨by rw [e0.out]; rfl, B1.out⟩
  have fx3 : decide ((40 : Int) < S.length) = false := decide_eq_false (by omega)
  have Xx3 := Lib.hid x3
  clear x3
  go_wp2_with fail
  refine (c51 M AM cM _ H4.out H5.out L3.out).mono ?_
  rintro e w1 ⟨rfl, b1⟩
  rw [HGM.out]
  have P2 := P1.next b1
  have B2 := Lib.hid (next_ B1.out b1)
  generalize hgd : (gm && decide (M.length ≤ 40)) = gd
  have HGD := Lib.hid hgd
  clear hgd
  have HPR2 := Lib.hid (show gPr ⟨F, S, M.map (·.fm)⟩ = (gd && (S.all (fun s => decide (s.length ≤ 60)) && gFns true F)) by
    rw [HPR.out, HGD.out, decide_eq_true Xx1.out, decide_eq_true Xx2.out, decide_eq_true Xx3.out]; rfl)
  cases gd
  · go_wp2_with fail
    go_ret
    exact ⟨by rw [HPR2.out]; rfl, B2.out⟩
  go_wp2_with fail
  go_loopw [3] (fun i wr => ∃ j : Nat, j ≤ S.length ∧ i = .int .i64 j ∧ S.all (fun s => decide (s.length ≤ 60)) = (S.drop j).all (fun s => decide (s.length ≤ 60)) ∧ wr = w1) (fun i _ => S.length - (intOf i).toNat)
  case atStart => exact ⟨0, by omega, rfl, rfl, rfl⟩
  case round =>
    obtain ⟨j, hj, rfl, hg2, rfl⟩ := hrel
    have HG2 := Lib.hid hg2
    clear hg2
    have c0 := P2.cell 0
    have c1 := P2.cell 1
    by_cases hlt2 : j < S.length
    · have hl2 : (j : Int) < (S.length : Int) := by omega
      obtain ⟨ad, u, rfl, hbl, hu, hcs⟩ := (h3.below B2.out).at_ hlt2
      obtain rfl : strV S[j] = u := by
        rw [List.getElem?_map, List.getElem?_eq_getElem hlt2] at hu
        exact Option.some.inj hu
      clear hu
      have hxk := drop_at hlt2
      generalize S[j] = x at hcs hxk
      have HX := Lib.hid hxk
      clear hxk
      by_cases h60 : 60 < x.length
      · have e60 : decide ((60 : Int) < x.length) = true := decide_eq_true (by omega)
        have H60 := Lib.hid h60
        clear h60
        go_wp2_with fail
        go_ret
        refine ⟨?_, B2.out⟩
        have e0 : S.all (fun s => decide (s.length ≤ 60)) = false := by
          rw [HG2.out, HX.out, List.all_cons, decide_eq_false (Nat.not_le.2 H60.out), Bool.false_and]
        rw [HPR2.out, e0]
        rfl
      · have e60 : decide ((60 : Int) < x.length) = false := decide_eq_false (by omega)
        have H60 := Lib.hid h60
        clear h60
        go_wp2_with fail
        go_roundw
        case rel =>
          refine ⟨j + 1, by omega, by go_num, ?_, trivial⟩
          rw [HG2.out, HX.out, List.all_cons, decide_eq_true (Nat.not_lt.1 H60.out), Bool.true_and]
        case measure => simp [intOf]; omega
    · have hl2 : ¬ (j : Int) < (S.length : Int) := by omega
      have hgs : S.all (fun s => decide (s.length ≤ 60)) = true := by
        have h1 := HG2.out
        rw [List.drop_eq_nil_of_le (by omega)] at h1
        exact h1
      have HPR3 := Lib.hid (show gPr ⟨F, S, M.map (·.fm)⟩ = gFns true F by rw [HPR2.out, hgs]; rfl)
      clear hgs HG2
      go_wp2_with fail
      go_loopw [4] (fun i wr => ∃ k : Nat, k ≤ L.length ∧ i = .int .i64 k ∧ gFns true F = gFns ((k : Int) == 0) (F.drop k) ∧ Below w.heap.size w wr ∧ Blk wr w.heap.size 42 #[.slice AF L.length cF, .slice AS S.length cS, .slice AM M.length cM]) (fun i _ => L.length - (intOf i).toNat)
      case atStart => exact ⟨0, by omega, rfl, rfl, B2.out, P2⟩
      case round =>
        obtain ⟨k, hk, rfl, hg3, hb3, hP3⟩ := hrel
        have d0 := hP3.cell 0
        have HG3 := Lib.hid hg3
        have HB3 := Lib.hid hb3
        clear hg3
        by_cases hlt3 : k < L.length
        · have hl3 : (k : Int) < (L.length : Int) := by omega
          obtain ⟨ad, rfl, hbl, hcs⟩ := Reads.rowAt (f := Fnv.cells) (m := 3) (fun _ => rfl) (h1.below hb3) (by decide) (List.getElem?_eq_getElem hlt3)
          obtain ⟨hx1, hx2⟩ := H2.out _ (List.getElem_mem hlt3)
          have hxk : F.drop k = L[k].fn :: F.drop (k + 1) := by
            have hkF : k < F.length := by have := HLF.out; omega
            rw [drop_at hkF]
            congr 1
            have e := HF.out
            subst e
            simp
          generalize L[k] = x at hcs hx1 hx2 hxk
          have HX := Lib.hid hxk
          have HCS := Lib.hid hcs
          clear hxk hcs
          obtain ⟨⟨lo, fr, cd⟩, xa, xc⟩ := x
          simp only at hx1 hx2
          unfold maxLen at hx2
          obtain ⟨wo, rfl⟩ : ∃ wo : World, wo = wr := ⟨_, rfl⟩
          have P4 := hP3.alloc (.cells #[.int .i64 lo, .int .i64 fr, .slice xa cd.length xc] 60)
          have Q4 := Blk.new wo 60 #[.int .i64 lo, .int .i64 fr, .slice xa cd.length xc]
          have B4 := Lib.hid (next_ HB3.out (below_new wo (.cells #[.int .i64 lo, .int .i64 fr, .slice xa cd.length xc] 60)))
          have HX1 := Lib.hid hx1
          clear hx1 hb3
          have HGE := Lib.hid (gFn_eq ⟨lo, fr, cd⟩ ((k : Int) == 0) cd.length rfl)
          by_cases hkz : k = 0
          · have hz0 : ((k : Int) == 0) = true := beq_iff_eq.2 (by omega)
            have hmn : (if (1 : Int) < (k : Int) then (1 : Int) else (k : Int)) = 0 := by split <;> omega
            have HGE2 := Lib.hid (show gFn ⟨lo, fr, cd⟩ true = ((decide (0 ≤ lo) && (decide (lo ≤ 60) && (decide (0 ≤ fr) && (decide (fr ≤ 0) && (decide (1 ≤ cd.length) && decide (cd.length ≤ 600)))))) && cd.all insGood) from gFn_eq ⟨lo, fr, cd⟩ true cd.length rfl)
            have HZ0 := Lib.hid hz0
            clear hkz
            by_cases y1 : 0 ≤ lo
            case neg =>
              have fy1 : decide (lo < 0) = true := decide_eq_true (by omega)
              have e0 := Lib.hid (show gFn ⟨lo, fr, cd⟩ true = false by rw [HGE2.out, decide_eq_false y1]; first | done | rfl)
              clear y1
              go_wp2_with (first | (refine wpList_load_at rfl 60 (.tmp 53) rfl (ad.add (k * 3)) rfl [.int .i64 lo, .int .i64 fr, .slice xa cd.length xc] _ HCS.out Tryd.underlying60 rfl (by kernel_rfl) ?_) | (refine wpList_min rfl (.tmp 57) (.const (.int .i64 1)) _ rfl _ _ _ _ rfl rfl _ hmn ?_))
              go_ret
              refine ⟨?_, B4.out⟩
              rw [HPR3.out, HG3.out, HX.out, gFns, HZ0.out, e0.out]
              rfl
            have fy1 : decide (lo < 0) = false := decide_eq_false (by omega)
            have Yy1 := Lib.hid y1
            clear y1
            by_cases y2 : lo ≤ 60
            case neg =>
              have fy2 : decide (60 < lo) = true := decide_eq_true (by omega)
              have e0 := Lib.hid (show gFn ⟨lo, fr, cd⟩ true = false by rw [HGE2.out, decide_eq_true Yy1.out, decide_eq_false y2]; first | done | rfl)
              clear y2
              go_wp2_with (first | (refine wpList_load_at rfl 60 (.tmp 53) rfl (ad.add (k * 3)) rfl [.int .i64 lo, .int .i64 fr, .slice xa cd.length xc] _ HCS.out Tryd.underlying60 rfl (by kernel_rfl) ?_) | (refine wpList_min rfl (.tmp 57) (.const (.int .i64 1)) _ rfl _ _ _ _ rfl rfl _ hmn ?_))
              go_ret
              refine ⟨?_, B4.out⟩
              rw [HPR3.out, HG3.out, HX.out, gFns, HZ0.out, e0.out]
              rfl
            have fy2 : decide (60 < lo) = false := decide_eq_false (by omega)
            have Yy2 := Lib.hid y2
            clear y2
            by_cases y3 : 0 ≤ fr
            case neg =>
              have fy3 : decide (fr < 0) = true := decide_eq_true (by omega)
              have e0 := Lib.hid (show gFn ⟨lo, fr, cd⟩ true = false by rw [HGE2.out, decide_eq_true Yy1.out, decide_eq_true Yy2.out, decide_eq_false y3]; first | done | rfl)
              clear y3
              go_wp2_with (first | (refine wpList_load_at rfl 60 (.tmp 53) rfl (ad.add (k * 3)) rfl [.int .i64 lo, .int .i64 fr, .slice xa cd.length xc] _ HCS.out Tryd.underlying60 rfl (by kernel_rfl) ?_) | (refine wpList_min rfl (.tmp 57) (.const (.int .i64 1)) _ rfl _ _ _ _ rfl rfl _ hmn ?_))
              go_ret
              refine ⟨?_, B4.out⟩
              rw [HPR3.out, HG3.out, HX.out, gFns, HZ0.out, e0.out]
              rfl
            have fy3 : decide (fr < 0) = false := decide_eq_false (by omega)
            have Yy3 := Lib.hid y3
            clear y3
            by_cases y4 : fr ≤ 0
            case neg =>
              by_cases y9 : 30 < fr
              · have f9 : decide (30 < fr) = true := decide_eq_true y9
                clear y9
                have e0 := Lib.hid (show gFn ⟨lo, fr, cd⟩ true = false by rw [HGE2.out, decide_eq_true Yy1.out, decide_eq_true Yy2.out, decide_eq_true Yy3.out, decide_eq_false y4]; first | done | rfl)
                clear y4
                go_wp2_with (first | (refine wpList_load_at rfl 60 (.tmp 53) rfl (ad.add (k * 3)) rfl [.int .i64 lo, .int .i64 fr, .slice xa cd.length xc] _ HCS.out Tryd.underlying60 rfl (by kernel_rfl) ?_) | (refine wpList_min rfl (.tmp 57) (.const (.int .i64 1)) _ rfl _ _ _ _ rfl rfl _ hmn ?_))
                go_ret
                refine ⟨?_, B4.out⟩
                rw [HPR3.out, HG3.out, HX.out, gFns, HZ0.out, e0.out]
                rfl
              · have f9 : decide (30 < fr) = false := decide_eq_false y9
                have f8 : (fr != 0) = true := bne_iff_ne.2 (by omega)
                clear y9
                have e0 := Lib.hid (show gFn ⟨lo, fr, cd⟩ true = false by rw [HGE2.out, decide_eq_true Yy1.out, decide_eq_true Yy2.out, decide_eq_true Yy3.out, decide_eq_false y4]; first | done | rfl)
                clear y4
                go_wp2_with (first | (refine wpList_load_at rfl 60 (.tmp 53) rfl (ad.add (k * 3)) rfl [.int .i64 lo, .int .i64 fr, .slice xa cd.length xc] _ HCS.out Tryd.underlying60 rfl (by kernel_rfl) ?_) | (refine wpList_min rfl (.tmp 57) (.const (.int .i64 1)) _ rfl _ _ _ _ rfl rfl _ hmn ?_))
                go_ret
                refine ⟨?_, B4.out⟩
                rw [HPR3.out, HG3.out, HX.out, gFns, HZ0.out, e0.out]
                rfl
            obtain rfl : fr = 0 := by have := Yy3.out; omega
            clear fy3
            have Yy4 := Lib.hid y4
            clear y4
            by_cases y5 : 1 ≤ cd.length
            case neg =>
              have fy5 : decide ((cd.length : Int) < 1) = true := decide_eq_true (by omega)
              have e0 := Lib.hid (show gFn ⟨lo, 0, cd⟩ true = false by rw [HGE2.out, decide_eq_true Yy1.out, decide_eq_true Yy2.out, decide_eq_true Yy3.out, decide_eq_false y5]; first | done | rfl)
              clear y5
              go_wp2_with (first | (refine wpList_load_at rfl 60 (.tmp 53) rfl (ad.add (k * 3)) rfl [.int .i64 lo, .int .i64 0, .slice xa cd.length xc] _ HCS.out Tryd.underlying60 rfl (by kernel_rfl) ?_) | (refine wpList_min rfl (.tmp 57) (.const (.int .i64 1)) _ rfl _ _ _ _ rfl rfl _ hmn ?_))
              go_ret
              refine ⟨?_, B4.out⟩
              rw [HPR3.out, HG3.out, HX.out, gFns, HZ0.out, e0.out]
              rfl
            have fy5 : decide ((cd.length : Int) < 1) = false := decide_eq_false (by omega)
            have Yy5 := Lib.hid y5
            clear y5
            by_cases y6 : cd.length ≤ 600
            case neg =>
              have fy6 : decide ((600 : Int) < cd.length) = true := decide_eq_true (by omega)
              have e0 := Lib.hid (show gFn ⟨lo, 0, cd⟩ true = false by rw [HGE2.out, decide_eq_true Yy1.out, decide_eq_true Yy2.out, decide_eq_true Yy3.out, decide_eq_true Yy5.out, decide_eq_false y6]; first | done | rfl)
              clear y6
              go_wp2_with (first | (refine wpList_load_at rfl 60 (.tmp 53) rfl (ad.add (k * 3)) rfl [.int .i64 lo, .int .i64 0, .slice xa cd.length xc] _ HCS.out Tryd.underlying60 rfl (by kernel_rfl) ?_) | (refine wpList_min rfl (.tmp 57) (.const (.int .i64 1)) _ rfl _ _ _ _ rfl rfl _ hmn ?_))
              go_ret
              refine ⟨?_, B4.out⟩
              rw [HPR3.out, HG3.out, HX.out, gFns, HZ0.out, e0.out]
              rfl
            have fy6 : decide ((600 : Int) < cd.length) = false := decide_eq_false (by omega)
            have Yy6 := Lib.hid y6
            clear y6
            have HGE3 := Lib.hid (show gFn ⟨lo, 0, cd⟩ true = cd.all insGood by rw [HGE2.out, decide_eq_true Yy1.out, decide_eq_true Yy2.out, decide_eq_true Yy3.out, decide_eq_true Yy5.out, decide_eq_true Yy6.out]; first | done | rfl)
            go_wp2_with (first | (refine wpList_load_at rfl 60 (.tmp 53) rfl (ad.add (k * 3)) rfl [.int .i64 lo, .int .i64 0, .slice xa cd.length xc] _ HCS.out Tryd.underlying60 rfl (by kernel_rfl) ?_) | (refine wpList_min rfl (.tmp 57) (.const (.int .i64 1)) _ rfl _ _ _ _ rfl rfl _ hmn ?_))
            go_loopw [6] (fun i wr' => ∃ j : Nat, j ≤ cd.length ∧ i = .int .i64 j ∧ cd.all insGood = (cd.drop j).all insGood ∧ Below w.heap.size w wr' ∧ Blk wr' w.heap.size 42 #[.slice (some ad) L.length cF, .slice AS S.length cS, .slice AM M.length cM] ∧ Blk wr' wo.heap.size 60 #[.int .i64 lo, .int .i64 0, .slice xa cd.length xc]) (fun i _ => cd.length - (intOf i).toNat)
            case atStart => exact ⟨0, by omega, rfl, rfl, B4.out, P4, Q4⟩
            case round =>
              obtain ⟨j, hj, rfl, hgj, hbj, hPj, hQj⟩ := hrel
              have q2 := hQj.cell 2
              have HGJ := Lib.hid hgj
              have HBJ := Lib.hid hbj
              clear hgj
              by_cases hlj : j < cd.length
              · have hlj' : (j : Int) < (cd.length : Int) := by omega
                obtain ⟨ad2, e, hbl2, hci⟩ := (HX1.out.below hbj).insAt (List.getElem?_eq_getElem hlj)
                have hxd := drop_at hlj
                generalize cd[j] = y at hci hxd
                have HXD := Lib.hid hxd
                have HCI := Lib.hid hci
                clear hxd hci hbj
                subst e
                go_wp2_with (refine wpList_load_at rfl 23 (.tmp 106) rfl (ad2.add (j * 3)) rfl [.int .i64 y.o, .int .i64 y.a, .int .i64 y.b] _ HCI.out Tryd.underlying23 rfl (by kernel_rfl) ?_)
                refine (c17 _ _ _ _).mono ?_
                rintro e w5 ⟨rfl, b5⟩
                have HBB := Lib.hid (next_ HBJ.out b5)
                have hP5 := hPj.next b5
                have hQ5 := hQj.next b5
                generalize hgi : gGood y.o y.a y.b = gi
                have HGI := Lib.hid (show insGood y = gi from hgi)
                clear hgi
                cases gi
                · go_wp2_with fail
                  go_ret
                  refine ⟨?_, HBB.out⟩
                  have e0 : cd.all insGood = false := by rw [HGJ.out, HXD.out, List.all_cons, HGI.out, Bool.false_and]
                  rw [HPR3.out, HG3.out, HX.out, gFns, HZ0.out, HGE3.out, e0]
                  rfl
                · go_wp2_with fail
                  go_roundw
                  case rel =>
                    refine ⟨j + 1, by omega, by go_num, ?_, HBB.out, hP5, hQ5⟩
                    rw [HGJ.out, HXD.out, List.all_cons, HGI.out, Bool.true_and]
                  case measure => simp [intOf]; omega
              · have hlj' : ¬ (j : Int) < (cd.length : Int) := by omega
                have e0 : cd.all insGood = true := by
                  have h1 := HGJ.out
                  rw [List.drop_eq_nil_of_le (by omega)] at h1
                  exact h1
                have E0 := Lib.hid e0
                clear e0 hbj HGJ
                go_wp2_with fail
                go_roundw
                case rel =>
                  refine ⟨k + 1, by omega, by go_num, ?_, HBJ.out, hPj⟩
                  rw [HG3.out, HX.out, gFns, HZ0.out, HGE3.out, E0.out, Bool.true_and]
                  congr 1
                case measure => simp [intOf]; omega
          · have hz0 : ((k : Int) == 0) = false := beq_eq_false_iff_ne.2 (by omega)
            have hmn : (if (1 : Int) < (k : Int) then (1 : Int) else (k : Int)) = 1 := by split <;> omega
            have HGE2 := Lib.hid (show gFn ⟨lo, fr, cd⟩ false = ((decide (1 ≤ lo) && (decide (lo ≤ 60) && (decide (0 ≤ fr) && (decide (fr ≤ 30) && (decide (1 ≤ cd.length) && decide (cd.length ≤ 600)))))) && cd.all insGood) from gFn_eq ⟨lo, fr, cd⟩ false cd.length rfl)
            have HZ0 := Lib.hid hz0
            clear hkz
            by_cases y1 : 1 ≤ lo
            case neg =>
              have fy1 : decide (lo < 1) = true := decide_eq_true (by omega)
              have e0 := Lib.hid (show gFn ⟨lo, fr, cd⟩ false = false by rw [HGE2.out, decide_eq_false y1]; first | done | rfl)
              clear y1
              go_wp2_with (first | (refine wpList_load_at rfl 60 (.tmp 53) rfl (ad.add (k * 3)) rfl [.int .i64 lo, .int .i64 fr, .slice xa cd.length xc] _ HCS.out Tryd.underlying60 rfl (by kernel_rfl) ?_) | (refine wpList_min rfl (.tmp 57) (.const (.int .i64 1)) _ rfl _ _ _ _ rfl rfl _ hmn ?_))
              go_ret
              refine ⟨?_, B4.out⟩
              rw [HPR3.out, HG3.out, HX.out, gFns, HZ0.out, e0.out]
              rfl
            have fy1 : decide (lo < 1) = false := decide_eq_false (by omega)
            have Yy1 := Lib.hid y1
            clear y1
            by_cases y2 : lo ≤ 60
            case neg =>
              have fy2 : decide (60 < lo) = true := decide_eq_true (by omega)
              have e0 := Lib.hid (show gFn ⟨lo, fr, cd⟩ false = false by rw [HGE2.out, decide_eq_true Yy1.out, decide_eq_false y2]; first | done | rfl)
              clear y2
              go_wp2_with (first | (refine wpList_load_at rfl 60 (.tmp 53) rfl (ad.add (k * 3)) rfl [.int .i64 lo, .int .i64 fr, .slice xa cd.length xc] _ HCS.out Tryd.underlying60 rfl (by kernel_rfl) ?_) | (refine wpList_min rfl (.tmp 57) (.const (.int .i64 1)) _ rfl _ _ _ _ rfl rfl _ hmn ?_))
              go_ret
              refine ⟨?_, B4.out⟩
              rw [HPR3.out, HG3.out, HX.out, gFns, HZ0.out, e0.out]
              rfl
            have fy2 : decide (60 < lo) = false := decide_eq_false (by omega)
            have Yy2 := Lib.hid y2
            clear y2
            by_cases y3 : 0 ≤ fr
            case neg =>
              have fy3 : decide (fr < 0) = true := decide_eq_true (by omega)
              have e0 := Lib.hid (show gFn ⟨lo, fr, cd⟩ false = false by rw [HGE2.out, decide_eq_true Yy1.out, decide_eq_true Yy2.out, decide_eq_false y3]; first | done | rfl)
              clear y3
              go_wp2_with (first | (refine wpList_load_at rfl 60 (.tmp 53) rfl (ad.add (k * 3)) rfl [.int .i64 lo, .int .i64 fr, .slice xa cd.length xc] _ HCS.out Tryd.underlying60 rfl (by kernel_rfl) ?_) | (refine wpList_min rfl (.tmp 57) (.const (.int .i64 1)) _ rfl _ _ _ _ rfl rfl _ hmn ?_))
              go_ret
              refine ⟨?_, B4.out⟩
              rw [HPR3.out, HG3.out, HX.out, gFns, HZ0.out, e0.out]
              rfl
            have fy3 : decide (fr < 0) = false := decide_eq_false (by omega)
            have Yy3 := Lib.hid y3
            clear y3
            by_cases y4 : fr ≤ 30
            case neg =>
              have fy4 : decide (30 < fr) = true := decide_eq_true (by omega)
              have e0 := Lib.hid (show gFn ⟨lo, fr, cd⟩ false = false by rw [HGE2.out, decide_eq_true Yy1.out, decide_eq_true Yy2.out, decide_eq_true Yy3.out, decide_eq_false y4]; first | done | rfl)
              clear y4
              go_wp2_with (first | (refine wpList_load_at rfl 60 (.tmp 53) rfl (ad.add (k * 3)) rfl [.int .i64 lo, .int .i64 fr, .slice xa cd.length xc] _ HCS.out Tryd.underlying60 rfl (by kernel_rfl) ?_) | (refine wpList_min rfl (.tmp 57) (.const (.int .i64 1)) _ rfl _ _ _ _ rfl rfl _ hmn ?_))
              go_ret
              refine ⟨?_, B4.out⟩
              rw [HPR3.out, HG3.out, HX.out, gFns, HZ0.out, e0.out]
              rfl
            have fy4 : decide (30 < fr) = false := decide_eq_false (by omega)
            have Yy4 := Lib.hid y4
            clear y4
            by_cases y5 : 1 ≤ cd.length
            case neg =>
              have fy5 : decide ((cd.length : Int) < 1) = true := decide_eq_true (by omega)
              have e0 := Lib.hid (show gFn ⟨lo, fr, cd⟩ false = false by rw [HGE2.out, decide_eq_true Yy1.out, decide_eq_true Yy2.out, decide_eq_true Yy3.out, decide_eq_true Yy4.out, decide_eq_false y5]; first | done | rfl)
              clear y5
              go_wp2_with (first | (refine wpList_load_at rfl 60 (.tmp 53) rfl (ad.add (k * 3)) rfl [.int .i64 lo, .int .i64 fr, .slice xa cd.length xc] _ HCS.out Tryd.underlying60 rfl (by kernel_rfl) ?_) | (refine wpList_min rfl (.tmp 57) (.const (.int .i64 1)) _ rfl _ _ _ _ rfl rfl _ hmn ?_))
              go_ret
              refine ⟨?_, B4.out⟩
              rw [HPR3.out, HG3.out, HX.out, gFns, HZ0.out, e0.out]
              rfl
            have fy5 : decide ((cd.length : Int) < 1) = false := decide_eq_false (by omega)
            have Yy5 := Lib.hid y5
            clear y5
            by_cases y6 : cd.length ≤ 600
            case neg =>
              have fy6 : decide ((600 : Int) < cd.length) = true := decide_eq_true (by omega)
              have e0 := Lib.hid (show gFn ⟨lo, fr, cd⟩ false = false by rw [HGE2.out, decide_eq_true Yy1.out, decide_eq_true Yy2.out, decide_eq_true Yy3.out, decide_eq_true Yy4.out, decide_eq_true Yy5.out, decide_eq_false y6]; first | done | rfl)
              clear y6
              go_wp2_with (first | (refine wpList_load_at rfl 60 (.tmp 53) rfl (ad.add (k * 3)) rfl [.int .i64 lo, .int .i64 fr, .slice xa cd.length xc] _ HCS.out Tryd.underlying60 rfl (by kernel_rfl) ?_) | (refine wpList_min rfl (.tmp 57) (.const (.int .i64 1)) _ rfl _ _ _ _ rfl rfl _ hmn ?_))
              go_ret
              refine ⟨?_, B4.out⟩
              rw [HPR3.out, HG3.out, HX.out, gFns, HZ0.out, e0.out]
              rfl
            have fy6 : decide ((600 : Int) < cd.length) = false := decide_eq_false (by omega)
            have Yy6 := Lib.hid y6
            clear y6
            have HGE3 := Lib.hid (show gFn ⟨lo, fr, cd⟩ false = cd.all insGood by rw [HGE2.out, decide_eq_true Yy1.out, decide_eq_true Yy2.out, decide_eq_true Yy3.out, decide_eq_true Yy4.out, decide_eq_true Yy5.out, decide_eq_true Yy6.out]; first | done | rfl)
            go_wp2_with (first | (refine wpList_load_at rfl 60 (.tmp 53) rfl (ad.add (k * 3)) rfl [.int .i64 lo, .int .i64 fr, .slice xa cd.length xc] _ HCS.out Tryd.underlying60 rfl (by kernel_rfl) ?_) | (refine wpList_min rfl (.tmp 57) (.const (.int .i64 1)) _ rfl _ _ _ _ rfl rfl _ hmn ?_))
            go_loopw [6] (fun i wr' => ∃ j : Nat, j ≤ cd.length ∧ i = .int .i64 j ∧ cd.all insGood = (cd.drop j).all insGood ∧ Below w.heap.size w wr' ∧ Blk wr' w.heap.size 42 #[.slice (some ad) L.length cF, .slice AS S.length cS, .slice AM M.length cM] ∧ Blk wr' wo.heap.size 60 #[.int .i64 lo, .int .i64 fr, .slice xa cd.length xc]) (fun i _ => cd.length - (intOf i).toNat)
            case atStart => exact ⟨0, by omega, rfl, rfl, B4.out, P4, Q4⟩
            case round =>
              obtain ⟨j, hj, rfl, hgj, hbj, hPj, hQj⟩ := hrel
              have q2 := hQj.cell 2
              have HGJ := Lib.hid hgj
              have HBJ := Lib.hid hbj
              clear hgj
              by_cases hlj : j < cd.length
              · have hlj' : (j : Int) < (cd.length : Int) := by omega
                obtain ⟨ad2, e, hbl2, hci⟩ := (HX1.out.below hbj).insAt (List.getElem?_eq_getElem hlj)
                have hxd := drop_at hlj
                generalize cd[j] = y at hci hxd
                have HXD := Lib.hid hxd
                have HCI := Lib.hid hci
                clear hxd hci hbj
                subst e
                go_wp2_with (refine wpList_load_at rfl 23 (.tmp 106) rfl (ad2.add (j * 3)) rfl [.int .i64 y.o, .int .i64 y.a, .int .i64 y.b] _ HCI.out Tryd.underlying23 rfl (by kernel_rfl) ?_)
                refine (c17 _ _ _ _).mono ?_
                rintro e w5 ⟨rfl, b5⟩
                have HBB := Lib.hid (next_ HBJ.out b5)
                have hP5 := hPj.next b5
                have hQ5 := hQj.next b5
                generalize hgi : gGood y.o y.a y.b = gi
                have HGI := Lib.hid (show insGood y = gi from hgi)
                clear hgi
                cases gi
                · go_wp2_with fail
                  go_ret
                  refine ⟨?_, HBB.out⟩
                  have e0 : cd.all insGood = false := by rw [HGJ.out, HXD.out, List.all_cons, HGI.out, Bool.false_and]
                  rw [HPR3.out, HG3.out, HX.out, gFns, HZ0.out, HGE3.out, e0]
                  rfl
                · go_wp2_with fail
                  go_roundw
                  case rel =>
                    refine ⟨j + 1, by omega, by go_num, ?_, HBB.out, hP5, hQ5⟩
                    rw [HGJ.out, HXD.out, List.all_cons, HGI.out, Bool.true_and]
                  case measure => simp [intOf]; omega
              · have hlj' : ¬ (j : Int) < (cd.length : Int) := by omega
                have e0 : cd.all insGood = true := by
                  have h1 := HGJ.out
                  rw [List.drop_eq_nil_of_le (by omega)] at h1
                  exact h1
                have E0 := Lib.hid e0
                clear e0 hbj HGJ
                go_wp2_with fail
                go_roundw
                case rel =>
                  refine ⟨k + 1, by omega, by go_num, ?_, HBJ.out, hPj⟩
                  rw [HG3.out, HX.out, gFns, HZ0.out, HGE3.out, E0.out, Bool.true_and]
                  congr 1
                case measure => simp [intOf]; omega
        · have hl3 : ¬ (k : Int) < (L.length : Int) := by omega
          have hg : gFns true F = true := by
            have h1 := HG3.out
            rw [List.drop_eq_nil_of_le (by have := HLF.out; omega)] at h1
            exact h1
          have HA := Lib.hid hg
          clear hg hb3
          clear HG3
          go_wp2_with fail
          go_ret
          refine ⟨?_, HB3.out⟩
          rw [HPR3.out, HA.out]
          rfl
end Go.Proofs.YtiphicejaljhiaaDoor
