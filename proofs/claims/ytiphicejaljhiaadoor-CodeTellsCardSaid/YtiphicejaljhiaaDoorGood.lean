/- code.Good: whether a program may be. -/
import Derived.Test.YtiphicejaljhiaaDoorPro
import Derived.Test.YtiphicejaljhiaaDoorFun
import Derived.Deep.QuietTactic
import Derived.BigQuiet
namespace Go.Proofs.YtiphicejaljhiaaDoor
open Go.ChangeShapes Go.WideShapes Go.ChangeAt Go.RowKit
set_option maxHeartbeats 2000000 in
theorem c33 (q : PrMem) (w : World) (ht : OpTab w) (hq : PrOk w w.heap.size q) :
    Calls Tryd.prog 33 #[q.val] w fun e w' => e = .returned (.bool (gPr q.pr)) ∧ Below w.heap.size w w' := by
  obtain ⟨AF, cF, L, AS, cS, S, AM, cM, M⟩ := q
  obtain ⟨h1, h2, h3, h4, h5, l1, l2, l3⟩ := hq
  simp only [PrMem.val, PrMem.pr] at h1 h2 h3 h4 h5 l1 l2 l3 ⊢
  unfold maxLen at l1 l2 l3
  have H2 := Lib.hid h2
  have H5 := Lib.hid h5
  clear h2 h5
  have P1 := Blk.new w 42 #[.slice AF L.length cF, .slice AS S.length cS, .slice AM M.length cM]
  have T1 := ht.next (below_new w (.cells #[.slice AF L.length cF, .slice AS S.length cS, .slice AM M.length cM] 42))
  have B1 := Lib.hid (below_new w (.cells #[.slice AF L.length cF, .slice AS S.length cS, .slice AM M.length cM] 42))
  generalize hF : L.map (·.fn) = F
  generalize hG : M.map (·.fm) = G
  have HF := Lib.hid hF
  have HG := Lib.hid hG
  clear hF hG
  have LF : F.length = L.length := by rw [← HF.out]; simp
  have LG : G.length = M.length := by rw [← HG.out]; simp
  have HLF := Lib.hid LF
  have HLG := Lib.hid LG
  clear LF LG
  go_enter Tryd.func33, Tryd.ntmps33
  go_wp2_with fail
  refine (c62 _ _ _ _).mono ?_
  rintro e w1 ⟨rfl, rfl⟩
  generalize hg1 : gBetw _ 1 60 = g1
  have G1 := Lib.hid hg1
  clear hg1
  cases g1
  · go_wp2_with fail
    go_ret
    exact ⟨by simp [gPr, HLF.out, G1.out], B1.out⟩
  by_cases hs : 40 < S.length
  · have e1 : decide ((40 : Int) < S.length) = true := decide_eq_true (by omega)
    go_wp2_with fail
    go_ret
    exact ⟨by simp [gPr, Nat.not_le.2 hs], B1.out⟩
  by_cases hm : 40 < M.length
  · have e1 : decide ((40 : Int) < S.length) = false := decide_eq_false (by omega)
    have e2 : decide ((40 : Int) < M.length) = true := decide_eq_true (by omega)
    go_wp2_with fail
    go_ret
    exact ⟨by simp [gPr, HLG.out, Nat.not_le.2 hm], B1.out⟩
  have e1 : decide ((40 : Int) < S.length) = false := decide_eq_false (by omega)
  have e2 : decide ((40 : Int) < M.length) = false := decide_eq_false (by omega)
  go_wp2_with fail
  have HS := Lib.hid hs
  have HM := Lib.hid hm
  clear hs hm
  go_loopw [29] (fun i wr => ∃ k : Nat, k ≤ L.length ∧ i = .int .i64 k ∧ gFns true F = gFns ((k : Int) == 0) (F.drop k) ∧ Below w.heap.size w wr ∧ OpTab wr ∧ Blk wr w.heap.size 42 #[.slice AF L.length cF, .slice AS S.length cS, .slice AM M.length cM]) (fun i _ => L.length - (intOf i).toNat)
  case atStart => exact ⟨0, by omega, rfl, rfl, B1.out, T1, P1⟩
  case round =>
    obtain ⟨k, hk, rfl, hg, hb, hT, hP⟩ := hrel
    have HG1 := Lib.hid hg
    have HB := Lib.hid hb
    clear hg
    by_cases hlt : k < L.length
    · have hl : (k : Int) < (L.length : Int) := by omega
      obtain ⟨ad, rfl, hbl, hcs⟩ := Reads.rowAt (f := Fnv.cells) (m := 3) (fun _ => rfl) (h1.below hb) (by decide) (List.getElem?_eq_getElem hlt)
      obtain ⟨hx1, hx2⟩ := H2.out _ (List.getElem_mem hlt)
      have hxk : F.drop k = L[k].fn :: F.drop (k + 1) := by
        have hkF : k < F.length := by have := HLF.out; omega
        rw [drop_at hkF]
        congr 1
        have e := HF.out
        subst e
        simp
      generalize L[k] = x at hcs hx1 hx2 hxk
      have HX := Lib.hid hxk
      have HCS := Lib.hid hcs
      clear hxk hcs
      obtain ⟨⟨lo, fr, cd⟩, xa, xc⟩ := x
      simp only at hx1 hx2
      have T2 := hT.next (below_new wr (.cells #[.int .i64 lo, .int .i64 fr, .slice xa cd.length xc] 60))
      have P2 := hP.alloc (.cells #[.int .i64 lo, .int .i64 fr, .slice xa cd.length xc] 60)
      have Q2 := Blk.new wr 60 #[.int .i64 lo, .int .i64 fr, .slice xa cd.length xc]
      have B2 := Lib.hid (below_new wr (.cells #[.int .i64 lo, .int .i64 fr, .slice xa cd.length xc] 60))
      have R2 := Lib.hid (((hx1.below hb).more hb.size).below B2.out |>.more B2.out.size)
      have HX2 := Lib.hid hx2
      clear hx1 hx2 hb
      go_wp2_with (refine wpList_load_at rfl 60 (.tmp 32) rfl (ad.add (k * 3)) rfl [.int .i64 lo, .int .i64 fr, .slice xa cd.length xc] _ HCS.out Tryd.underlying60 rfl (by kernel_rfl) ?_)
      refine (c63 ⟨lo, fr, cd⟩ ((k : Int) == 0) xa cd.length xc _ T2 R2.out rfl HX2.out).mono ?_
      rintro e w1 ⟨rfl, b1⟩
      have T3 := T2.next b1
      have P3 := P2.next b1
      generalize hg1 : gFn _ _ = g1
      have G1 := Lib.hid hg1
      clear hg1
      have BB := Lib.hid (next_ HB.out (next_ B2.out b1))
      cases g1
      · go_wp2_with fail
        go_ret
        refine ⟨?_, BB.out⟩
        have e0 : gFns true F = false := by rw [HG1.out, HX.out, gFns, G1.out, Bool.false_and]
        simp [gPr, e0]
      go_wp2_with fail
      go_roundw
      case rel =>
        refine ⟨k + 1, by omega, by go_num, ?_, BB.out, T3, P3⟩
        rw [HG1.out, HX.out, gFns, G1.out, Bool.true_and]
        congr 1
      case measure => simp [intOf]; omega
    · have hl : ¬ (k : Int) < (L.length : Int) := by omega
      have hg : gFns true F = true := by
        have h1 := HG1.out
        rw [List.drop_eq_nil_of_le (by have := HLF.out; omega)] at h1
        exact h1
      have HA := Lib.hid hg
      clear hg hb
      clear HG1
      have c1 := hP.cell 1
      have c2 := hP.cell 2
      go_wp2_with fail
      go_loopw [43] (fun i wr' => ∃ j : Nat, j ≤ S.length ∧ i = .int .i64 j ∧ S.all (fun s => decide (s.length ≤ 60)) = (S.drop j).all (fun s => decide (s.length ≤ 60)) ∧ wr' = wr) (fun i _ => S.length - (intOf i).toNat)
      case atStart => exact ⟨0, by omega, rfl, rfl, rfl⟩
      case round =>
        obtain ⟨j, hj, rfl, hg2, rfl⟩ := hrel
        have HG2 := Lib.hid hg2
        clear hg2
        by_cases hlt2 : j < S.length
        · have hl2 : (j : Int) < (S.length : Int) := by omega
          obtain ⟨ad, u, rfl, hbl, hu, hcs⟩ := (h3.below HB.out).at_ hlt2
          obtain rfl : strV S[j] = u := by
            rw [List.getElem?_map, List.getElem?_eq_getElem hlt2] at hu
            exact Option.some.inj hu
          clear hu
          have hxk := drop_at hlt2
          generalize S[j] = x at hcs hxk
          have HX := Lib.hid hxk
          clear hxk
          by_cases h60 : 60 < x.length
          · have e60 : decide ((60 : Int) < x.length) = true := decide_eq_true (by omega)
            have H60 := Lib.hid h60
            clear h60
            go_wp2_with fail
            go_ret
            refine ⟨?_, HB.out⟩
            have e0 : S.all (fun s => decide (s.length ≤ 60)) = false := by
              rw [HG2.out, HX.out, List.all_cons, decide_eq_false (Nat.not_le.2 H60.out), Bool.false_and]
            simp [gPr, e0]
          · have e60 : decide ((60 : Int) < x.length) = false := decide_eq_false (by omega)
            have H60 := Lib.hid h60
            clear h60
            go_wp2_with fail
            go_roundw
            case rel =>
              refine ⟨j + 1, by omega, by go_num, ?_, trivial⟩
              rw [HG2.out, HX.out, List.all_cons, decide_eq_true (Nat.not_lt.1 H60.out), Bool.true_and]
            case measure => simp [intOf]; omega
        · have hl2 : ¬ (j : Int) < (S.length : Int) := by omega
          have hgs : S.all (fun s => decide (s.length ≤ 60)) = true := by
            have h1 := HG2.out
            rw [List.drop_eq_nil_of_le (by omega)] at h1
            exact h1
          have HAS := Lib.hid hgs
          clear hgs HG2
          go_wp2_with fail
          go_loopw [54] (fun i wr => ∃ k : Nat, k ≤ M.length ∧ i = .int .i64 k ∧ G.all (fun f => gFm f M.length) = (G.drop k).all (fun f => gFm f M.length) ∧ Below w.heap.size w wr ∧ Blk wr w.heap.size 42 #[.slice AF L.length cF, .slice AS S.length cS, .slice AM M.length cM]) (fun i _ => M.length - (intOf i).toNat)
          case atStart => exact ⟨0, by omega, rfl, rfl, HB.out, hP⟩
          case round =>
            obtain ⟨k, hk, rfl, hg3, hb3, hP3⟩ := hrel
            have HG3 := Lib.hid hg3
            have HB3 := Lib.hid hb3
            clear hg3
            by_cases hlt3 : k < M.length
            · have hl3 : (k : Int) < (M.length : Int) := by omega
              obtain ⟨ad, rfl, hbl, hcs⟩ := Reads.rowAt (f := Fmv.cells) (m := 4) (fun _ => rfl) (h4.below hb3) (by decide) (List.getElem?_eq_getElem hlt3)
              obtain ⟨hx1, hx2⟩ := H5.out _ (List.getElem_mem hlt3)
              have hxk : G.drop k = M[k].fm :: G.drop (k + 1) := by
                have hkF : k < G.length := by have := HLG.out; omega
                rw [drop_at hkF]
                congr 1
                have e := HG.out
                subst e
                simp
              generalize M[k] = x at hcs hx1 hx2 hxk
              have HX := Lib.hid hxk
              have HCS := Lib.hid hcs
              clear hxk hcs
              obtain ⟨⟨kd, fa, fb, cd⟩, xa, xc⟩ := x
              simp only at hx1 hx2
              have P4 := hP3.alloc (.cells #[.int .i64 kd, .int .i64 fa, .int .i64 fb, .slice xa cd.length xc] 63)
              have d2 := P4.cell 2
              have Q4 := Blk.new wr 63 #[.int .i64 kd, .int .i64 fa, .int .i64 fb, .slice xa cd.length xc]
              have B4 := Lib.hid (below_new wr (.cells #[.int .i64 kd, .int .i64 fa, .int .i64 fb, .slice xa cd.length xc] 63))
              have R4 := Lib.hid (((hx1.below hb3).more hb3.size).below B4.out |>.more B4.out.size)
              have HX2 := Lib.hid hx2
              clear hx1 hx2 hb3
              go_wp2_with (refine wpList_load_at rfl 63 (.tmp 56) rfl (ad.add (k * 4)) rfl [.int .i64 kd, .int .i64 fa, .int .i64 fb, .slice xa cd.length xc] _ HCS.out Tryd.underlying63 rfl (by kernel_rfl) ?_)
              refine (c64 ⟨kd, fa, fb, cd⟩ M.length xa cd.length xc _ R4.out rfl HX2.out (by omega) (by unfold maxLen; omega)).mono ?_
              rintro e w1 ⟨rfl, b1⟩
              have P5 := P4.next b1
              generalize hg1 : gFm _ _ = g1
              have G2 := Lib.hid hg1
              clear hg1
              have BB := Lib.hid (next_ HB3.out (next_ B4.out b1))
              cases g1
              · go_wp2_with fail
                go_ret
                refine ⟨?_, BB.out⟩
                have e0 : G.all (fun f => gFm f M.length) = false := by rw [HG3.out, HX.out, List.all_cons, G2.out, Bool.false_and]
                simp [gPr, e0, HLG.out]
              go_wp2_with fail
              go_roundw
              case rel =>
                refine ⟨k + 1, by omega, by go_num, ?_, BB.out, P5⟩
                rw [HG3.out, HX.out, List.all_cons, G2.out, Bool.true_and]
              case measure => simp [intOf]; omega
            · have hl3 : ¬ (k : Int) < (M.length : Int) := by omega
              have hg : G.all (fun f => gFm f M.length) = true := by
                have h1 := HG3.out
                rw [List.drop_eq_nil_of_le (by have := HLG.out; omega)] at h1
                exact h1
              have HAM := Lib.hid hg
              clear hg HG3
              go_wp2_with fail
              go_ret
              refine ⟨?_, HB3.out⟩
              have e1 : S.length ≤ 40 := Nat.not_lt.1 HS.out
              have e2 : M.length ≤ 40 := Nat.not_lt.1 HM.out
              unfold gPr
              simp only [HLF.out, HLG.out, G1.out, HA.out, HAS.out, HAM.out, decide_eq_true e1, decide_eq_true e2, Bool.and_self]
              rfl
end Go.Proofs.YtiphicejaljhiaaDoor
