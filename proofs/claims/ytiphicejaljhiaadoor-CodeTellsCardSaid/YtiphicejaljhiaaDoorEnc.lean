/- code.Encode: the bytes of a program. -/
import Derived.Test.YtiphicejaljhiaaDoorEncP
namespace Go.Proofs.YtiphicejaljhiaaDoor
open Go.ChangeShapes Go.WideShapes Go.ChangeAt Go.RowKit
set_option maxRecDepth 100000 in
set_option maxHeartbeats 4000000 in
theorem c28 (q : PrMem) (w : World) (ht : CodeTab w) (hq : PrOk w w.heap.size q) :
    Calls Tryd.prog 28 #[q.val] w fun e w' => ∃ v, e = .returned (.tuple #[v, .bool (gPr q.pr)]) ∧ w'.ownsRow w.heap.size 5 1 v (gEnc q.pr).length (cellsB (gEnc q.pr)) ∧ Below w.heap.size w w' := by
  obtain ⟨i0, hi0, hz0, hz1, hz2⟩ := info_parts u8_info
  have HQ := Lib.hid hq
  obtain ⟨AF, cF, L, AS, cS, S, AM, cM, M⟩ := q
  generalize hpr : (PrMem.mk AF cF L AS cS S AM cM M).pr = p
  have HPR := Lib.hid hpr
  clear hpr
  obtain ⟨h1, h2, h3, h4, h5, l1, l2, l3⟩ := hq
  simp only [PrMem.val] at h1 h2 h3 h4 h5 l1 l2 l3 ⊢
  unfold maxLen at l1 l2 l3
  have HL1 := Lib.hid l1
  have HL2 := Lib.hid l2
  have HL3 := Lib.hid l3
  have H1 := Lib.hid h1
  have H2 := Lib.hid h2
  have H3 := Lib.hid h3
  have H4 := Lib.hid h4
  have H5 := Lib.hid h5
  have HT := Lib.hid ht
  have h2b := ht.lt
  have P1 := Blk.new w 42 #[.slice AF L.length cF, .slice AS S.length cS, .slice AM M.length cM]
  have b1 := below_new w (.cells #[.slice AF L.length cF, .slice AS S.length cS, .slice AM M.length cM] 42)
  have T1 := Lib.hid (ht.op.next b1)
  have Q1 := Lib.hid (HQ.out.next b1)
  have B1 := Lib.hid b1
  clear h1 h2 h3 h4 h5 l1 l2 l3 b1 ht
  go_enter Tryd.func28, Tryd.ntmps28
  go_wp2_with fail
  refine (c33 _ _ T1.out Q1.out).mono ?_
  rintro e w2 ⟨rfl, b2⟩
  rw [HPR.out]
  have P2 := P1.next b2
  have B2 := Lib.hid (next_ B1.out b2)
  clear b2 P1
  generalize hgp : gPr p = gp
  have HGP := Lib.hid hgp
  clear hgp
  cases gp
  · go_wp2_with fail
    go_ret2
    refine ⟨.slice none 0 0, by rw [HGP.out]; rfl, ?_, B2.out⟩
    have e0 : gEnc p = [] := by unfold gEnc; rw [HGP.out]; rfl
    rw [e0]
    exact ⟨rfl, .inl ⟨rfl, rfl⟩⟩
  have HEN := Lib.hid (show gEnc p = ePr p by unfold gEnc; rw [HGP.out]; rfl)
  have HLEN := Lib.hid (ePr_len HGP.out)
  have Pa := P2.alloc (.cells #[.slice none 0 0] 94)
  have p0 := Pa.cell 0
  have p1 := Pa.cell 1
  have p2 := Pa.cell 2
  have hsz := B2.out.size
  generalize hvs : [(L.length : Int), (S.length : Int), (M.length : Int)] = vs
  have LVS : vs.length = 3 := by rw [← hvs]; rfl
  have hT := Lib.hid (show ePr p = vs.flatMap (fun c => numB c 1) ++ ((L.map (·.fn)).flatMap eFn ++ (S.flatMap eStr ++ (M.map (·.fm)).flatMap eFm)) by
    rw [← hvs, ← HPR.out]
    simp [ePr, PrMem.pr])
  have hw1 := Lib.hid (show WrAt (w2.alloc (.cells #[.slice none 0 0] 94)) w.heap.size w2.heap.size [] from ⟨by rw [World.size_alloc]; omega, hsz, _, Blk.new w2 94 #[.slice none 0 0], ⟨rfl, .inl ⟨rfl, rfl⟩⟩⟩)
  have HW1 := Lib.hid (hw1.out.alloc (.cells #[.int .i64 L.length, .int .i64 S.length, .int .i64 M.length] 3))
  have B3 := Lib.hid (next_ B2.out (next_ (below_new w2 (.cells #[.slice none 0 0] 94)) (below_new _ (.cells #[.int .i64 L.length, .int .i64 S.length, .int .i64 M.length] 3))))
  have P3 := (P2.alloc (.cells #[.slice none 0 0] 94)).alloc (.cells #[.int .i64 L.length, .int .i64 S.length, .int .i64 M.length] 3)
  have Q3 : Blk ((w2.alloc (.cells #[.slice none 0 0] 94)).alloc (.cells #[.int .i64 L.length, .int .i64 S.length, .int .i64 M.length] 3)) (w2.heap.size + 1) 3 (vs.map (Value.int .i64)).toArray := by
    rw [← hvs]
    have := Blk.new (w2.alloc (.cells #[.slice none 0 0] 94)) 3 #[.int .i64 L.length, .int .i64 S.length, .int .i64 M.length]
    rw [World.size_alloc] at this
    exact this
  clear hvs hsz
  go_wp2_with fail
  clear p0 p1 p2 Pa
  go_loopw [29] (fun i wr => ∃ (k : Nat) (ws : List UInt8), k ≤ 3 ∧ i = .int .i64 k ∧ ePr p = ws ++ ((vs.drop k).flatMap (fun c => numB c 1) ++ ((L.map (·.fn)).flatMap eFn ++ (S.flatMap eStr ++ (M.map (·.fm)).flatMap eFm))) ∧ Hid (WrAt wr w.heap.size w2.heap.size ws) ∧ Hid (Below w.heap.size w wr) ∧ Blk wr w.heap.size 42 #[.slice AF L.length cF, .slice AS S.length cS, .slice AM M.length cM] ∧ Blk wr (w2.heap.size + 1) 3 (vs.map (Value.int .i64)).toArray) (fun i _ => 3 - (intOf i).toNat)
  case atStart => exact ⟨0, [], by omega, rfl, by rw [hT.out]; rfl, HW1, B3, P3, Q3⟩
  case round =>
    obtain ⟨k, ws, hk, rfl, he, HWR, HBR, hP, hQ⟩ := hrel
    have HE := Lib.hid he
    clear he
    by_cases hlt : k < 3
    · have hl : (k : Int) < 3 := by omega
      have hkl : k < vs.length := by omega
      have hq : wr.cell? ⟨w2.heap.size + 1, k, none⟩ = some (.int .i64 vs[k]) := by
        rw [hQ.cell k, List.getElem?_toArray, List.getElem?_map, List.getElem?_eq_getElem hkl]
        rfl
      have hxd := drop_at hkl
      generalize vs[k] = y at hq hxd
      have HXD := Lib.hid hxd
      clear hxd
      have hE2 := Lib.hid (show ePr p = ws ++ (numB y 1 ++ ((vs.drop (k + 1)).flatMap (fun c => numB c 1) ++ ((L.map (·.fn)).flatMap eFn ++ (S.flatMap eStr ++ (M.map (·.fm)).flatMap eFm)))) by rw [HE.out, HXD.out, List.flatMap_cons, List.append_assoc])
      go_wp2_with fail
      refine (c48 w2.heap.size w.heap.size y 1 ws _ HWR.out (by decide) (by have h1 := HLEN.out; rw [HE.out, List.length_append] at h1; omega)).mono ?_
      rintro e w5 ⟨rfl, hw5, b5, k5⟩
      have HW5 := Lib.hid hw5
      have B5 := Lib.hid (HBR.out.trans b5)
      have P5 := k5 _ _ _ (by decide) (by decide) hP
      have Q5 := k5 _ _ _ (by decide) (by decide) hQ
      clear hw5 b5 k5
      go_wp2_with fail
      go_roundw
      case rel => exact ⟨k + 1, _, by omega, by go_num, by rw [hE2.out, List.append_assoc], HW5, B5, P5, Q5⟩
      case measure => simp [intOf]; omega
    · have hl : ¬ (k : Int) < 3 := by omega
      have p0 := hP.cell 0
      have HE0 := Lib.hid (show ePr p = ws ++ ((L.map (·.fn)).flatMap eFn ++ (S.flatMap eStr ++ (M.map (·.fm)).flatMap eFm)) by rw [HE.out, List.drop_eq_nil_of_le (by omega)]; rfl)
      clear HE
      go_wp2_with fail
      clear p0
      obtain ⟨wo, rfl⟩ : ∃ wo : World, wo = wr := ⟨_, rfl⟩
      go_loopw [40] (fun i wr => ∃ (k : Nat) (ws : List UInt8), k ≤ L.length ∧ i = .int .i64 k ∧ ePr p = ws ++ (((L.map (·.fn)).drop k).flatMap eFn ++ (S.flatMap eStr ++ (M.map (·.fm)).flatMap eFm)) ∧ Hid (WrAt wr w.heap.size w2.heap.size ws) ∧ Hid (Below w.heap.size w wr) ∧ Blk wr w.heap.size 42 #[.slice AF L.length cF, .slice AS S.length cS, .slice AM M.length cM]) (fun i _ => L.length - (intOf i).toNat)
      case atStart => exact ⟨0, ws, by omega, rfl, HE0.out, HWR, HBR, hP⟩
      clear HE0 HWR HBR hP hQ
      case round =>
        obtain ⟨k, ws, hk, rfl, he, HWR, HBR, hP⟩ := hrel
        have HE := Lib.hid he
        have hl1 := HL1.out
        clear he
        by_cases hlt : k < L.length
        · have hl : (k : Int) < (L.length : Int) := by omega
          obtain ⟨ad, e, hbl, hcs⟩ := Reads.rowAt (f := Fnv.cells) (m := 3) (fun _ => rfl) (H1.out.below HBR.out) (by decide) (List.getElem?_eq_getElem hlt)
          have hx1 := H2.out _ (List.getElem_mem hlt)
          have hgd : L[k].fn.code.all insGood = true ∧ L[k].fn.code.length ≤ 600 := by
            have h1 := HGP.out
            rw [← HPR.out] at h1
            simp only [gPr, PrMem.pr, Bool.and_eq_true] at h1
            exact gFns_mem _ _ h1.2.1 _ (List.mem_map.2 ⟨_, List.getElem_mem hlt, rfl⟩)
          have hxd : (L.map (·.fn)).drop k = L[k].fn :: (L.map (·.fn)).drop (k + 1) := by
            rw [drop_at (by rw [List.length_map]; exact hlt), List.getElem_map]
          generalize L[k] = x at hcs hx1 hgd hxd
          obtain ⟨⟨lo, fr, cd⟩, xa, xc⟩ := x
          have HE2 := Lib.hid (show ePr p = (ws ++ eFn ⟨lo, fr, cd⟩) ++ (((L.map (·.fn)).drop (k + 1)).flatMap eFn ++ (S.flatMap eStr ++ (M.map (·.fm)).flatMap eFm)) by rw [HE.out, hxd, List.flatMap_cons]; simp only [List.append_assoc])
          have HCS := Lib.hid hcs
          have HX1 := Lib.hid hx1
          have HGD := Lib.hid hgd
          clear hxd hcs hx1 hgd HE
          subst e
          have B4 := Lib.hid (HBR.out.trans ((below_new wr (.cells #[.int .i64 lo, .int .i64 fr, .slice xa cd.length xc] 60)).mono HBR.out.size))
          have W4 := Lib.hid (HWR.out.alloc (.cells #[.int .i64 lo, .int .i64 fr, .slice xa cd.length xc] 60))
          have P4 := hP.alloc (.cells #[.int .i64 lo, .int .i64 fr, .slice xa cd.length xc] 60)
          go_wp2_with (refine wpList_load_at rfl 60 (.tmp 42) rfl (ad.add (k * 3)) rfl [.int .i64 lo, .int .i64 fr, .slice xa cd.length xc] _ HCS.out Tryd.underlying60 rfl (by kernel_rfl) ?_)
          refine (c49 w2.heap.size w.heap.size ⟨lo, fr, cd⟩ xa xc ws _ (HT.out.next B4.out) h2b W4.out (HX1.out.1.below B4.out) HGD.out.1 HGD.out.2 (by have h1 := HLEN.out; rw [HE2.out, List.length_append] at h1; omega)).mono ?_
          rintro e w5 ⟨rfl, hw5, b5, k5⟩
          have HW5 := Lib.hid hw5
          have B5 := Lib.hid (B4.out.trans b5)
          have P5 := k5 _ _ _ (by decide) (by decide) P4
          clear hw5 b5 k5
          go_wp2_with fail
          go_roundw
          case rel => exact ⟨k + 1, _, by omega, by go_num, HE2.out, HW5, B5, P5⟩
          case measure => simp [intOf]; omega
        · have hl : ¬ (k : Int) < (L.length : Int) := by omega
          have p1 := hP.cell 1
          have HE0 := Lib.hid (show ePr p = ws ++ (S.flatMap eStr ++ (M.map (·.fm)).flatMap eFm) by rw [HE.out, List.drop_eq_nil_of_le (by rw [List.length_map]; omega)]; rfl)
          clear HE
          go_wp2_with fail
          clear p1
          obtain ⟨wo2, rfl⟩ : ∃ wo2 : World, wo2 = wr := ⟨_, rfl⟩
          go_loopw [51] (fun i wr => ∃ (k : Nat) (ws : List UInt8), k ≤ S.length ∧ i = .int .i64 k ∧ ePr p = ws ++ ((S.drop k).flatMap eStr ++ (M.map (·.fm)).flatMap eFm) ∧ Hid (WrAt wr w.heap.size w2.heap.size ws) ∧ Hid (Below w.heap.size w wr) ∧ Blk wr w.heap.size 42 #[.slice AF L.length cF, .slice AS S.length cS, .slice AM M.length cM]) (fun i _ => S.length - (intOf i).toNat)
          case atStart => exact ⟨0, ws, by omega, rfl, HE0.out, HWR, HBR, hP⟩
          clear HE0 HWR HBR hP
          case round =>
            obtain ⟨k, ws, hk, rfl, he, HWR, HBR, hP⟩ := hrel
            have HE := Lib.hid he
            have hl2 := HL2.out
            clear he
            by_cases hlt : k < S.length
            · have hl : (k : Int) < (S.length : Int) := by omega
              obtain ⟨ad, u, e, hbl, hu, hcs⟩ := (H3.out.below HBR.out).at_ hlt
              obtain rfl : strV S[k] = u := by
                rw [List.getElem?_map, List.getElem?_eq_getElem hlt] at hu
                exact Option.some.inj hu
              clear hu
              have hxd := drop_at hlt
              generalize S[k] = y at hcs hxd
              have HE2 := Lib.hid (show ePr p = (ws ++ (numB y.length 1 ++ y)) ++ ((S.drop (k + 1)).flatMap eStr ++ (M.map (·.fm)).flatMap eFm) by rw [HE.out, hxd, List.flatMap_cons]; simp only [List.append_assoc, eStr])
              have HY := Lib.hid (show ws.length + (1 + y.length) ≤ 1000000 by have h1 := HLEN.out; rw [HE2.out] at h1; simp only [List.length_append, numB_len] at h1; omega)
              clear hxd HE
              subst e
              go_wp2_with fail
              refine (c48 w2.heap.size w.heap.size y.length 1 ws _ HWR.out (by decide) (by have := HY.out; omega)).mono ?_
              rintro e w5 ⟨rfl, hw5, b5, k5⟩
              have P5 := k5 _ _ _ (by decide) (by decide) hP
              obtain ⟨e1, e2, rv, e3, e4⟩ := hw5
              have cr := e3.cell 0
              have fr := e3.frozen 0
              have B5 := Lib.hid (HBR.out.trans b5)
              have E1 := Lib.hid e1
              have E3 := Lib.hid e3
              have E4 := Lib.hid e4
              clear b5 k5 e1 e3 e4
              have SD : w2.heap.size < w5.heap.size ∧ w5.cell? ⟨w2.heap.size, 0, none⟩ = some rv ∧ w5.frozen? ⟨w2.heap.size, 0, none⟩ = false := ⟨E3.out.lt, cr, fr⟩
              go_wp2_with (at_builtin; refine Lib.wpList_append_own_string _ rfl (.tmp 63) (.tmp 64) _ _ rfl w.heap.size 5 i0 Tryd.underlying43 Tryd.underlying9 hi0 hz0 hz1 hz2 rv _ _ rfl E4.out ⟨y.toArray⟩ rfl (by unfold maxLen; simp only [List.length_append, numB_len]; have := HY.out; show _ + y.length ≤ _; omega) (by simp only [List.length_append, numB_len]; have := HY.out; show _ + y.length ≤ _; omega) E1.out ?_; intro v1 w1 hown1 hgrow _; obtain ⟨a1, c1, rfl⟩ := own_form hown1; have SG := keepG hgrow (fun e => own_blk_ne E4.out E3.out (by decide) e.symm) SD)
              obtain ⟨X1, X2, X3⟩ := WrAt.wrote (base := w.heap.size) (g := w2.heap.size) (v := rv) (ys := ws ++ (numB y.length 1 ++ y)) E1.out e2 E3.out E4.out hgrow (by rw [← List.append_assoc, cellsB_append, ← strCells_eq]; exact hown1) (by simp only [List.length_append, numB_len, Nat.add_assoc]; rfl) rfl
              have Y1 := Lib.hid X1
              have Y2 := Lib.hid (B5.out.trans X2)
              have P6 := X3 _ _ _ (by decide) (by decide) P5
              have e9 : (ws ++ numB (y.length : Int) 1).length + (⟨y.toArray⟩ : ByteArray).size = ws.length + (numB (y.length : Int) 1).length + y.length := by rw [List.length_append]; rfl
              rw [e9] at Y1 Y2 P6
              clear X1 X2 X3 e9
              go_wp2_with fail
              go_roundw
              case rel => exact ⟨k + 1, _, by omega, by go_num, HE2.out, Y1, Y2, P6⟩
              case measure => simp [intOf]; omega
            · have hl : ¬ (k : Int) < (S.length : Int) := by omega
              have p2 := hP.cell 2
              have HE0 := Lib.hid (show ePr p = ws ++ (M.map (·.fm)).flatMap eFm by rw [HE.out, List.drop_eq_nil_of_le (by omega)]; rfl)
              clear HE
              go_wp2_with fail
              clear p2
              obtain ⟨wo3, rfl⟩ : ∃ wo3 : World, wo3 = wr := ⟨_, rfl⟩
              go_loopw [72] (fun i wr => ∃ (k : Nat) (ws : List UInt8), k ≤ M.length ∧ i = .int .i64 k ∧ ePr p = ws ++ ((M.map (·.fm)).drop k).flatMap eFm ∧ Hid (WrAt wr w.heap.size w2.heap.size ws) ∧ Hid (Below w.heap.size w wr)) (fun i _ => M.length - (intOf i).toNat)
              case atStart => exact ⟨0, ws, by omega, rfl, HE0.out, HWR, HBR⟩
              clear HE0 HWR HBR hP
              case round =>
                obtain ⟨k, ws, hk, rfl, he, HWR, HBR⟩ := hrel
                have HE := Lib.hid he
                have hl3 := HL3.out
                clear he
                by_cases hlt : k < M.length
                · have hl : (k : Int) < (M.length : Int) := by omega
                  obtain ⟨ad, e, hbl, hcs⟩ := Reads.rowAt (f := Fmv.cells) (m := 4) (fun _ => rfl) (H4.out.below HBR.out) (by decide) (List.getElem?_eq_getElem hlt)
                  have hx1 := H5.out _ (List.getElem_mem hlt)
                  have hxd : (M.map (·.fm)).drop k = M[k].fm :: (M.map (·.fm)).drop (k + 1) := by
                    rw [drop_at (by rw [List.length_map]; exact hlt), List.getElem_map]
                  generalize M[k] = x at hcs hx1 hxd
                  obtain ⟨⟨kd, fa, fb, cd⟩, xa, xc⟩ := x
                  have HE2 := Lib.hid (show ePr p = (ws ++ eFm ⟨kd, fa, fb, cd⟩) ++ ((M.map (·.fm)).drop (k + 1)).flatMap eFm by rw [HE.out, hxd, List.flatMap_cons]; simp only [List.append_assoc])
                  have HCS := Lib.hid hcs
                  have HX1 := Lib.hid hx1
                  clear hxd hcs hx1 HE
                  subst e
                  have B4 := Lib.hid (HBR.out.trans ((below_new wr (.cells #[.int .i64 kd, .int .i64 fa, .int .i64 fb, .slice xa cd.length xc] 63)).mono HBR.out.size))
                  have W4 := Lib.hid (HWR.out.alloc (.cells #[.int .i64 kd, .int .i64 fa, .int .i64 fb, .slice xa cd.length xc] 63))
                  go_wp2_with (refine wpList_load_at rfl 63 (.tmp 74) rfl (ad.add (k * 4)) rfl [.int .i64 kd, .int .i64 fa, .int .i64 fb, .slice xa cd.length xc] _ HCS.out Tryd.underlying63 rfl (by kernel_rfl) ?_)
                  refine (c50 w2.heap.size w.heap.size ⟨kd, fa, fb, cd⟩ xa xc ws _ W4.out (HX1.out.1.below B4.out) HX1.out.2 (by have h1 := HLEN.out; rw [HE2.out, List.length_append] at h1; omega)).mono ?_
                  rintro e w5 ⟨rfl, hw5, b5, k5⟩
                  have HW5 := Lib.hid hw5
                  have B5 := Lib.hid (B4.out.trans b5)
                  clear hw5 b5 k5
                  go_wp2_with fail
                  go_roundw
                  case rel => exact ⟨k + 1, _, by omega, by go_num, HE2.out, HW5, B5⟩
                  case measure => simp [intOf]; omega
                · have hl : ¬ (k : Int) < (M.length : Int) := by omega
                  obtain ⟨e1, e2, rv, e3, e4⟩ := HWR.out
                  have cr := e3.cell 0
                  have E4 := Lib.hid e4
                  clear e1 e3 e4
                  have HF := Lib.hid (show ws = ePr p by rw [HE.out, List.drop_eq_nil_of_le (by rw [List.length_map]; omega)]; simp)
                  go_wp2_with fail
                  go_ret2
                  refine ⟨rv, by rw [HGP.out]; rfl, ?_, HBR.out⟩
                  rw [HEN.out, ← HF.out]
                  exact E4.out
end Go.Proofs.YtiphicejaljhiaaDoor
