/- The walk of CodeLengths: it returns true, whatever the program is. -/
import Derived.Test.YtiphicejaljhiaaDoorCWakes
import Derived.Test.YtiphicejaljhiaaDoorRGood
import Derived.Test.YtiphicejaljhiaaDoorLarge
import Derived.StillTailTactics
namespace Go.Proofs.YtiphicejaljhiaaDoor
open Go.ChangeShapes Go.WideShapes Go.ChangeAt Go.RowKit
def insN (o : Int) : Nat := 1 + (wid o + (if sec o then 1 else 0))
theorem insN_eq (i : Ins) : (eIns i).length = insN i.o := by
  unfold eIns insN
  simp only [List.length_append, numB_len]
  split <;> simp [numB_len]
theorem insN_o {o : Int} (h : o ≠ 0 ∧ o ≠ 21 ∧ o ≠ 6 ∧ o ≠ 19 ∧ o ≠ 36 ∧ o ≠ 1 ∧ o ≠ 2 ∧ o ≠ 3 ∧ o ≠ 4 ∧ o ≠ 10 ∧ o ≠ 11 ∧ o ≠ 20 ∧ o ≠ 22 ∧ o ≠ 33) : insN o = 1 := by
  unfold insN wid sec
  rw [if_neg (by omega), if_neg (by omega), if_neg (by simp; omega)]
set_option maxRecDepth 100000 in
set_option maxHeartbeats 20000000 in
theorem c9 (q : PrMem) (w : World) (ht : CodeTab w) (hq : PrOk w w.heap.size q) : Calls Tryd.prog 9 #[q.val] w fun e w' => e = .returned (.bool true) ∧ Below w.heap.size w w' := by
  have HT := Lib.hid ht
  obtain ⟨AF, cF, L, AS, cS, S, AM, cM, M⟩ := q
  simp only [PrMem.val]
  have P1 := Blk.new w 42 #[.slice AF L.length cF, .slice AS S.length cS, .slice AM M.length cM]
  have B1 := Lib.hid (below_new w (.cells #[.slice AF L.length cF, .slice AS S.length cS, .slice AM M.length cM] 42))
  have Q1 := Lib.hid (hq.next B1.out)
  clear hq ht
  go_enter Tryd.func9, Tryd.ntmps9
  go_wp2_with fail
  refine (c25 _ _ Q1.out).mono ?_
  rintro e w2 ⟨rfl, b2⟩
  have B2 := Lib.hid (next_ B1.out b2)
  have Q2 := Lib.hid (Q1.out.next b2)
  have P2 := P1.next b2
  clear b2 P1
  have n0 := P2.cell 0
  have n1 := P2.cell 1
  have n2 := P2.cell 2
  generalize gLarge _ = big
  cases big
  case true =>
    go_wp2_with fail
    refine (c26 w2 (HT.out.next B2.out)).mono ?_
    rintro e w3 ⟨rfl, b3⟩
    go_wp2_with fail
    go_ret
    exact ⟨rfl, next_ B2.out b3⟩
  case false =>
    go_wp2_with fail
    refine (c28 _ w2 (HT.out.next B2.out) Q2.out).mono ?_
    rintro e w3 ⟨v3, rfl, ho3, b3⟩
    have B3 := Lib.hid (next_ B2.out b3)
    have Q3 := Lib.hid (Q2.out.next b3)
    have P3 := P2.next b3
    clear n0 n1 n2 P2 b3
    have n0 := P3.cell 0
    have n1 := P3.cell 1
    have n2 := P3.cell 2
    generalize hpr : (PrMem.mk AF cF L AS cS S AM cM M).pr = p at ho3
    have HP := Lib.hid hpr
    clear hpr
    cases hgp : gPr p
    · have HGP := Lib.hid hgp
      have heq : gEnc p = [] := by unfold gEnc; rw [hgp]; rfl
      rw [heq] at ho3
      obtain ⟨a3, c3, rfl⟩ := own_form ho3
      clear hgp heq ho3
      go_wp2_with fail
      refine (c29 _ w3 Q3.out).mono ?_
      rintro e w4 ⟨rfl, b4⟩
      rw [HP.out, HGP.out]
      have B4 := Lib.hid (next_ B3.out b4)
      go_wp2_with fail
      refine (c26 w4 (HT.out.next B4.out)).mono ?_
      rintro e w5 ⟨rfl, b5⟩
      go_wp2_with fail
      go_ret
      exact ⟨rfl, next_ B4.out b5⟩
    · have HGP := Lib.hid hgp
      have heq : gEnc p = ePr p := by unfold gEnc; rw [hgp]; rfl
      rw [heq] at ho3
      obtain ⟨a3, c3, rfl⟩ := own_form ho3
      have RB := Lib.hid (Reads.of_own ho3)
      have HLEN := ePr_len hgp
      have T3 := Lib.hid (enc_three p)
      clear hgp heq ho3
      generalize hTT : (ePr p).length = T at HLEN
      generalize hr1 : (S.flatMap eStr).length + ((M.map (·.fm)).flatMap eFm).length = r1
      generalize hr0 : ((M.map (·.fm)).flatMap eFm).length = r0 at hr1
      have HTT := Lib.hid (show T = 3 + ((L.map (·.fn)).flatMap eFn).length + r1 by
        rw [← hTT, ← hr1, ← hr0, ← HP.out]
        simp only [ePr, PrMem.pr, List.length_append, numB_len]
        omega)
      have HLP := Lib.hid hTT
      have HR1 := Lib.hid hr1
      have HR0 := Lib.hid hr0
      have lF : L.length ≤ 60 ∧ S.length ≤ 40 ∧ M.length ≤ 40 := by
        have h := HGP.out
        rw [← HP.out] at h
        simp only [gPr, PrMem.pr, Bool.and_eq_true, betw_iff, decide_eq_true_eq, List.length_map] at h
        obtain ⟨⟨a1, a2, a3⟩, _⟩ := h
        exact ⟨by omega, of_decide_eq_true a2, a3⟩
      obtain ⟨lF, lS, lM⟩ := lF
      clear hTT hr1 hr0
      go_wp2_with fail
      go_loopw [6, 5] (fun i nv wr => ∃ k x : Nat, k ≤ L.length ∧ i = .int .i64 k ∧ nv = .int .i64 x ∧ x + (((L.map (·.fn)).drop k).flatMap eFn).length + r1 = T ∧ wr = w3) (fun i _ _ => L.length - (intOf i).toNat)
      case atStart => exact ⟨0, 3, by omega, rfl, rfl, by rw [HTT.out]; simp, rfl⟩
      case round =>
        obtain ⟨k, x, hk, rfl, rfl, he, rfl⟩ := hrel
        have HE := Lib.hid he
        have hx0 : x ≤ T := by omega
        clear he
        by_cases hlt : k < L.length
        · have hl : (k : Int) < (L.length : Int) := by omega
          have hk0 : (0 : Int) ≤ (k : Int) := by omega
          obtain ⟨ad, e, hbl, hcs⟩ := Reads.rowAt (f := Fnv.cells) (m := 3) (fun _ => rfl) Q3.out.fns (by decide) (List.getElem?_eq_getElem hlt)
          simp only at e
          have hx1 := Q3.out.fn _ (List.getElem_mem hlt)
          have hgd : L[k].fn.code.length ≤ 600 := by
            have h1 := HGP.out
            rw [← HP.out] at h1
            simp only [gPr, PrMem.pr, Bool.and_eq_true] at h1
            exact (gFns_mem _ _ h1.2.1 _ (List.mem_map.2 ⟨_, List.getElem_mem hlt, rfl⟩)).2
          have hxd : (L.map (·.fn)).drop k = L[k].fn :: (L.map (·.fn)).drop (k + 1) := by
            rw [drop_at (by rw [List.length_map]; exact hlt), List.getElem_map]
          have hcell : wr.cell? ⟨(ad.add (k * 3)).block, (ad.add (k * 3)).off + 2, none⟩ = _ := hcs 2 _ rfl
          clear hcs
          generalize (L[k]'hlt : Fnv) = xx at hcell hx1 hgd hxd
          obtain ⟨⟨lo, fr, cd⟩, xa, xc⟩ := xx
          simp only at hx1 hgd hcell hxd
          have HX1 := Lib.hid hx1
          generalize hr2 : (((L.map (·.fn)).drop (k + 1)).flatMap eFn).length + r1 = r2
          have HE2 := Lib.hid (show x + 4 + (cd.flatMap eIns).length + r2 = T by
            have h1 := HE.out
            rw [hxd, List.flatMap_cons, List.length_append] at h1
            simp only [eFn, List.length_append, numB_len] at h1
            omega)
          have HR2 := Lib.hid hr2
          clear hxd hx1 hr2 HE
          subst e
          go_wp2_with fail
          go_loopw [7, 5] (fun i nv wr' => ∃ j y : Nat, j ≤ cd.length ∧ i = .int .i64 j ∧ nv = .int .i64 y ∧ y + ((cd.drop j).flatMap eIns).length + r2 = T ∧ wr' = wr) (fun i _ _ => cd.length - (intOf i).toNat)
          case atStart => exact ⟨0, x + 4, by omega, rfl, by go_num, by rw [← HE2.out]; rfl, rfl⟩
          case round =>
            obtain ⟨j, y, hj, rfl, rfl, hjr, rfl⟩ := hrel
            have HJ := Lib.hid hjr
            have hy0 : y ≤ T := by omega
            clear hjr
            by_cases hlj : j < cd.length
            · have hlj' : (j : Int) < (cd.length : Int) := by omega
              have hj0 : (0 : Int) ≤ (j : Int) := by omega
              obtain ⟨ad2, e, a0, _, _⟩ := HX1.out.1.insN (List.getElem?_eq_getElem hlj)
              have hxj := drop_at hlj
              generalize cd[j] = ins at a0 hxj
              obtain ⟨o, ia, ib⟩ := ins
              have HXD := Lib.hid hxj
              clear hxj
              subst e
              simp only at a0
              have ho : o = 0 ∨ o = 21 ∨ o = 6 ∨ o = 19 ∨ o = 36 ∨ o = 1 ∨ o = 2 ∨ o = 3 ∨ o = 4 ∨ o = 10 ∨ o = 11 ∨ o = 20 ∨ o = 22 ∨ o = 33 ∨ (o ≠ 0 ∧ o ≠ 21 ∧ o ≠ 6 ∧ o ≠ 19 ∧ o ≠ 36 ∧ o ≠ 1 ∧ o ≠ 2 ∧ o ≠ 3 ∧ o ≠ 4 ∧ o ≠ 10 ∧ o ≠ 11 ∧ o ≠ 20 ∧ o ≠ 22 ∧ o ≠ 33) := by omega
              rcases ho with rfl | rfl | rfl | rfl | rfl | rfl | rfl | rfl | rfl | rfl | rfl | rfl | rfl | rfl | ⟨n0, n21, n6, n19, n36, n1, n2, n3, n4, n10, n11, n20, n22, n33⟩
              · have HI := Lib.hid (show (eIns ⟨0, ia, ib⟩).length = 9 from (insN_eq _).trans rfl)
                go_wp2_with fail
                go_roundw
                case rel =>
                  refine ⟨j + 1, y + 9, by omega, by go_num, by go_num, ?_, trivial⟩
                  have h1 := HJ.out
                  rw [HXD.out, List.flatMap_cons, List.length_append, HI.out] at h1
                  omega
                case measure => simp [intOf]; omega
              · have HI := Lib.hid (show (eIns ⟨21, ia, ib⟩).length = 9 from (insN_eq _).trans rfl)
                go_wp2_with fail
                go_roundw
                case rel =>
                  refine ⟨j + 1, y + 9, by omega, by go_num, by go_num, ?_, trivial⟩
                  have h1 := HJ.out
                  rw [HXD.out, List.flatMap_cons, List.length_append, HI.out] at h1
                  omega
                case measure => simp [intOf]; omega
              · have HI := Lib.hid (show (eIns ⟨6, ia, ib⟩).length = 4 from (insN_eq _).trans rfl)
                go_wp2_with fail
                go_roundw
                case rel =>
                  refine ⟨j + 1, y + 4, by omega, by go_num, by go_num, ?_, trivial⟩
                  have h1 := HJ.out
                  rw [HXD.out, List.flatMap_cons, List.length_append, HI.out] at h1
                  omega
                case measure => simp [intOf]; omega
              · have HI := Lib.hid (show (eIns ⟨19, ia, ib⟩).length = 4 from (insN_eq _).trans rfl)
                go_wp2_with fail
                go_roundw
                case rel =>
                  refine ⟨j + 1, y + 4, by omega, by go_num, by go_num, ?_, trivial⟩
                  have h1 := HJ.out
                  rw [HXD.out, List.flatMap_cons, List.length_append, HI.out] at h1
                  omega
                case measure => simp [intOf]; omega
              · have HI := Lib.hid (show (eIns ⟨36, ia, ib⟩).length = 4 from (insN_eq _).trans rfl)
                go_wp2_with fail
                go_roundw
                case rel =>
                  refine ⟨j + 1, y + 4, by omega, by go_num, by go_num, ?_, trivial⟩
                  have h1 := HJ.out
                  rw [HXD.out, List.flatMap_cons, List.length_append, HI.out] at h1
                  omega
                case measure => simp [intOf]; omega
              · have HI := Lib.hid (show (eIns ⟨1, ia, ib⟩).length = 3 from (insN_eq _).trans rfl)
                go_wp2_with fail
                go_roundw
                case rel =>
                  refine ⟨j + 1, y + 3, by omega, by go_num, by go_num, ?_, trivial⟩
                  have h1 := HJ.out
                  rw [HXD.out, List.flatMap_cons, List.length_append, HI.out] at h1
                  omega
                case measure => simp [intOf]; omega
              · have HI := Lib.hid (show (eIns ⟨2, ia, ib⟩).length = 3 from (insN_eq _).trans rfl)
                go_wp2_with fail
                go_roundw
                case rel =>
                  refine ⟨j + 1, y + 3, by omega, by go_num, by go_num, ?_, trivial⟩
                  have h1 := HJ.out
                  rw [HXD.out, List.flatMap_cons, List.length_append, HI.out] at h1
                  omega
                case measure => simp [intOf]; omega
              · have HI := Lib.hid (show (eIns ⟨3, ia, ib⟩).length = 3 from (insN_eq _).trans rfl)
                go_wp2_with fail
                go_roundw
                case rel =>
                  refine ⟨j + 1, y + 3, by omega, by go_num, by go_num, ?_, trivial⟩
                  have h1 := HJ.out
                  rw [HXD.out, List.flatMap_cons, List.length_append, HI.out] at h1
                  omega
                case measure => simp [intOf]; omega
              · have HI := Lib.hid (show (eIns ⟨4, ia, ib⟩).length = 3 from (insN_eq _).trans rfl)
                go_wp2_with fail
                go_roundw
                case rel =>
                  refine ⟨j + 1, y + 3, by omega, by go_num, by go_num, ?_, trivial⟩
                  have h1 := HJ.out
                  rw [HXD.out, List.flatMap_cons, List.length_append, HI.out] at h1
                  omega
                case measure => simp [intOf]; omega
              · have HI := Lib.hid (show (eIns ⟨10, ia, ib⟩).length = 3 from (insN_eq _).trans rfl)
                go_wp2_with fail
                go_roundw
                case rel =>
                  refine ⟨j + 1, y + 3, by omega, by go_num, by go_num, ?_, trivial⟩
                  have h1 := HJ.out
                  rw [HXD.out, List.flatMap_cons, List.length_append, HI.out] at h1
                  omega
                case measure => simp [intOf]; omega
              · have HI := Lib.hid (show (eIns ⟨11, ia, ib⟩).length = 3 from (insN_eq _).trans rfl)
                go_wp2_with fail
                go_roundw
                case rel =>
                  refine ⟨j + 1, y + 3, by omega, by go_num, by go_num, ?_, trivial⟩
                  have h1 := HJ.out
                  rw [HXD.out, List.flatMap_cons, List.length_append, HI.out] at h1
                  omega
                case measure => simp [intOf]; omega
              · have HI := Lib.hid (show (eIns ⟨20, ia, ib⟩).length = 3 from (insN_eq _).trans rfl)
                go_wp2_with fail
                go_roundw
                case rel =>
                  refine ⟨j + 1, y + 3, by omega, by go_num, by go_num, ?_, trivial⟩
                  have h1 := HJ.out
                  rw [HXD.out, List.flatMap_cons, List.length_append, HI.out] at h1
                  omega
                case measure => simp [intOf]; omega
              · have HI := Lib.hid (show (eIns ⟨22, ia, ib⟩).length = 3 from (insN_eq _).trans rfl)
                go_wp2_with fail
                go_roundw
                case rel =>
                  refine ⟨j + 1, y + 3, by omega, by go_num, by go_num, ?_, trivial⟩
                  have h1 := HJ.out
                  rw [HXD.out, List.flatMap_cons, List.length_append, HI.out] at h1
                  omega
                case measure => simp [intOf]; omega
              · have HI := Lib.hid (show (eIns ⟨33, ia, ib⟩).length = 3 from (insN_eq _).trans rfl)
                go_wp2_with fail
                go_roundw
                case rel =>
                  refine ⟨j + 1, y + 3, by omega, by go_num, by go_num, ?_, trivial⟩
                  have h1 := HJ.out
                  rw [HXD.out, List.flatMap_cons, List.length_append, HI.out] at h1
                  omega
                case measure => simp [intOf]; omega
              · have HI := Lib.hid (show (eIns ⟨o, ia, ib⟩).length = 1 from (insN_eq _).trans (insN_o ⟨n0, n21, n6, n19, n36, n1, n2, n3, n4, n10, n11, n20, n22, n33⟩))
                have f0 : (o == 0) = false := beq_eq_false_iff_ne.2 n0
                have f21 : (o == 21) = false := beq_eq_false_iff_ne.2 n21
                have f6 : (o == 6) = false := beq_eq_false_iff_ne.2 n6
                have f19 : (o == 19) = false := beq_eq_false_iff_ne.2 n19
                have f36 : (o == 36) = false := beq_eq_false_iff_ne.2 n36
                have f1 : (o == 1) = false := beq_eq_false_iff_ne.2 n1
                have f2 : (o == 2) = false := beq_eq_false_iff_ne.2 n2
                have f3 : (o == 3) = false := beq_eq_false_iff_ne.2 n3
                have f4 : (o == 4) = false := beq_eq_false_iff_ne.2 n4
                have f10 : (o == 10) = false := beq_eq_false_iff_ne.2 n10
                have f11 : (o == 11) = false := beq_eq_false_iff_ne.2 n11
                have f20 : (o == 20) = false := beq_eq_false_iff_ne.2 n20
                have f22 : (o == 22) = false := beq_eq_false_iff_ne.2 n22
                have f33 : (o == 33) = false := beq_eq_false_iff_ne.2 n33
                clear n0 n21 n6 n19 n36 n1 n2 n3 n4 n10 n11 n20 n22 n33
                go_wp2_with fail
                go_roundw
                case rel =>
                  refine ⟨j + 1, y + 1, by omega, by go_num, by go_num, ?_, trivial⟩
                  have h1 := HJ.out
                  rw [HXD.out, List.flatMap_cons, List.length_append, HI.out] at h1
                  omega
                case measure => simp [intOf]; omega
            · have hlj' : ¬ (j : Int) < (cd.length : Int) := by omega
              have HJ0 := Lib.hid (show y + r2 = T by have h := HJ.out; rw [List.drop_eq_nil_of_le (by omega)] at h; simpa using h)
              clear HJ
              go_wp2_with fail
              go_roundw
              case rel => exact ⟨k + 1, y, by omega, by go_num, rfl, by have h1 := HJ0.out; have h2 := HR2.out; omega, trivial⟩
              case measure => simp [intOf]; omega
        · have hl : ¬ (k : Int) < (L.length : Int) := by omega
          have HE0 := Lib.hid (show x + r1 = T by have h := HE.out; rw [List.drop_eq_nil_of_le (by rw [List.length_map]; omega)] at h; simpa using h)
          clear HE
          go_wp2_with fail
          obtain ⟨w3, hw3⟩ : ∃ w3, w3 = wr := ⟨_, rfl⟩
          subst hw3
          go_loopw [8, 5] (fun i nv wr => ∃ k x : Nat, k ≤ S.length ∧ i = .int .i64 k ∧ nv = .int .i64 x ∧ x + ((S.drop k).flatMap eStr).length + r0 = T ∧ wr = w3) (fun i _ _ => S.length - (intOf i).toNat)
          case atStart => exact ⟨0, x, by omega, rfl, rfl, by rw [← HE0.out, ← HR1.out]; simp; omega, rfl⟩
          case round =>
            obtain ⟨k, x, hk, rfl, rfl, he, rfl⟩ := hrel
            have HE := Lib.hid he
            have hx0 : x ≤ T := by omega
            clear he
            by_cases hlt : k < S.length
            · have hl : (k : Int) < (S.length : Int) := by omega
              have hk0 : (0 : Int) ≤ (k : Int) := by omega
              obtain ⟨ad, u, e, hbl, hu, hcs⟩ := Q3.out.strs.at_ hlt
              simp only at e hu
              obtain rfl : strV S[k] = u := by
                rw [List.getElem?_map, List.getElem?_eq_getElem hlt] at hu
                exact Option.some.inj hu
              clear hu
              have hxd := drop_at hlt
              generalize S[k] = yy at hcs hxd
              have HE2 := Lib.hid (show x + (1 + yy.length) + ((S.drop (k + 1)).flatMap eStr).length + r0 = T by
                have h1 := HE.out
                rw [hxd, List.flatMap_cons, List.length_append] at h1
                simp only [eStr, List.length_append, numB_len] at h1
                omega)
              have hyl : x + (1 + yy.length) ≤ T := by have := HE2.out; omega
              clear hxd HE
              subst e
              go_wp2_with fail
              go_roundw
              case rel => exact ⟨k + 1, x + (1 + yy.length), by omega, by go_num, by go_num, HE2.out, trivial⟩
              case measure => simp [intOf]; omega
            · have hl : ¬ (k : Int) < (S.length : Int) := by omega
              have HE1 := Lib.hid (show x + r0 = T by have h := HE.out; rw [List.drop_eq_nil_of_le (by omega)] at h; simpa using h)
              clear HE HE0
              go_wp2_with fail
              obtain ⟨w3, hw3⟩ : ∃ w3, w3 = wr := ⟨_, rfl⟩
              subst hw3
              go_loopw [9, 5] (fun i nv wr => ∃ k x : Nat, k ≤ M.length ∧ i = .int .i64 k ∧ nv = .int .i64 x ∧ x + (((M.map (·.fm)).drop k).flatMap eFm).length = T ∧ wr = w3) (fun i _ _ => M.length - (intOf i).toNat)
              case atStart => exact ⟨0, x, by omega, rfl, rfl, by rw [← HE1.out, ← HR0.out]; rfl, rfl⟩
              case round =>
                obtain ⟨k, x, hk, rfl, rfl, he, rfl⟩ := hrel
                have HE := Lib.hid he
                have hx0 : x ≤ T := by omega
                clear he
                by_cases hlt : k < M.length
                · have hl : (k : Int) < (M.length : Int) := by omega
                  have hk0 : (0 : Int) ≤ (k : Int) := by omega
                  obtain ⟨ad, e, hbl, hcs⟩ := Reads.rowAt (f := Fmv.cells) (m := 4) (fun _ => rfl) Q3.out.fms (by decide) (List.getElem?_eq_getElem hlt)
                  simp only at e
                  have hxd : (M.map (·.fm)).drop k = M[k].fm :: (M.map (·.fm)).drop (k + 1) := by
                    rw [drop_at (by rw [List.length_map]; exact hlt), List.getElem_map]
                  have hcell : wr.cell? ⟨(ad.add (k * 4)).block, (ad.add (k * 4)).off + 3, none⟩ = _ := hcs 3 _ rfl
                  clear hcs
                  generalize (M[k]'hlt : Fmv) = xx at hcell hxd
                  obtain ⟨⟨kd, fa, fb, cd⟩, xa, xc⟩ := xx
                  simp only at hcell hxd
                  have HE2 := Lib.hid (show x + (4 + cd.length) + (((M.map (·.fm)).drop (k + 1)).flatMap eFm).length = T by
                    have h1 := HE.out
                    have h2 : (cd.flatMap (fun c => numB c 1)).length = cd.length := by
                      clear hxd hcell h1
                      induction cd with
                      | nil => rfl
                      | cons c l ih => rw [List.flatMap_cons, List.length_append, ih, numB_len, List.length_cons]; omega
                    rw [hxd, List.flatMap_cons, List.length_append] at h1
                    simp only [eFm, List.length_append, numB_len, h2] at h1
                    omega)
                  have hyl : x + (4 + cd.length) ≤ T := by have := HE2.out; omega
                  clear hxd HE
                  subst e
                  go_wp2_with fail
                  go_roundw
                  case rel => exact ⟨k + 1, x + (4 + cd.length), by omega, by go_num, by go_num, HE2.out, trivial⟩
                  case measure => simp [intOf]; omega
                · have hl : ¬ (k : Int) < (M.length : Int) := by omega
                  have HE2 := Lib.hid (show x = T by have h := HE.out; rw [List.drop_eq_nil_of_le (by rw [List.length_map]; omega)] at h; simpa using h)
                  clear HE HE1
                  obtain ⟨rest, hrest⟩ := T3.out
                  have hlenT : (ePr p).length = T := HLP.out
                  have h3 : 3 ≤ (ePr p).length := by rw [hrest]; simp
                  obtain ⟨ad, e, hbl, hcs⟩ := RB.out.2 (by omega)
                  have y0 := hcs 0 (byV (byteOf p.funcs.length)) (by rw [hrest]; rfl)
                  have y1 : wr.cell? ⟨ad.block, ad.off + 1, none⟩ = _ := hcs 1 (byV (byteOf p.strs.length)) (by rw [hrest]; rfl)
                  have y2 : wr.cell? ⟨ad.block, ad.off + 2, none⟩ = _ := hcs 2 (byV (byteOf p.forms.length)) (by rw [hrest]; rfl)
                  have hadd0 : ad.add 0 = ad := rfl
                  rw [hadd0] at y0
                  have g0 : ((byteOf p.funcs.length).toNat : Int) = L.length := by
                    rw [byteOf_nat, ← HP.out]
                    simp only [PrMem.pr, List.length_map]
                    omega
                  have g1 : ((byteOf p.strs.length).toNat : Int) = S.length := by
                    rw [byteOf_nat, ← HP.out]
                    simp only [PrMem.pr]
                    omega
                  have g2 : ((byteOf p.forms.length).toNat : Int) = M.length := by
                    rw [byteOf_nat, ← HP.out]
                    simp only [PrMem.pr, List.length_map]
                    omega
                  rw [byV, g0] at y0
                  rw [byV, g1] at y1
                  rw [byV, g2] at y2
                  have hxT := HE2.out
                  subst e
                  rw [hlenT] at *
                  subst hxT
                  have h0 : (0 : Int) < (x : Int) := by omega
                  have h1 : (1 : Int) < (x : Int) := by omega
                  have h2 : (2 : Int) < (x : Int) := by omega
                  have k0 : 0 < x := by omega
                  have k1 : 1 < x := by omega
                  have k2 : 2 < x := by omega
                  have gF : IntKind.i64.wrap (L.length : Int) = L.length := IntWalk.i64_in _ (by omega)
                  have gS : IntKind.i64.wrap (S.length : Int) = S.length := IntWalk.i64_in _ (by omega)
                  have gM : IntKind.i64.wrap (M.length : Int) = M.length := IntWalk.i64_in _ (by omega)
                  clear hcs hrest hlenT h3 g0 g1 g2 hadd0
                  go_wp2_with fail
                  go_still_tail 35, (by kernel_rfl)
                  change wpList _ _ _ _ _ wr.drew
                  go_wp2_with fail
                  refine (c26 wr.drew (HT.out.next B3.out).drew).mono ?_
                  rintro e w9 ⟨rfl, b9⟩
                  go_wp2_with fail
                  go_ret
                  exact ⟨rfl, next_ B3.out.drew b9⟩
end Go.Proofs.YtiphicejaljhiaaDoor
