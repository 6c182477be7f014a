/- The writer of a function. -/
import Derived.Test.YtiphicejaljhiaaDoorWrNum
import Derived.Test.YtiphicejaljhiaaDoorTab
import Derived.StillTailTactics
namespace Go.Proofs.YtiphicejaljhiaaDoor
open Go.ChangeShapes Go.WideShapes Go.ChangeAt Go.RowKit
theorem wid_le (o : Int) : wid o ≤ 8 := by
  unfold wid
  split
  · omega
  · split <;> omega
set_option maxRecDepth 100000 in
set_option maxHeartbeats 4000000 in
theorem c49 (g base : Nat) (f : Fn) (A : Option Addr) (c : Nat) (bs : List UInt8) (w : World) (ht : CodeTab w) (h2 : 2 < base) (hw : WrAt w base g bs) (hr : Reads w base 3 A f.code.length (f.code.flatMap insCells))
    (hg : f.code.all insGood = true) (hm : f.code.length ≤ 600) (hl : (bs ++ eFn f).length ≤ 1099511627776) :
    Calls Tryd.prog 49 #[.pointer (some ⟨g, 0, none⟩), .agg #[.int .i64 f.locals, .int .i64 f.free, .slice A f.code.length c]] w fun e w' => e = .returned (.tuple #[]) ∧ WrAt w' base g (bs ++ eFn f) ∧ Below base w w' ∧ KeptW w w' := by
  obtain ⟨lo, fr, cd⟩ := f
  simp only at hr hg hm ⊢
  have HG := Lib.hid hg
  have HL := Lib.hid hl
  have HR := Lib.hid hr
  have hw1 := hw.alloc (.cells #[.int .i64 lo, .int .i64 fr, .slice A cd.length c] 60)
  have B1 := Lib.hid ((below_new w (.cells #[.int .i64 lo, .int .i64 fr, .slice A cd.length c] 60)).mono hw.1)
  have K1 := Lib.hid (KeptW.alloc w (.cells #[.int .i64 lo, .int .i64 fr, .slice A cd.length c] 60))
  have P1 := Blk.new w 60 #[.int .i64 lo, .int .i64 fr, .slice A cd.length c]
  have HW1 := Lib.hid hw1
  have HT := Lib.hid ht
  clear hg hl hr hw hw1 ht
  go_enter Tryd.func49, Tryd.ntmps49
  go_wp2_with fail
  refine (c48 g base lo 1 bs _ HW1.out (by decide) (by have := HL.out; simp only [List.length_append] at this; omega)).mono ?_
  rintro e w2 ⟨rfl, hw2, b2, k2⟩
  have HW2 := Lib.hid hw2
  have B2 := Lib.hid (B1.out.trans b2)
  have K2 := Lib.hid (K1.out.trans k2)
  have P2 := k2 _ _ _ (by decide) (by decide) P1
  have p1 := P2.cell 1
  clear hw2 b2 k2 P1
  go_wp2_with fail
  refine (c48 g base fr 1 _ _ HW2.out (by decide) (by have := HL.out; simp only [eFn, List.length_append] at this ⊢; omega)).mono ?_
  rintro e w3 ⟨rfl, hw3, b3, k3⟩
  have HW3 := Lib.hid hw3
  have B3 := Lib.hid (B2.out.trans b3)
  have K3 := Lib.hid (K2.out.trans k3)
  have P3 := k3 _ _ _ (by decide) (by decide) P2
  clear hw3 b3 k3 P2 p1
  have p2 := P3.cell 2
  go_wp2_with fail
  refine (c48 g base cd.length 2 _ _ HW3.out (by decide) (by have := HL.out; simp only [eFn, List.length_append] at this ⊢; omega)).mono ?_
  rintro e w4 ⟨rfl, hw4, b4, k4⟩
  have HW4 := Lib.hid hw4
  have B4 := Lib.hid (B3.out.trans b4)
  have K4 := Lib.hid (K3.out.trans k4)
  have P4 := k4 _ _ _ (by decide) (by decide) P3
  clear hw4 b4 k4 P3 p2
  have p2 := P4.cell 2
  go_wp2_with fail
  go_loopw [22] (fun i wr => ∃ (k : Nat) (ws : List UInt8), k ≤ cd.length ∧ i = .int .i64 k ∧ bs ++ eFn ⟨lo, fr, cd⟩ = ws ++ (cd.drop k).flatMap eIns ∧ Hid (WrAt wr base g ws) ∧ Hid (Below base w wr) ∧ Hid (KeptW w wr)) (fun i _ => cd.length - (intOf i).toNat)
  case atStart => exact ⟨0, _, by omega, rfl, by simp only [eFn, List.append_assoc]; rfl, HW4, B4, K4⟩
  case round =>
    obtain ⟨k, ws, hk, rfl, he, HWR, HBR, HKR⟩ := hrel
    have HE := Lib.hid he
    clear he
    by_cases hlt : k < cd.length
    · have hl : (k : Int) < (cd.length : Int) := by omega
      obtain ⟨ad, e, hbl, hcs⟩ := (HR.out.below HBR.out).insAt (List.getElem?_eq_getElem hlt)
      have hgi : insGood cd[k] = true := List.all_eq_true.1 HG.out _ (List.getElem_mem hlt)
      have hxd := drop_at hlt
      generalize cd[k] = y at hcs hxd hgi
      obtain ⟨⟨ho0, ho1⟩, _, _, _⟩ := good_ins hgi
      obtain ⟨o, a, b⟩ := y
      obtain ⟨on, rfl⟩ : ∃ on : Nat, o = on := ⟨o.toNat, by simp only at ho0; omega⟩
      have hon : on < 38 := by simp only at ho1; omega
      have HXD := Lib.hid hxd
      have HCS := Lib.hid hcs
      clear hxd hcs hgi ho0 ho1
      subst e
      have hE2 := Lib.hid (show bs ++ eFn ⟨lo, fr, cd⟩ = ws ++ (eIns ⟨on, a, b⟩ ++ (cd.drop (k + 1)).flatMap eIns) by rw [HE.out, HXD.out, List.flatMap_cons])
      have hlen := Lib.hid (show ws.length + (1 + wid (on : Int)) ≤ 1099511627776 by
        have h1 := HL.out
        rw [hE2.out] at h1
        simp only [List.length_append, eIns, numB_len] at h1
        omega)
      have Q0 := Blk.new wr 23 #[.int .i64 on, .int .i64 a, .int .i64 b]
      have hwr := Lib.hid (HWR.out.alloc (.cells #[.int .i64 on, .int .i64 a, .int .i64 b] 23))
      have hB0 := Lib.hid (HBR.out.trans ((below_new wr (.cells #[.int .i64 on, .int .i64 a, .int .i64 b] 23)).mono HWR.out.1))
      have hK0 := Lib.hid (HKR.out.trans (KeptW.alloc wr (.cells #[.int .i64 on, .int .i64 a, .int .i64 b] 23)))
      go_wp2_with (refine wpList_load_at rfl 23 (.tmp 24) rfl (ad.add (k * 3)) rfl [.int .i64 on, .int .i64 a, .int .i64 b] _ HCS.out Tryd.underlying23 rfl (by kernel_rfl) ?_)
      refine (c48 g base on 1 _ _ hwr.out (by decide) (by have := hlen.out; omega)).mono ?_
      rintro e w5 ⟨rfl, hw5, b5, k5⟩
      have HW5 := Lib.hid hw5
      have B5 := Lib.hid (hB0.out.trans b5)
      have K5 := Lib.hid (hK0.out.trans k5)
      have Q5 := k5 _ _ _ (by decide) (by decide) Q0
      clear hw5 b5 k5
      have q0 := Q5.cell 0
      have q1 := Q5.cell 1
      have t0 := (HT.out.below B5.out h2).wide on hon
      have hon' : (on : Int) < 38 := by omega
      have hon0 : (0 : Int) ≤ (on : Int) := by omega
      go_wp2_with fail
      go_still_tail 7, (by kernel_rfl)
      change wpList _ _ _ _ _ w5.drew
      go_wp2_with fail
      have HW5d : WrAt w5.drew base g (ws ++ numB on 1) := HW5.out
      have hwid : wid (on : Int) ≤ 8 := wid_le _
      refine (c48 g base a (wid (on : Int)) _ _ HW5d hwid (by have := hlen.out; simp only [List.length_append, numB_len]; omega)).mono ?_
      rintro e w6 ⟨rfl, hw6, b6, k6⟩
      have HW6 := Lib.hid hw6
      have B6 := Lib.hid (B5.out.drew.trans b6)
      have K6 := Lib.hid (K5.out.trans ((KeptW.drewN w5 1).trans k6))
      have Q6 := k6 _ _ _ (by decide) (by decide) (Q5.drew)
      clear hw6 b6 k6 HW5d q0 q1 t0
      have q0 := Q6.cell 0
      have q2 := Q6.cell 2
      have t1 := (HT.out.below B6.out h2).second on hon
      cases hsec : sec (on : Int)
      · rw [hsec] at t1
        go_wp2_with fail
        go_roundw
        case rel =>
          refine ⟨k + 1, _, by omega, by go_num, ?_, HW6, B6, K6⟩
          rw [hE2.out]
          simp only [eIns, hsec, List.append_assoc]
          rfl
        case measure => simp [intOf]; omega
      · rw [hsec] at t1
        go_wp2_with fail
        refine (c48 g base b 1 _ _ HW6.out (by decide) (by have := hlen.out; simp only [List.length_append, numB_len]; omega)).mono ?_
        rintro e w7 ⟨rfl, hw7, b7, k7⟩
        have HW7 := Lib.hid hw7
        have B7 := Lib.hid (B6.out.trans b7)
        have K7 := Lib.hid (K6.out.trans k7)
        clear hw7 b7 k7
        go_wp2_with fail
        go_roundw
        case rel =>
          refine ⟨k + 1, _, by omega, by go_num, ?_, HW7, B7, K7⟩
          rw [hE2.out]
          simp only [eIns, hsec, List.append_assoc]
          rfl
        case measure => simp [intOf]; omega
    · have hl : ¬ (k : Int) < (cd.length : Int) := by omega
      go_wp2_with fail
      go_end0
      refine ⟨rfl, ?_, HBR.out, HKR.out⟩
      rw [HE.out, List.drop_eq_nil_of_le (by omega), List.flatMap_nil, List.append_nil]
      exact HWR.out
end Go.Proofs.YtiphicejaljhiaaDoor
