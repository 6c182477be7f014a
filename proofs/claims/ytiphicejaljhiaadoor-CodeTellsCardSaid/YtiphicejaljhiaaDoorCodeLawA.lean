/- The walk of CodeTells: it returns true, whatever the program and the bytes are. -/
import Derived.Test.YtiphicejaljhiaaDoorRfEnc2
import Derived.Test.YtiphicejaljhiaaDoorRfD5
import Derived.Test.YtiphicejaljhiaaDoorDec
import Derived.Test.YtiphicejaljhiaaDoorCWakes
import Derived.Test.YtiphicejaljhiaaDoorKProg
import Derived.Test.YtiphicejaljhiaaDoorOwn
import Derived.Test.YtiphicejaljhiaaDoorLarge
import Derived.Deep.CutRange
import Derived.Deep.CutBlock
import Derived.Deep.DeepCutAuto
namespace Go.Proofs.YtiphicejaljhiaaDoor
open Go.ChangeShapes Go.WideShapes Go.ChangeAt Go.RowKit
set_option linter.unusedSimpArgs false
set_option linter.unusedVariables false
theorem small_pr {q q0 : PrMem} (h : SmallP q0) (e : q.pr = q0.pr) : SmallP q := by
  have e1 : q.L.map (·.fn) = q0.L.map (·.fn) := congrArg Pr.funcs e
  have e2 : q.S = q0.S := congrArg Pr.strs e
  have e3 : q.M.map (·.fm) = q0.M.map (·.fm) := congrArg Pr.forms e
  refine ⟨?_, by rw [e2]; exact h.S, ?_, fun x hx => ?_, fun x hx => ?_⟩
  · have := congrArg List.length e1
    rw [List.length_map, List.length_map] at this
    rw [this]; exact h.F
  · have := congrArg List.length e3
    rw [List.length_map, List.length_map] at this
    rw [this]; exact h.M
  · have hm : x.fn ∈ q0.L.map (·.fn) := by rw [← e1]; exact List.mem_map.2 ⟨x, hx, rfl⟩
    obtain ⟨y, hy, e⟩ := List.mem_map.1 hm
    rw [← e]; exact h.f y hy
  · have hm : x.fm ∈ q0.M.map (·.fm) := by rw [← e3]; exact List.mem_map.2 ⟨x, hx, rfl⟩
    obtain ⟨y, hy, e⟩ := List.mem_map.1 hm
    rw [← e]; exact h.m y hy
theorem bytes_eq {l : List UInt8} {n c c' B B' : Nat} {A A' : Option Addr} {w : World} (hn : l.length = n) (h : Reads w B 1 A n (cellsB l)) (h' : Reads w B' 1 A' n (cellsB l)) :
    Calls Tryd.prog 34 #[.slice A n c, .slice A' n c'] w fun e w' => e = .returned (.bool true) ∧ Below w.heap.size w w' := by
  subst hn
  exact (c34 l l A A' c c' B B' w h h').mono fun e w' ⟨he, hw⟩ => ⟨by rw [he, beq_self_eq_true], hw ▸ Below.refl _ _⟩
set_option maxRecDepth 100000 in
set_option maxHeartbeats 8000000 in
theorem c7 (q0 : PrMem) (b : List UInt8) (Ab : Option Addr) (cb : Nat) (w : World) (ht : CodeTab w) (hq : PrOk w w.heap.size q0) (hb : Reads w w.heap.size 1 Ab b.length (cellsB b)) (hbl : b.length ≤ cb) (hbc : cb ≤ maxLen) (hz : SizedP q0) :
    Calls Tryd.prog 7 #[q0.val, .slice Ab b.length cb] w fun e w' => e = .returned (.bool true) ∧ Below w.heap.size w w' := by
  have HT := Lib.hid ht
  have HZ := Lib.hid hz
  have HBL := Lib.hid hbl
  have HBC := Lib.hid hbc
  have hbx : b.length ≤ maxLen := by omega
  unfold maxLen at hbx
  obtain ⟨AF, cF, L, AS, cS, S, AM, cM, M⟩ := q0
  simp only [PrMem.val]
  have P1 := Blk.new w 42 #[.slice AF L.length cF, .slice AS S.length cS, .slice AM M.length cM]
  have B1 := Lib.hid (below_new w (.cells #[.slice AF L.length cF, .slice AS S.length cS, .slice AM M.length cM] 42))
  have Q1 := Lib.hid (hq.next B1.out)
  have HRB := Lib.hid hb
  clear hq ht hz hb hbl hbc
  go_enter Tryd.func7, Tryd.ntmps7
  go_wp2_with fail
  refine (c25 _ _ Q1.out).mono ?_
  rintro e w2 ⟨rfl, b2⟩
  have B2 := Lib.hid (next_ B1.out b2)
  have Q2 := Lib.hid (Q1.out.next b2)
  have P2 := P1.next b2
  clear b2 P1
  have n0 := P2.cell 0
  have n1 := P2.cell 1
  have n2 := P2.cell 2
  cases hbig : gLarge _
  case true =>
    clear hbig
    go_wp2_with fail
    refine (c26 w2 (HT.out.next B2.out)).mono ?_
    rintro e w3 ⟨rfl, b3⟩
    go_wp2_with fail
    go_ret
    exact ⟨by simp, next_ B2.out b3⟩
  case false =>
    have HS := Lib.hid (small_of hbig HZ.out)
    clear hbig
    by_cases hb6 : 6000 < b.length
    · have f6 : decide ((6000 : Int) < (b.length : Int)) = true := decide_eq_true (by omega)
      clear hb6
      go_wp2_with fail
      refine (c26 w2 (HT.out.next B2.out)).mono ?_
      rintro e w3 ⟨rfl, b3⟩
      go_wp2_with fail
      go_ret
      exact ⟨by simp, next_ B2.out b3⟩
    have f6 : decide ((6000 : Int) < (b.length : Int)) = false := decide_eq_false (by omega)
    have HB6 := Lib.hid (show b.length ≤ 6000 by omega)
    clear hb6
    generalize hpr : (PrMem.mk AF cF L AS cS S AM cM M).pr = p
    have HP := Lib.hid hpr
    clear hpr
    go_wp2_with fail
    have hc := c27 (PrMem.mk AF cF L AS cS S AM cM M) HS.out w2 Q2.out
    simp only [PrMem.val] at hc
    refine hc.mono ?_
    clear hc
    rintro e w3 ⟨q1, rfl, hp1, ho1, b3⟩
    have QI3 := Lib.hid (ho1.ok (small_pr HS.out hp1))
    rw [HP.out] at hp1
    have HP1 := Lib.hid hp1
    have B3 := Lib.hid (next_ B2.out b3)
    have Q3 := Lib.hid (Q2.out.next b3)
    have P3 := P2.next b3
    clear hp1 ho1 b3 P2 n0 n1 n2
    obtain ⟨AF1, cF1, L1, AS1, cS1, S1, AM1, cM1, M1⟩ := q1
    simp only [PrMem.val]
    have B4 := Lib.hid (next_ B3.out (below_new w3 (.cells #[.slice AF1 L1.length cF1, .slice AS1 S1.length cS1, .slice AM1 M1.length cM1] 42)))
    have QI4 := Lib.hid (QI3.out.next (below_new w3 (.cells #[.slice AF1 L1.length cF1, .slice AS1 S1.length cS1, .slice AM1 M1.length cM1] 42)))
    have Q4 := Lib.hid (Q3.out.next (below_new w3 (.cells #[.slice AF1 L1.length cF1, .slice AS1 S1.length cS1, .slice AM1 M1.length cM1] 42)))
    have P4 := P3.alloc (.cells #[.slice AF1 L1.length cF1, .slice AS1 S1.length cS1, .slice AM1 M1.length cM1] 42)
    have I4 := Blk.new w3 42 #[.slice AF1 L1.length cF1, .slice AS1 S1.length cS1, .slice AM1 M1.length cM1]
    clear P3
    have hc := c28 (PrMem.mk AF1 cF1 L1 AS1 cS1 S1 AM1 cM1 M1) _ (HT.out.next B4.out) QI4.out
    rw [HP1.out] at hc
    simp only [PrMem.val] at hc
    have n0 := I4.cell 0
    have n1 := I4.cell 1
    have n2 := I4.cell 2
    go_wp2_with fail
    refine hc.mono ?_
    clear hc n0 n1 n2
    rintro e w5 ⟨v5, rfl, ho5, b5⟩
    obtain ⟨a5, c5, rfl⟩ := own_form ho5
    have R5 := Lib.hid (Reads.of_own ho5)
    have B5 := Lib.hid (next_ B4.out b5)
    have Q5 := Lib.hid (Q4.out.next b5)
    have QI5 := Lib.hid (QI4.out.next b5)
    have P5 := P4.next b5
    have I5 := I4.next b5
    clear P4 I4 b5 ho5
    have n0 := P5.cell 0
    have n1 := P5.cell 1
    have n2 := P5.cell 2
    have hc := c29 (PrMem.mk AF cF L AS cS S AM cM M) w5 Q5.out
    rw [HP.out] at hc
    simp only [PrMem.val] at hc
    obtain ⟨ok, hok⟩ : ∃ ok, ok = gPr p := ⟨_, rfl⟩
    rw [← hok]
    have HOK := Lib.hid hok
    clear hok
    generalize hN : (gEnc p).length = n5 at R5 ⊢
    have hN5 := hN
    have HN5 := Lib.hid hN
    clear hN
    go_wp2_with fail
    refine hc.mono ?_
    clear hc
    rintro e w6 ⟨rfl, b6⟩
    have B6 := Lib.hid b6
    have P6 := P5.next b6
    clear b6 n0 n1 n2
    go_upto_if 28 with fail
    go_cut [8] (fun cv wx => ∃ a c, cv = .slice a n5 c ∧ Reads wx wx.heap.size 1 a n5 (cellsB (gEnc p)) ∧ Below w5.heap.size w5 wx)
    case first =>
      cases hg : gPr p
      · have hE : gEnc p = [] := by unfold gEnc; rw [hg]; rfl
        have h0 : n5 = 0 := by rw [← HN5.out, hE]; rfl
        subst h0
        as_aux_lemma =>
          go_wp2_with fail
          go_meet
          exact ⟨none, 0, rfl, by rw [hE]; exact Reads.none_, B6.out⟩
      · have hE : gEnc p = ePr p := by unfold gEnc; rw [hg]; rfl
        have n0 := P6.cell 0
        have n1 := P6.cell 1
        have n2 := P6.cell 2
        have hc := c30 (PrMem.mk AF cF L AS cS S AM cM M) w6 (Q5.out.next B6.out) (by rw [HP.out]; exact hg)
        rw [HP.out, ← hE, HN5.out] at hc
        simp only [PrMem.val] at hc
        clear hg hE
        go_wp2_with fail
        refine hc.mono ?_
        clear hc
        rintro e w7 ⟨v7, rfl, ho7, b7⟩
        obtain ⟨a7, c7, rfl⟩ := own_form ho7
        go_wp2_with fail
        go_meet
        exact ⟨a7, c7, rfl, Reads.of_own ho7, next_ B6.out b7⟩
    case rest =>
      obtain ⟨a7, c7, rfl, hr7, b7⟩ := hcut
      obtain ⟨w7, rfl⟩ : ∃ w7 : World, w7 = wc := ⟨_, rfl⟩
      have B7 := Lib.hid (next_ B5.out b7)
      have R57 := Lib.hid ((R5.out.below b7).more b7.size)
      have R77 := Lib.hid hr7
      have Q7 := Lib.hid (Q5.out.next b7)
      have QI7 := Lib.hid (QI5.out.next b7)
      have P7 := P5.next b7
      have I7 := I5.next b7
      have RB7 := Lib.hid ((HRB.out.below B7.out).more B7.out.size)
      clear P5 I5 P6 b7 hr7
      have C8 := Lib.hid (below_new w7 (.cells #[] 5))
      have RB8 := Lib.hid (RB7.out.below C8.out)
      have O8 := Lib.hid (show (w7.alloc (.cells #[] 5)).ownsRow w7.heap.size 5 1 (.slice (some ⟨w7.heap.size, 0, none⟩) 0 0) 0 [] from ⟨rfl, .inr ⟨w7.heap.size, 0, #[], rfl, Nat.le_refl _, heap_alloc_new w7 (.cells #[] 5), Nat.le_refl _, Nat.zero_le _, rfl, rfl⟩⟩)
      obtain ⟨i0, hi0, hz0, hz1, hz2⟩ := info_parts u8_info
      have hb6 := HB6.out
      go_wp2_with (first
        | (at_builtin; refine wpList_append_any _ rfl (.tmp 32) (.tmp 33) _ rfl w7.heap.size 5 i0 _ 1 1 Tryd.underlying43 hi0 hz0 hz1 hz2 rfl (by omega) _ 0 [] rfl O8.out w7.heap.size Ab b.length cb (cellsB b) rfl RB8.out (by intro u hu; unfold cellsB at hu; obtain ⟨b, _, rfl⟩ := List.mem_map.1 hu; rfl) (by unfold maxLen; omega) (by omega) (by rw [World.size_alloc]; omega) ?_; intro v8 w8 hown8 hg8 hat8; rw [Nat.zero_add, List.nil_append] at hown8; obtain ⟨a8, c8, rfl⟩ := own_form hown8))
      have D8 := Lib.hid (C8.out.grown hg8 C8.out.size (fun j e => by have := (O8.out.lt j e).1; omega))
      have B8 := Lib.hid (next_ B7.out D8.out)
      have R8 := Lib.hid (Reads.of_own hown8)
      clear hown8 hg8 hat8
      refine (c31 b a8 c8 w8 (HT.out.next B8.out) R8.out (by have := HB6.out; omega)).mono ?_
      rintro e w9 ⟨q2, rfl, hq2, hok2, b9⟩
      have D9 := Lib.hid (next_ D8.out b9)
      have HP2 := Lib.hid hq2
      have QD9 := Lib.hid hok2
      clear b9 hq2 hok2
      obtain ⟨AF2, cF2, L2, AS2, cS2, S2, AM2, cM2, M2⟩ := q2
      simp only [PrMem.val]
      have D10 := Lib.hid (next_ D9.out (below_new w9 (.cells #[.slice AF2 L2.length cF2, .slice AS2 S2.length cS2, .slice AM2 M2.length cM2] 42)))
      have QD10 := Lib.hid (QD9.out.next (below_new w9 (.cells #[.slice AF2 L2.length cF2, .slice AS2 S2.length cS2, .slice AM2 M2.length cM2] 42)))
      have N10 := Blk.new w9 42 #[.slice AF2 L2.length cF2, .slice AS2 S2.length cS2, .slice AM2 M2.length cM2]
      have RB10 := Lib.hid ((RB7.out.below D10.out).more D10.out.size)
      go_wp2_with fail
      refine (c32 b Ab cb _ RB10.out HBL.out HBC.out (by have := HB6.out; omega)).mono ?_
      rintro e wa ⟨AF3, cF3, L3, AS3, cS3, S3, AM3, cM3, M3, rfl, hp3, hok3, ba⟩
      have HP3 := Lib.hid hp3
      have Da := Lib.hid (next_ D10.out (next_ ba (below_new wa (.cells #[.slice AF3 L3.length cF3, .slice AS3 S3.length cS3, .slice AM3 M3.length cM3, .bool (dec b).isSome] 52))))
      have QG := Lib.hid (hok3.next (below_new wa (.cells #[.slice AF3 L3.length cF3, .slice AS3 S3.length cS3, .slice AM3 M3.length cM3, .bool (dec b).isSome] 52)))
      have QD := Lib.hid (QD10.out.next (next_ ba (below_new wa (.cells #[.slice AF3 L3.length cF3, .slice AS3 S3.length cS3, .slice AM3 M3.length cM3, .bool (dec b).isSome] 52))))
      have Nb := N10.next (next_ ba (below_new wa (.cells #[.slice AF3 L3.length cF3, .slice AS3 S3.length cS3, .slice AM3 M3.length cM3, .bool (dec b).isSome] 52)))
      have Gb := Blk.new wa 52 #[.slice AF3 L3.length cF3, .slice AS3 S3.length cS3, .slice AM3 M3.length cM3, .bool (dec b).isSome]
      have Bb := Lib.hid (next_ B7.out Da.out)
      have R5 := Lib.hid ((R57.out.below Da.out).more Da.out.size)
      have R7 := Lib.hid ((R77.out.below Da.out).more Da.out.size)
      have QP := Lib.hid (Q7.out.next Da.out)
      have QI := Lib.hid (QI7.out.next Da.out)
      have Pb := P7.next Da.out
      have Ib := I7.next Da.out
      clear ba hp3 hok3 N10 P7 I7
      have hok := HOK.out
      subst hok
      go_upto_region 10 with fail
      generalize hwb : wa.alloc (.cells #[.slice AF3 L3.length cF3, .slice AS3 S3.length cS3, .slice AM3 M3.length cM3, .bool (dec b).isSome] 52) = wb at Da QG QD Nb Gb Bb R5 R7 QP QI Pb Ib
      clear hwb
      have KS := Lib.hid (show ∀ V, Below wb.heap.size wb V → (V.cell? ⟨w.heap.size, 0, none⟩ = some (.slice AF L.length cF) ∧ V.cell? ⟨w.heap.size, 1, none⟩ = some (.slice AS S.length cS) ∧ V.cell? ⟨w.heap.size, 2, none⟩ = some (.slice AM M.length cM) ∧ V.cell? ⟨w3.heap.size, 0, none⟩ = some (.slice AF1 L1.length cF1) ∧ V.cell? ⟨w3.heap.size, 1, none⟩ = some (.slice AS1 S1.length cS1) ∧ V.cell? ⟨w3.heap.size, 2, none⟩ = some (.slice AM1 M1.length cM1) ∧ V.cell? ⟨w9.heap.size, 0, none⟩ = some (.slice AF2 L2.length cF2) ∧ V.cell? ⟨w9.heap.size, 1, none⟩ = some (.slice AS2 S2.length cS2) ∧ V.cell? ⟨w9.heap.size, 2, none⟩ = some (.slice AM2 M2.length cM2) ∧ V.cell? ⟨wa.heap.size, 0, none⟩ = some (.slice AF3 L3.length cF3) ∧ V.cell? ⟨wa.heap.size, 1, none⟩ = some (.slice AS3 S3.length cS3) ∧ V.cell? ⟨wa.heap.size, 2, none⟩ = some (.slice AM3 M3.length cM3) ∧ V.cell? ⟨wa.heap.size, 3, none⟩ = some (.bool (dec b).isSome)) from fun V h => ⟨(Pb.next h).cell 0, (Pb.next h).cell 1, (Pb.next h).cell 2, (Ib.next h).cell 0, (Ib.next h).cell 1, (Ib.next h).cell 2, (Nb.next h).cell 0, (Nb.next h).cell 1, (Nb.next h).cell 2, (Gb.next h).cell 0, (Gb.next h).cell 1, (Gb.next h).cell 2, (Gb.next h).cell 3⟩)
      clear Nb Gb Pb Ib
      have Ld := Lib.hid ((Below.refl wb.heap.size wb).drew)
      refine wp_region_held_drew (S := fun V => V.cell? ⟨w.heap.size, 0, none⟩ = some (.slice AF L.length cF) ∧ V.cell? ⟨w.heap.size, 1, none⟩ = some (.slice AS S.length cS) ∧ V.cell? ⟨w.heap.size, 2, none⟩ = some (.slice AM M.length cM) ∧ V.cell? ⟨w3.heap.size, 0, none⟩ = some (.slice AF1 L1.length cF1) ∧ V.cell? ⟨w3.heap.size, 1, none⟩ = some (.slice AS1 S1.length cS1) ∧ V.cell? ⟨w3.heap.size, 2, none⟩ = some (.slice AM1 M1.length cM1) ∧ V.cell? ⟨w9.heap.size, 0, none⟩ = some (.slice AF2 L2.length cF2) ∧ V.cell? ⟨w9.heap.size, 1, none⟩ = some (.slice AS2 S2.length cS2) ∧ V.cell? ⟨w9.heap.size, 2, none⟩ = some (.slice AM2 M2.length cM2) ∧ V.cell? ⟨wa.heap.size, 0, none⟩ = some (.slice AF3 L3.length cF3) ∧ V.cell? ⟨wa.heap.size, 1, none⟩ = some (.slice AS3 S3.length cS3) ∧ V.cell? ⟨wa.heap.size, 2, none⟩ = some (.slice AM3 M3.length cM3) ∧ V.cell? ⟨wa.heap.size, 3, none⟩ = some (.bool (dec b).isSome)) (by kernel_rfl) (KS.out _ Ld.out) (fun hHeld => ?_)
      generalize wb.drew = d at Ld hHeld ⊢
      refine wpAnyH_take (i := 0) (oi := ⟨some 40, _, _, _, _, _⟩) (v := ?_) rfl (by kernel_rfl) (by kernel_rfl) (by kernel_rfl) (fun _ _ _ h => h) (Or.inl ⟨by kernel_rfl, ?_⟩) (by assumption) ?_
      rotate_left
      · intro w hSw
        go_simp
        try with_reducible rfl
      try simp only [Act.put, List.setIfInBounds_toArray, List.set_cons_zero, List.set_cons_succ]
      refine wpAnyH_take (i := 2) (oi := ⟨some 42, _, _, _, _, _⟩) (v := ?_) rfl (by kernel_rfl) (by kernel_rfl) (by kernel_rfl) (fun _ _ _ h => h) (Or.inl ⟨by kernel_rfl, ?_⟩) (by assumption) ?_
      rotate_left
      · intro w hSw
        go_simp
        try with_reducible rfl
      try simp only [Act.put, List.setIfInBounds_toArray, List.set_cons_zero, List.set_cons_succ]
      refine wpAnyH_ready (rs := [1]) (by kernel_rfl) (by simp) ?_
      refine AllReadyH.cons (o := ⟨some 41, _, _, _, _, _⟩) rfl (fun K hK => ?_) AllReadyH.nil
      have hc := c33 (PrMem.mk AF1 cF1 L1 AS1 cS1 S1 AM1 cM1 M1) d (HT.out.next (next_ Bb.out Ld.out)).op (QI.out.next Ld.out)
      rw [HP1.out] at hc
      refine step_callw (by kernel_rfl) 33 #[.tmp 40] #[42] (by rfl) Tryd.f33 Tryd.func33 (by kernel_rfl) (by kernel_rfl) #[.agg #[.slice AF1 L1.length cF1, .slice AS1 S1.length cS1, .slice AM1 M1.length cM1]] (by rfl) hc ?_
      rintro e d1 ⟨rfl, bd1⟩
      refine ⟨_, rfl, ?_⟩
      have Ld1 := Lib.hid (next_ Ld.out bd1)
      clear bd1 hc
      refine hK.out _ _ ?_ (fun hHeld => ?_)
      · exact KS.out _ Ld1.out
      clear hK K
      try simp only [Act.put, List.setIfInBounds_toArray, List.set_cons_zero, List.set_cons_succ]
      refine wpAnyH_ready (rs := [3]) (by kernel_rfl) (by simp) ?_
      refine AllReadyH.cons (o := ⟨some 43, _, _, _, _, _⟩) rfl (fun K hK => ?_) AllReadyH.nil
      have hc := c29 (PrMem.mk AF cF L AS cS S AM cM M) d1 (QP.out.next Ld1.out)
      rw [HP.out] at hc
      refine step_callw (by kernel_rfl) 29 #[.tmp 42] #[42] (by rfl) Tryd.f29 Tryd.func29 (by kernel_rfl) (by kernel_rfl) #[.agg #[.slice AF L.length cF, .slice AS S.length cS, .slice AM M.length cM]] (by rfl) hc ?_
      rintro e d2 ⟨rfl, bd2⟩
      refine ⟨_, rfl, ?_⟩
      have Ld2 := Lib.hid (next_ Ld1.out bd2)
      clear bd2 hc
      refine hK.out _ _ ?_ (fun hHeld => ?_)
      · exact KS.out _ Ld2.out
      clear hK K
      try simp only [Act.put, List.setIfInBounds_toArray, List.set_cons_zero, List.set_cons_succ]
      refine wpAnyH_take (i := 4) (oi := ⟨some 44, _, _, _, _, _⟩) (v := ?_) rfl (by kernel_rfl) (by kernel_rfl) (by kernel_rfl) (fun _ _ _ h => h) (Or.inl ⟨by kernel_rfl, ?_⟩) (by assumption) ?_
      rotate_left
      · intro w hSw
        go_simp
        try with_reducible rfl
      try simp only [Act.put, List.setIfInBounds_toArray, List.set_cons_zero, List.set_cons_succ]
      refine wpAnyH_take (i := 5) (oi := ⟨some 45, _, _, _, _, _⟩) (v := ?_) rfl (by kernel_rfl) (by kernel_rfl) (by kernel_rfl) (fun _ _ _ h => h) (Or.inl ⟨by kernel_rfl, ?_⟩) (by assumption) ?_
      rotate_left
      · intro w hSw
        go_simp
        try with_reducible rfl
      try simp only [Act.put, List.setIfInBounds_toArray, List.set_cons_zero, List.set_cons_succ]
      refine wpAnyH_take (i := 6) (oi := ⟨some 46, _, _, _, _, _⟩) (v := ?_) rfl (by kernel_rfl) (by kernel_rfl) (by kernel_rfl) (fun _ _ _ h => h) (Or.inl ⟨by kernel_rfl, ?_⟩) (by assumption) ?_
      rotate_left
      · intro w hSw
        go_simp
        try with_reducible rfl
      try simp only [Act.put, List.setIfInBounds_toArray, List.set_cons_zero, List.set_cons_succ]
      refine wpAnyH_take (i := 7) (oi := ⟨some 47, _, _, _, _, _⟩) (v := ?_) rfl (by kernel_rfl) (by kernel_rfl) (by kernel_rfl) (fun _ _ _ h => h) (Or.inl ⟨by kernel_rfl, ?_⟩) (by assumption) ?_
      rotate_left
      · intro w hSw
        go_simp
        try with_reducible rfl
      try simp only [Act.put, List.setIfInBounds_toArray, List.set_cons_zero, List.set_cons_succ]
      refine wpAnyH_ready (rs := [8]) (by kernel_rfl) (by simp) ?_
      refine AllReadyH.cons (o := ⟨some 48, _, _, _, _, _⟩) rfl (fun K hK => ?_) AllReadyH.nil
      have hc := bytes_eq (c := c5) (c' := c7) hN5 (R5.out.below Ld2.out) (R7.out.below Ld2.out)
      refine step_callw (by kernel_rfl) 34 #[.tmp 46, .tmp 47] #[43, 43] (by rfl) Tryd.f34 Tryd.func34 (by kernel_rfl) (by kernel_rfl) #[.slice a5 n5 c5, .slice a7 n5 c7] (by rfl) hc ?_
      rintro e d3 ⟨rfl, bd3⟩
      refine ⟨_, rfl, ?_⟩
      have Ld3 := Lib.hid (next_ Ld2.out bd3)
      clear bd3 hc
      refine hK.out _ _ ?_ (fun hHeld => ?_)
      · exact KS.out _ Ld3.out
      clear hK K
      try simp only [Act.put, List.setIfInBounds_toArray, List.set_cons_zero, List.set_cons_succ]
      refine wpAnyH_take (i := 9) (oi := ⟨some 49, _, _, _, _, _⟩) (v := ?_) rfl (by kernel_rfl) (by kernel_rfl) (by kernel_rfl) (fun _ _ _ h => h) (Or.inl ⟨by kernel_rfl, ?_⟩) (by assumption) ?_
      rotate_left
      · intro w hSw
        go_simp
        try with_reducible rfl
      try simp only [Act.put, List.setIfInBounds_toArray, List.set_cons_zero, List.set_cons_succ]
      refine wpAnyH_take (i := 10) (oi := ⟨some 50, _, _, _, _, _⟩) (v := ?_) rfl (by kernel_rfl) (by kernel_rfl) (by kernel_rfl) (fun _ _ _ h => h) (Or.inl ⟨by kernel_rfl, ?_⟩) (by assumption) ?_
      rotate_left
      · intro w hSw
        go_simp
        try with_reducible rfl
      try simp only [Act.put, List.setIfInBounds_toArray, List.set_cons_zero, List.set_cons_succ]
      refine wpAnyH_take (i := 11) (oi := ⟨some 51, _, _, _, _, _⟩) (v := ?_) rfl (by kernel_rfl) (by kernel_rfl) (by kernel_rfl) (fun _ _ _ h => h) (Or.inl ⟨by kernel_rfl, ?_⟩) (by assumption) ?_
      rotate_left
      · intro w hSw
        go_simp
        try with_reducible rfl
      try simp only [Act.put, List.setIfInBounds_toArray, List.set_cons_zero, List.set_cons_succ]
      refine wpAnyH_take (i := 12) (oi := ⟨some 52, _, _, _, _, _⟩) (v := ?_) rfl (by kernel_rfl) (by kernel_rfl) (by kernel_rfl) (fun _ _ _ h => h) (Or.inl ⟨by kernel_rfl, ?_⟩) (by assumption) ?_
      rotate_left
      · intro w hSw
        go_simp
        try with_reducible rfl
      try simp only [Act.put, List.setIfInBounds_toArray, List.set_cons_zero, List.set_cons_succ]
      refine wpAnyH_ready (rs := [13]) (by kernel_rfl) (by simp) ?_
      refine AllReadyH.cons (o := ⟨some 53, _, _, _, _, _⟩) rfl (fun K hK => ?_) AllReadyH.nil
      have hc := c29 (PrMem.mk AF cF L AS cS S AM cM M) d3 (QP.out.next Ld3.out)
      rw [HP.out] at hc
      refine step_callw (by kernel_rfl) 29 #[.tmp 52] #[42] (by rfl) Tryd.f29 Tryd.func29 (by kernel_rfl) (by kernel_rfl) #[.agg #[.slice AF L.length cF, .slice AS S.length cS, .slice AM M.length cM]] (by rfl) hc ?_
      rintro e d4 ⟨rfl, bd4⟩
      refine ⟨_, rfl, ?_⟩
      have Ld4 := Lib.hid (next_ Ld3.out bd4)
      clear bd4 hc
      refine hK.out _ _ ?_ (fun hHeld => ?_)
      · exact KS.out _ Ld4.out
      clear hK K
      try simp only [Act.put, List.setIfInBounds_toArray, List.set_cons_zero, List.set_cons_succ]
      refine wpAnyH_take (i := 14) (oi := ⟨some 54, _, _, _, _, _⟩) (v := ?_) rfl (by kernel_rfl) (by kernel_rfl) (by kernel_rfl) (fun _ _ _ h => h) (Or.inl ⟨by kernel_rfl, ?_⟩) (by assumption) ?_
      rotate_left
      · intro w hSw
        go_simp
        try with_reducible rfl
      try simp only [Act.put, List.setIfInBounds_toArray, List.set_cons_zero, List.set_cons_succ]
      refine wpAnyH_take (i := 15) (oi := ⟨some 55, _, _, _, _, _⟩) (v := ?_) rfl (by kernel_rfl) (by kernel_rfl) (by kernel_rfl) (fun _ _ _ h => h) (Or.inl ⟨by kernel_rfl, ?_⟩) (by assumption) ?_
      rotate_left
      · intro w hSw
        go_simp
        try with_reducible rfl
      try simp only [Act.put, List.setIfInBounds_toArray, List.set_cons_zero, List.set_cons_succ]
      refine wpAnyH_take (i := 16) (oi := ⟨some 56, _, _, _, _, _⟩) (v := ?_) rfl (by kernel_rfl) (by kernel_rfl) (by kernel_rfl) (fun _ _ _ h => h) (Or.inl ⟨by kernel_rfl, ?_⟩) (by assumption) ?_
      rotate_left
      · intro w hSw
        go_simp
        try with_reducible rfl
      try simp only [Act.put, List.setIfInBounds_toArray, List.set_cons_zero, List.set_cons_succ]
      refine wpAnyH_take (i := 17) (oi := ⟨some 57, _, _, _, _, _⟩) (v := ?_) rfl (by kernel_rfl) (by kernel_rfl) (by kernel_rfl) (fun _ _ _ h => h) (Or.inl ⟨by kernel_rfl, ?_⟩) (by assumption) ?_
      rotate_left
      · intro w hSw
        go_simp
        try with_reducible rfl
      try simp only [Act.put, List.setIfInBounds_toArray, List.set_cons_zero, List.set_cons_succ]
      refine wpAnyH_take (i := 18) (oi := ⟨some 58, _, _, _, _, _⟩) (v := ?_) rfl (by kernel_rfl) (by kernel_rfl) (by kernel_rfl) (fun _ _ _ h => h) (Or.inl ⟨by kernel_rfl, ?_⟩) (by assumption) ?_
      rotate_left
      · intro w hSw
        go_simp
        try with_reducible rfl
      try simp only [Act.put, List.setIfInBounds_toArray, List.set_cons_zero, List.set_cons_succ]
      refine wpAnyH_take (i := 19) (oi := ⟨some 59, _, _, _, _, _⟩) (v := ?_) rfl (by kernel_rfl) (by kernel_rfl) (by kernel_rfl) (fun _ _ _ h => h) (Or.inl ⟨by kernel_rfl, ?_⟩) (by assumption) ?_
      rotate_left
      · intro w hSw
        go_simp
        try with_reducible rfl
      try simp only [Act.put, List.setIfInBounds_toArray, List.set_cons_zero, List.set_cons_succ]
      refine wpAnyH_ready (rs := [20]) (by kernel_rfl) (by simp) ?_
      refine AllReadyH.cons (o := ⟨some 60, _, _, _, _, _⟩) rfl (fun K hK => ?_) AllReadyH.nil
      have hc := c35 (PrMem.mk AF2 cF2 L2 AS2 cS2 S2 AM2 cM2 M2) (PrMem.mk AF3 cF3 L3 AS3 cS3 S3 AM3 cM3 M3) true ⟨fun _ => by rw [HP2.out, HP3.out], fun _ => rfl⟩ d4 (QD.out.next Ld4.out) (QG.out.next Ld4.out)
      refine step_callw (by kernel_rfl) 35 #[.tmp 57, .tmp 59] #[42, 42] (by rfl) Tryd.f35 Tryd.func35 (by kernel_rfl) (by kernel_rfl) #[.agg #[.slice AF2 L2.length cF2, .slice AS2 S2.length cS2, .slice AM2 M2.length cM2], .agg #[.slice AF3 L3.length cF3, .slice AS3 S3.length cS3, .slice AM3 M3.length cM3]] (by rfl) hc ?_
      rintro e d5 ⟨rfl, bd5⟩
      refine ⟨_, rfl, ?_⟩
      have Ld5 := Lib.hid (next_ Ld4.out bd5)
      clear bd5 hc
      refine hK.out _ _ ?_ (fun hHeld => ?_)
      · exact KS.out _ Ld5.out
      clear hK K
      try simp only [Act.put, List.setIfInBounds_toArray, List.set_cons_zero, List.set_cons_succ]
      refine wpAnyH_take (i := 21) (oi := ⟨some 61, _, _, _, _, _⟩) (v := ?_) rfl (by kernel_rfl) (by kernel_rfl) (by kernel_rfl) (fun _ _ _ h => h) (Or.inl ⟨by kernel_rfl, ?_⟩) (by assumption) ?_
      rotate_left
      · intro w hSw
        go_simp
        try with_reducible rfl
      try simp only [Act.put, List.setIfInBounds_toArray, List.set_cons_zero, List.set_cons_succ]
      refine wpAnyH_take (i := 22) (oi := ⟨some 62, _, _, _, _, _⟩) (v := ?_) rfl (by kernel_rfl) (by kernel_rfl) (by kernel_rfl) (fun _ _ _ h => h) (Or.inl ⟨by kernel_rfl, ?_⟩) (by assumption) ?_
      rotate_left
      · intro w hSw
        go_simp
        try with_reducible rfl
      try simp only [Act.put, List.setIfInBounds_toArray, List.set_cons_zero, List.set_cons_succ]
      refine wpAnyH_take (i := 23) (oi := ⟨some 63, _, _, _, _, _⟩) (v := ?_) rfl (by kernel_rfl) (by kernel_rfl) (by kernel_rfl) (fun _ _ _ h => h) (Or.inl ⟨by kernel_rfl, ?_⟩) (by assumption) ?_
      rotate_left
      · intro w hSw
        go_simp
        try with_reducible rfl
      try simp only [Act.put, List.setIfInBounds_toArray, List.set_cons_zero, List.set_cons_succ]
      refine wpAnyH_take (i := 24) (oi := ⟨some 64, _, _, _, _, _⟩) (v := ?_) rfl (by kernel_rfl) (by kernel_rfl) (by kernel_rfl) (fun _ _ _ h => h) (Or.inl ⟨by kernel_rfl, ?_⟩) (by assumption) ?_
      rotate_left
      · intro w hSw
        go_simp
        try with_reducible rfl
      try simp only [Act.put, List.setIfInBounds_toArray, List.set_cons_zero, List.set_cons_succ]
      refine wpAnyH_take (i := 25) (oi := ⟨some 65, _, _, _, _, _⟩) (v := ?_) rfl (by kernel_rfl) (by kernel_rfl) (by kernel_rfl) (fun _ _ _ h => h) (Or.inl ⟨by kernel_rfl, ?_⟩) (by assumption) ?_
      rotate_left
      · intro w hSw
        go_simp
        try with_reducible rfl
      try simp only [Act.put, List.setIfInBounds_toArray, List.set_cons_zero, List.set_cons_succ]
      refine wpAnyH_take (i := 26) (oi := ⟨some 66, _, _, _, _, _⟩) (v := ?_) rfl (by kernel_rfl) (by kernel_rfl) (by kernel_rfl) (fun _ _ _ h => h) (Or.inl ⟨by kernel_rfl, ?_⟩) (by assumption) ?_
      rotate_left
      · intro w hSw
        go_simp
        try with_reducible rfl
      try simp only [Act.put, List.setIfInBounds_toArray, List.set_cons_zero, List.set_cons_succ]
      refine wpAnyH_take (i := 27) (oi := ⟨some 67, _, _, _, _, _⟩) (v := ?_) rfl (by kernel_rfl) (by kernel_rfl) (by kernel_rfl) (fun _ _ _ h => h) (Or.inl ⟨by kernel_rfl, ?_⟩) (by assumption) ?_
      rotate_left
      · intro w hSw
        go_simp
        try with_reducible rfl
      try simp only [Act.put, List.setIfInBounds_toArray, List.set_cons_zero, List.set_cons_succ]
      refine wpAnyH_take (i := 28) (oi := ⟨some 68, _, _, _, _, _⟩) (v := ?_) rfl (by kernel_rfl) (by kernel_rfl) (by kernel_rfl) (fun _ _ _ h => h) (Or.inl ⟨by kernel_rfl, ?_⟩) (by assumption) ?_
      rotate_left
      · intro w hSw
        go_simp
        try with_reducible rfl
      try simp only [Act.put, List.setIfInBounds_toArray, List.set_cons_zero, List.set_cons_succ]
      refine wpAnyH_take (i := 29) (oi := ⟨some 69, _, _, _, _, _⟩) (v := ?_) rfl (by kernel_rfl) (by kernel_rfl) (by kernel_rfl) (fun _ _ _ h => h) (Or.inl ⟨by kernel_rfl, ?_⟩) (by assumption) ?_
      rotate_left
      · intro w hSw
        go_simp
        try with_reducible rfl
      try simp only [Act.put, List.setIfInBounds_toArray, List.set_cons_zero, List.set_cons_succ]
      refine wpAnyH_take (i := 30) (oi := ⟨some 70, _, _, _, _, _⟩) (v := ?_) rfl (by kernel_rfl) (by kernel_rfl) (by kernel_rfl) (fun _ _ _ h => h) (Or.inl ⟨by kernel_rfl, ?_⟩) (by assumption) ?_
      rotate_left
      · intro w hSw
        go_simp
        try with_reducible rfl
      try simp only [Act.put, List.setIfInBounds_toArray, List.set_cons_zero, List.set_cons_succ]
      refine wpAnyH_ready (rs := [31]) (by kernel_rfl) (by simp) ?_
      refine AllReadyH.cons (o := ⟨some 71, _, _, _, _, _⟩) rfl (fun K hK => ?_) AllReadyH.nil
      have hc := c35 (PrMem.mk AF1 cF1 L1 AS1 cS1 S1 AM1 cM1 M1) (PrMem.mk AF cF L AS cS S AM cM M) true ⟨fun _ => by rw [HP1.out, HP.out], fun _ => rfl⟩ d5 (QI.out.next Ld5.out) (QP.out.next Ld5.out)
      refine step_callw (by kernel_rfl) 35 #[.tmp 69, .tmp 70] #[42, 42] (by rfl) Tryd.f35 Tryd.func35 (by kernel_rfl) (by kernel_rfl) #[.agg #[.slice AF1 L1.length cF1, .slice AS1 S1.length cS1, .slice AM1 M1.length cM1], .agg #[.slice AF L.length cF, .slice AS S.length cS, .slice AM M.length cM]] (by rfl) hc ?_
      rintro e d6 ⟨rfl, bd6⟩
      refine ⟨_, rfl, ?_⟩
      have Ld6 := Lib.hid (next_ Ld5.out bd6)
      clear bd6 hc
      refine hK.out _ _ ?_ (fun hHeld => ?_)
      · exact KS.out _ Ld6.out
      clear hK K
      try simp only [Act.put, List.setIfInBounds_toArray, List.set_cons_zero, List.set_cons_succ]
      refine wpAnyH_take (i := 32) (oi := ⟨some 72, _, _, _, _, _⟩) (v := ?_) rfl (by kernel_rfl) (by kernel_rfl) (by kernel_rfl) (fun _ _ _ h => h) (Or.inl ⟨by kernel_rfl, ?_⟩) (by assumption) ?_
      rotate_left
      · intro w hSw
        go_simp
        try with_reducible rfl
      try simp only [Act.put, List.setIfInBounds_toArray, List.set_cons_zero, List.set_cons_succ]
      refine wpAnyH_take (i := 33) (oi := ⟨some 73, _, _, _, _, _⟩) (v := ?_) rfl (by kernel_rfl) (by kernel_rfl) (by kernel_rfl) (fun _ _ _ h => h) (Or.inl ⟨by kernel_rfl, ?_⟩) (by assumption) ?_
      rotate_left
      · intro w hSw
        go_simp
        try with_reducible rfl
      try simp only [Act.put, List.setIfInBounds_toArray, List.set_cons_zero, List.set_cons_succ]
      refine wpAnyH_ready (rs := [34]) (by kernel_rfl) (by simp) ?_
      refine AllReadyH.cons (o := ⟨some 74, _, _, _, _, _⟩) rfl (fun K hK => ?_) AllReadyH.nil
      have hc := c26 d6 (HT.out.next (next_ Bb.out Ld6.out))
      refine step_callw (by kernel_rfl) 26 #[] #[] (by rfl) Tryd.f26 Tryd.func26 (by kernel_rfl) (by kernel_rfl) #[] (by rfl) hc ?_
      rintro e d7 ⟨rfl, bd7⟩
      refine ⟨_, rfl, ?_⟩
      have Ld7 := Lib.hid (next_ Ld6.out bd7)
      clear bd7 hc
      refine hK.out _ _ ?_ (fun hHeld => ?_)
      · exact KS.out _ Ld7.out
      clear hK K
      try simp only [Act.put, List.setIfInBounds_toArray, List.set_cons_zero, List.set_cons_succ]
      refine wpAnyH_take (i := 35) (oi := ⟨some 75, _, _, _, _, _⟩) (v := ?_) rfl (by kernel_rfl) (by kernel_rfl) (by kernel_rfl) (fun _ _ _ h => h) (Or.inl ⟨by kernel_rfl, ?_⟩) (by assumption) ?_
      rotate_left
      · intro w hSw
        go_simp
        try with_reducible rfl
      try simp only [Act.put, List.setIfInBounds_toArray, List.set_cons_zero, List.set_cons_succ]
      refine wpAnyH_take (i := 36) (oi := ⟨some 4, _, _, _, _, _⟩) (v := ?_) rfl (by kernel_rfl) (by kernel_rfl) (by kernel_rfl) (fun _ _ _ h => h) (Or.inl ⟨by kernel_rfl, ?_⟩) (by assumption) ?_
      rotate_left
      · intro w hSw
        go_simp
        try with_reducible rfl
      try simp only [Act.put, List.setIfInBounds_toArray, List.set_cons_zero, List.set_cons_succ]
      refine wpAnyH_done (by kernel_rfl) ?_ _
      go_wp2_with fail
      go_ret
      exact ⟨by simp, next_ Bb.out Ld7.out⟩
end Go.Proofs.YtiphicejaljhiaaDoor
