/- 'wakes' of the laws on code. -/
import Derived.Test.YtiphicejaljhiaaDoorDec
import Derived.Test.YtiphicejaljhiaaDoorKCode
namespace Go.Proofs.YtiphicejaljhiaaDoor
open Go.ChangeShapes Go.WideShapes Go.ChangeAt Go.RowKit
set_option maxRecDepth 100000 in
theorem c46 (l : List Ins) (A : Option Addr) (c : Nat) (w : World) (hr : Reads w w.heap.size 3 A l.length (l.flatMap insCells)) (hm : l.length ≤ maxLen) :
    Calls Tryd.prog 46 #[.slice A l.length c] w fun e w' => ∃ q : PrMem, e = .returned q.val ∧ q.pr = ⟨[⟨0, 0, l⟩], [], []⟩ ∧ PrOk w' w'.heap.size q ∧ Below w.heap.size w w' := by
  have P1 := (Blk.new w 42 #[.slice (some ⟨w.heap.size + 1, 0, none⟩) 1 1, .slice none 0 0, .slice none 0 0]).alloc (.cells #[.int .i64 0, .int .i64 0, .slice A l.length c] 60)
  have Q1 := Blk.new (w.alloc (.cells #[.slice (some ⟨w.heap.size + 1, 0, none⟩) 1 1, .slice none 0 0, .slice none 0 0] 42)) 60 #[.int .i64 0, .int .i64 0, .slice A l.length c]
  rw [World.size_alloc] at Q1
  have B1 := next_ (below_new w (.cells #[.slice (some ⟨w.heap.size + 1, 0, none⟩) 1 1, .slice none 0 0, .slice none 0 0] 42)) (below_new _ (.cells #[.int .i64 0, .int .i64 0, .slice A l.length c] 60))
  have R1 := reads_row3 Q1
  have hs := Q1.lt
  have HP := Lib.hid P1
  have HB := Lib.hid B1
  have HR := Lib.hid R1
  have H0 := Lib.hid (hr.below B1)
  clear P1 Q1 B1 R1
  go_enter Tryd.func46, Tryd.ntmps46
  go_wp2_with fail
  refine bodyPost_ret (results_cell_row rfl _ _ _ 42 _ (0, 0) _ rfl HP.out Tryd.underlying42 rfl (by kernel_rfl)) rfl ⟨⟨some ⟨w.heap.size + 1, 0, none⟩, 1, [⟨⟨0, 0, l⟩, A, c⟩], none, 0, [], none, 0, []⟩, rfl, rfl, ?_, HB.out⟩
  refine ⟨HR.out.more (by omega), fun x hx => ?_, Reads.none_, Reads.none_, fun x hx => (List.not_mem_nil hx).elim, by unfold maxLen; show 1 ≤ _; decide, Nat.zero_le _, Nat.zero_le _⟩
  obtain rfl := List.mem_singleton.1 hx
  exact ⟨H0.out.more HB.out.size, hm⟩
def l0 : List Ins := [⟨0, -2, 0⟩, ⟨9, 0, 0⟩]
def p0 : Pr := ⟨[⟨0, 0, l0⟩], [], []⟩
theorem p0_good : gPr p0 = true := by decide +kernel
theorem p0_enc : ePr p0 = [1, 0, 0, 0, 0, 0, 2, 0, 255, 255, 255, 255, 255, 255, 255, 254, 9] := by decide +kernel
theorem e_good : gPr emptyPr = false := by decide +kernel
theorem dec_100 : dec [1, 0, 0] = none := by decide +kernel
theorem empty_ok (w : World) (B : Nat) : PrOk w B ⟨none, 0, [], none, 0, [], none, 0, []⟩ :=
  ⟨Reads.none_, fun _ hu => (List.not_mem_nil hu).elim, Reads.none_, Reads.none_, fun _ hu => (List.not_mem_nil hu).elim, Nat.zero_le _, Nat.zero_le _, Nat.zero_le _⟩
set_option maxRecDepth 100000 in
set_option maxHeartbeats 4000000 in
theorem c26 (w : World) (ht : CodeTab w) : Calls Tryd.prog 26 #[] w fun e w' => e = .returned (.bool true) ∧ Below w.heap.size w w' := by
  have B1 := Lib.hid (below_new w (.cells #[.int .i64 0, .int .i64 (-2), .int .i64 0, .int .i64 9, .int .i64 0, .int .i64 0] 23))
  have R1 := Lib.hid (show Reads (w.alloc (.cells #[.int .i64 0, .int .i64 (-2), .int .i64 0, .int .i64 9, .int .i64 0, .int .i64 0] 23)) (w.alloc (.cells #[.int .i64 0, .int .i64 (-2), .int .i64 0, .int .i64 9, .int .i64 0, .int .i64 0] 23)).heap.size 3 (some ⟨w.heap.size, 0, none⟩) l0.length (l0.flatMap insCells) from by
    rw [World.size_alloc]
    exact reads_blkN (vs := l0.flatMap insCells) (Blk.new w 23 #[.int .i64 0, .int .i64 (-2), .int .i64 0, .int .i64 9, .int .i64 0, .int .i64 0]) rfl)
  have HT := Lib.hid ht
  clear ht
  go_enter Tryd.func26, Tryd.ntmps26
  go_wp2_with fail
  refine (c46 l0 (some ⟨w.heap.size, 0, none⟩) 2 _ R1.out (by unfold maxLen; show 2 ≤ _; decide)).mono ?_
  rintro e w2 ⟨q, rfl, hq, hok, b2⟩
  have B2 := Lib.hid (next_ B1.out b2)
  have HOK := Lib.hid hok
  have hgq : gPr q.pr = true := by rw [hq]; exact p0_good
  have heq : gEnc q.pr = ePr p0 := by unfold gEnc; rw [hgq, hq]; rfl
  clear b2 hok hq
  go_wp2_with fail
  refine (c28 q w2 (HT.out.next B2.out) HOK.out).mono ?_
  rintro e w3 ⟨v3, rfl, ho3, b3⟩
  rw [hgq]
  rw [heq, p0_enc] at ho3
  clear hgq heq
  obtain ⟨a3, c3, rfl⟩ := own_form ho3
  have B3 := Lib.hid (next_ B2.out b3)
  have R3 := Lib.hid (Reads.of_own ho3)
  clear b3 ho3
  go_wp2_with fail
  refine (c31 [1, 0, 0, 0, 0, 0, 2, 0, 255, 255, 255, 255, 255, 255, 255, 254, 9] a3 c3 w3 (HT.out.next B3.out) R3.out (by decide)).mono ?_
  rintro e w4 ⟨q4, rfl, hq4, hok4, b4⟩
  have hd4 : dec [1, 0, 0, 0, 0, 0, 2, 0, 255, 255, 255, 255, 255, 255, 255, 254, 9] = some p0 := by rw [← p0_enc]; exact dec_enc p0_good
  rw [hd4] at hq4 ⊢
  have B4 := Lib.hid (next_ B3.out b4)
  have C4 := Lib.hid b4
  clear b4 hd4
  obtain ⟨AF, cF, L, AS, cS, S, AM, cM, M⟩ := q4
  simp only [PrMem.pr, Option.getD_some, p0, Pr.mk.injEq] at hq4
  obtain ⟨hq1, rfl, hq3⟩ := hq4
  obtain rfl : M = [] := List.map_eq_nil_iff.1 hq3
  obtain ⟨x, rfl, hx⟩ : ∃ x : Fnv, L = [x] ∧ x.fn = ⟨0, 0, l0⟩ := by
    cases L with
    | nil => cases hq1
    | cons x L =>
      cases L with
      | nil => exact ⟨x, rfl, by simpa using hq1⟩
      | cons y L => simp at hq1
  obtain ⟨fn, xa, xc⟩ := x
  simp only at hx
  subst hx
  clear hq1 hq3
  have HOK4 := Lib.hid hok4
  clear hok4
  simp only [PrMem.val, List.length_cons, List.length_nil, Nat.zero_add, Option.isSome_some]
  have N4 := Blk.new w4 42 #[.slice AF 1 cF, .slice AS 0 cS, .slice AM 0 cM]
  have B5 := Lib.hid (next_ B4.out (below_new w4 (.cells #[.slice AF 1 cF, .slice AS 0 cS, .slice AM 0 cM] 42)))
  go_wp2_with fail
  refine (c28 ⟨none, 0, [], none, 0, [], none, 0, []⟩ _ (HT.out.next B5.out) (empty_ok _ _)).mono ?_
  rintro e w6 ⟨v6, rfl, ho6, b6⟩
  have hge : gPr (PrMem.mk none 0 [] none 0 [] none 0 []).pr = false := e_good
  rw [hge]
  have B6 := Lib.hid (next_ B5.out b6)
  have E6 := Lib.hid (next_ (below_new w4 (.cells #[.slice AF 1 cF, .slice AS 0 cS, .slice AM 0 cM] 42)) b6)
  have N6 := N4.next b6
  clear b6 ho6 hge N4
  have B7 := Lib.hid (next_ B6.out (below_new w6 (.cells #[.int .u8 1, .int .u8 0, .int .u8 0] 5)))
  have R7 := Lib.hid (show Reads (w6.alloc (.cells #[.int .u8 1, .int .u8 0, .int .u8 0] 5)) (w6.alloc (.cells #[.int .u8 1, .int .u8 0, .int .u8 0] 5)).heap.size 1 (some ⟨w6.heap.size, 0, none⟩) ([1, 0, 0] : List UInt8).length (cellsB [1, 0, 0]) from by
    rw [World.size_alloc]
    exact reads_blkN (vs := cellsB [1, 0, 0]) (Blk.new w6 5 #[.int .u8 1, .int .u8 0, .int .u8 0]) rfl)
  have N7 := N6.alloc (.cells #[.int .u8 1, .int .u8 0, .int .u8 0] 5)
  go_wp2_with fail
  refine (c31 [1, 0, 0] (some ⟨w6.heap.size, 0, none⟩) 3 _ (HT.out.next B7.out) R7.out (by decide)).mono ?_
  rintro e w8 ⟨q8, rfl, hq8, hok8, b8⟩
  rw [dec_100] at hq8 ⊢
  have B8 := Lib.hid (next_ B7.out b8)
  have E8 := Lib.hid (next_ E6.out (next_ (below_new w6 (.cells #[.int .u8 1, .int .u8 0, .int .u8 0] 5)) b8))
  have N8 := N7.next b8
  clear b8 N6 N7 hok8
  obtain ⟨AF8, cF8, L8, AS8, cS8, S8, AM8, cM8, M8⟩ := q8
  clear hq8
  simp only [PrMem.val, Option.isSome_none]
  have b9 := below_new w8 (.cells #[.slice AF8 L8.length cF8, .slice AS8 S8.length cS8, .slice AM8 M8.length cM8] 42)
  have B9 := Lib.hid (next_ B8.out b9)
  have E9 := Lib.hid (next_ E8.out b9)
  have HOK9 := Lib.hid (HOK4.out.next E9.out)
  have hcv := run_convN (c := c3) (l := ([1, 0, 0, 0, 0, 0, 2, 0, 255, 255, 255, 255, 255, 255, 255, 254, 9] : List UInt8)) (n := 17) rfl (R3.out.below (next_ C4.out E9.out))
  have N9 := N8.alloc (.cells #[.slice AF8 L8.length cF8, .slice AS8 S8.length cS8, .slice AM8 M8.length cM8] 42)
  clear b9 N8
  have n0 := N9.cell 0
  obtain ⟨ad, e, _, hcs⟩ := Reads.rowAt (f := Fnv.cells) (m := 3) (fun _ => rfl) HOK9.out.fns (by decide) (k := 0) rfl
  have hcell := hcs 2 _ rfl
  rw [Nat.zero_mul] at hcell
  have hadd : ((ad.add 0).add 2) = ⟨ad.block, ad.off + 2, none⟩ := rfl
  rw [hadd] at hcell
  simp only at e
  subst e
  have hx1 := HOK9.out.fn _ (List.mem_singleton.2 rfl)
  have HX1 := Lib.hid hx1
  clear hcs hadd hx1
  go_wp2_with fail
  have b10 := below_new (w8.alloc (.cells #[.slice AF8 L8.length cF8, .slice AS8 S8.length cS8, .slice AM8 M8.length cM8] 42)) (.cells #[.int .i64 0, .int .i64 (-2), .int .i64 0, .int .i64 9, .int .i64 0, .int .i64 0] 23)
  have hn := Blk.new (w8.alloc (.cells #[.slice AF8 L8.length cF8, .slice AS8 S8.length cS8, .slice AM8 M8.length cM8] 42)) 23 #[.int .i64 0, .int .i64 (-2), .int .i64 0, .int .i64 9, .int .i64 0, .int .i64 0]
  rw [World.size_alloc] at hn
  have B10 := Lib.hid (next_ B9.out b10)
  have HOK10 := Lib.hid (HOK9.out.next b10)
  have N10 := N9.alloc (.cells #[.int .i64 0, .int .i64 (-2), .int .i64 0, .int .i64 9, .int .i64 0, .int .i64 0] 23)
  refine (c47 l0 l0 xa (some ⟨w8.heap.size + 1, 0, none⟩) xc 2 _ _ _ (HX1.out.1.below b10) (reads_blkN (vs := l0.flatMap insCells) hn rfl) (by unfold maxLen; show 2 ≤ _; decide)).mono ?_
  rintro e w11 ⟨rfl, b11⟩
  have hdl : decide (l0 = l0) = true := decide_eq_true rfl
  rw [hdl]
  have B11 := Lib.hid (next_ B10.out b11)
  have HOK11 := Lib.hid (HOK10.out.next b11)
  have N11 := N10.next b11
  clear b10 b11 hn N9 N10 hcell n0 hcv hdl
  have n0 := N11.cell 0
  have n1 := N11.cell 1
  have n2 := N11.cell 2
  go_wp2_with fail
  refine (c33 _ w11 (HT.out.next B11.out).op HOK11.out).mono ?_
  rintro e w12 ⟨rfl, b12⟩
  have B12 := Lib.hid (next_ B11.out b12)
  have hgp : gPr (PrMem.mk (some ad) cF [⟨⟨0, 0, l0⟩, xa, xc⟩] AS cS [] AM cM []).pr = true := p0_good
  rw [hgp]
  clear b12 hgp
  go_wp2_with fail
  go_ret
  exact ⟨rfl, B12.out⟩
end Go.Proofs.YtiphicejaljhiaaDoor
