/- 'wakes' of the laws on verify; a program of one function. -/
import Derived.Test.YtiphicejaljhiaaDoorVChk
namespace Go.Proofs.YtiphicejaljhiaaDoor
open Go.ChangeShapes Go.WideShapes Go.ChangeAt Go.RowKit
set_option maxRecDepth 100000 in
theorem c46v (l : List Ins) (A : Option Addr) (c : Nat) (w : World) (hr : Reads w w.heap.size 3 A l.length (l.flatMap insCells)) (hm : l.length ≤ maxLen) :
    Calls Tryd.prog 46 #[.slice A l.length c] w fun e w' => ∃ q : PrMem, e = .returned q.val ∧ q.pr = ⟨[⟨0, 0, l⟩], [], []⟩ ∧ PrOk w' w'.heap.size q ∧ Below w.heap.size w w' := by
  have P1 := (Blk.new w 42 #[.slice (some ⟨w.heap.size + 1, 0, none⟩) 1 1, .slice none 0 0, .slice none 0 0]).alloc (.cells #[.int .i64 0, .int .i64 0, .slice A l.length c] 60)
  have Q1 := Blk.new (w.alloc (.cells #[.slice (some ⟨w.heap.size + 1, 0, none⟩) 1 1, .slice none 0 0, .slice none 0 0] 42)) 60 #[.int .i64 0, .int .i64 0, .slice A l.length c]
  rw [World.size_alloc] at Q1
  have B1 := next_ (below_new w (.cells #[.slice (some ⟨w.heap.size + 1, 0, none⟩) 1 1, .slice none 0 0, .slice none 0 0] 42)) (below_new _ (.cells #[.int .i64 0, .int .i64 0, .slice A l.length c] 60))
  have R1 := reads_row3 Q1
  have hs := Q1.lt
  have HP := Lib.hid P1
  have HB := Lib.hid B1
  have HR := Lib.hid R1
  have H0 := Lib.hid (hr.below B1)
  clear P1 Q1 B1 R1
  go_enter Tryd.func46, Tryd.ntmps46
  go_wp2_with fail
  refine bodyPost_ret (results_cell_row rfl _ _ _ 42 _ (0, 0) _ rfl HP.out Tryd.underlying42 rfl (by kernel_rfl)) rfl ⟨⟨some ⟨w.heap.size + 1, 0, none⟩, 1, [⟨⟨0, 0, l⟩, A, c⟩], none, 0, [], none, 0, []⟩, rfl, rfl, ?_, HB.out⟩
  refine ⟨HR.out.more (by omega), fun x hx => ?_, Reads.none_, Reads.none_, fun x hx => (List.not_mem_nil hx).elim, by unfold maxLen; show 1 ≤ _; decide, Nat.zero_le _, Nat.zero_le _⟩
  obtain rfl := List.mem_singleton.1 hx
  exact ⟨H0.out.more HB.out.size, hm⟩
def lw : List Ins := [⟨33, 4, 0⟩, ⟨0, 7, 0⟩, ⟨34, 0, 0⟩, ⟨9, 0, 0⟩, ⟨36, 0, 0⟩, ⟨9, 0, 0⟩]
def pw : Pr := ⟨[⟨0, 0, lw⟩], [], []⟩
def sw : List Sta := [(0, 0), (0, 1), (1, 1), (1, 0), (1, 0), (1, 0)]
theorem pw_s0 : gStates pw 0 = some sw := by kernel_rfl
theorem pw_s1 : gStates pw 1 = none := by kernel_rfl
theorem pw_c1 : gCheck pw 1 = 0 := by kernel_rfl
theorem pw_c14 : gCheck pw 14 = 18 := by kernel_rfl
theorem pop_c0 : gCheck ⟨[⟨0, 0, [⟨37, 0, 0⟩]⟩], [], []⟩ 0 = 2 := by kernel_rfl
theorem pw_calls : gCalls pw = 1 := by kernel_rfl
set_option maxRecDepth 100000 in
set_option maxHeartbeats 4000000 in
theorem c36 (w : World) (ht : VTab w) : Calls Tryd.prog 36 #[] w fun e w' => e = .returned (.bool true) ∧ Below w.heap.size w w' := by
  have B1 := Lib.hid (below_new w (.cells #[.int .i64 33, .int .i64 4, .int .i64 0, .int .i64 0, .int .i64 7, .int .i64 0, .int .i64 34, .int .i64 0, .int .i64 0, .int .i64 9, .int .i64 0, .int .i64 0, .int .i64 36, .int .i64 0, .int .i64 0, .int .i64 9, .int .i64 0, .int .i64 0] 23))
  have R1 := Lib.hid (show Reads (w.alloc (.cells #[.int .i64 33, .int .i64 4, .int .i64 0, .int .i64 0, .int .i64 7, .int .i64 0, .int .i64 34, .int .i64 0, .int .i64 0, .int .i64 9, .int .i64 0, .int .i64 0, .int .i64 36, .int .i64 0, .int .i64 0, .int .i64 9, .int .i64 0, .int .i64 0] 23)) (w.alloc (.cells #[.int .i64 33, .int .i64 4, .int .i64 0, .int .i64 0, .int .i64 7, .int .i64 0, .int .i64 34, .int .i64 0, .int .i64 0, .int .i64 9, .int .i64 0, .int .i64 0, .int .i64 36, .int .i64 0, .int .i64 0, .int .i64 9, .int .i64 0, .int .i64 0] 23)).heap.size 3 (some ⟨w.heap.size, 0, none⟩) lw.length (lw.flatMap insCells) from by
    rw [World.size_alloc]
    exact reads_blkN (vs := lw.flatMap insCells) (Blk.new w 23 #[.int .i64 33, .int .i64 4, .int .i64 0, .int .i64 0, .int .i64 7, .int .i64 0, .int .i64 34, .int .i64 0, .int .i64 0, .int .i64 9, .int .i64 0, .int .i64 0, .int .i64 36, .int .i64 0, .int .i64 0, .int .i64 9, .int .i64 0, .int .i64 0]) rfl)
  have HT := Lib.hid ht
  clear ht
  go_enter Tryd.func36, Tryd.ntmps36
  go_wp2_with fail
  refine (c46v lw (some ⟨w.heap.size, 0, none⟩) 6 _ R1.out (by unfold maxLen; show 6 ≤ _; decide)).mono ?_
  rintro e w2 ⟨q, rfl, hq, hok, b2⟩
  have B2 := Lib.hid (next_ B1.out b2)
  have HQ := Lib.hid (show q.pr = pw from hq)
  clear b2 hq
  have b3 := below_new w2 (.cells #[.slice q.AF q.L.length q.cF, .slice q.AS q.S.length q.cS, .slice q.AM q.M.length q.cM] 42)
  have P3 := Blk.new w2 42 #[.slice q.AF q.L.length q.cF, .slice q.AS q.S.length q.cS, .slice q.AM q.M.length q.cM]
  have B3 := Lib.hid (next_ B2.out b3)
  have K3 := Lib.hid (hok.next b3)
  clear b3 hok
  simp only [PrMem.val]
  have p0 := P3.cell 0
  have p1 := P3.cell 1
  have p2 := P3.cell 2
  go_wp2_with fail
  have hc := c37 q 0 _ (HT.out.next B3.out) K3.out
  rw [HQ.out, pw_s0] at hc
  simp only [PrMem.val] at hc
  refine hc.mono ?_
  clear hc
  rintro e w4 ⟨A4, c4, rfl, hr4, b4⟩
  simp only [Option.getD_some, Option.isSome_some] at hr4 ⊢
  have R4 := Lib.hid hr4
  have B4 := Lib.hid (next_ B3.out b4)
  have K4 := Lib.hid (K3.out.next b4)
  have P4 := P3.next b4
  clear hr4 b4 P3 p0 p1 p2
  have p0 := P4.cell 0
  have p1 := P4.cell 1
  have p2 := P4.cell 2
  have e6 : sw.length = 6 := rfl
  rw [e6]
  go_wp2_with fail
  have hc := c37 q 1 _ (HT.out.next B4.out) K4.out
  rw [HQ.out, pw_s1] at hc
  simp only [PrMem.val] at hc
  refine hc.mono ?_
  clear hc
  rintro e w5 ⟨A5, c5, rfl, _, b5⟩
  simp only [Option.getD_none, Option.isSome_none, List.length_nil]
  have R5 := Lib.hid ((R4.out.below b5).more b5.size)
  have B5 := Lib.hid (next_ B4.out b5)
  have K5 := Lib.hid (K4.out.next b5)
  have P5 := P4.next b5
  clear b5 P4 p0 p1 p2
  have b6 := below_new w5 (.cells #[.int .i64 0, .int .i64 0, .int .i64 0, .int .i64 1, .int .i64 1, .int .i64 1, .int .i64 1, .int .i64 0, .int .i64 1, .int .i64 0, .int .i64 1, .int .i64 0] 79)
  have B6 := Lib.hid (next_ B5.out b6)
  have R6 := Lib.hid (R5.out.below b6)
  have K6 := Lib.hid (K5.out.next b6)
  have P6 := P5.next b6
  have Q6 := Lib.hid (show Reads (w5.alloc (.cells #[.int .i64 0, .int .i64 0, .int .i64 0, .int .i64 1, .int .i64 1, .int .i64 1, .int .i64 1, .int .i64 0, .int .i64 1, .int .i64 0, .int .i64 1, .int .i64 0] 79)) (w5.heap.size + 1) 2 (some ⟨w5.heap.size, 0, none⟩) sw.length (sw.flatMap stCells) from reads_blkN (vs := sw.flatMap stCells) (Blk.new w5 79 #[.int .i64 0, .int .i64 0, .int .i64 0, .int .i64 1, .int .i64 1, .int .i64 1, .int .i64 1, .int .i64 0, .int .i64 1, .int .i64 0, .int .i64 1, .int .i64 0]) rfl)
  clear b6 P5
  go_wp2_with fail
  have hc := c42 sw sw A4 (some ⟨w5.heap.size, 0, none⟩) c4 6 _ _ _ R6.out Q6.out (by unfold maxLen; show 6 ≤ _; decide)
  rw [decide_eq_true (rfl : sw = sw)] at hc
  refine hc.mono ?_
  clear hc
  rintro e w7 ⟨rfl, b7⟩
  have B7 := Lib.hid (next_ B6.out b7)
  have K7 := Lib.hid (K6.out.next b7)
  have P7 := P6.next b7
  clear b7 P6
  have p0 := P7.cell 0
  have p1 := P7.cell 1
  have p2 := P7.cell 2
  go_wp2_with fail
  have hc := c40 q 1 _ (HT.out.next B7.out) K7.out
  rw [HQ.out, pw_c1] at hc
  simp only [PrMem.val] at hc
  refine hc.mono ?_
  clear hc
  rintro e w8 ⟨rfl, b8⟩
  have B8 := Lib.hid (next_ B7.out b8)
  have K8 := Lib.hid (K7.out.next b8)
  have P8 := P7.next b8
  clear b8 P7 p0 p1 p2
  have p0 := P8.cell 0
  have p1 := P8.cell 1
  have p2 := P8.cell 2
  go_wp2_with fail
  have hc := c40 q 14 _ (HT.out.next B8.out) K8.out
  rw [HQ.out, pw_c14] at hc
  simp only [PrMem.val] at hc
  refine hc.mono ?_
  clear hc
  rintro e w9 ⟨rfl, b9⟩
  have B9 := Lib.hid (next_ B8.out b9)
  have K9 := Lib.hid (K8.out.next b9)
  have P9 := P8.next b9
  clear b9 P8 p0 p1 p2
  have b10 := below_new w9 (.cells #[.int .i64 37, .int .i64 0, .int .i64 0] 23)
  have B10 := Lib.hid (next_ B9.out b10)
  have K10 := Lib.hid (K9.out.next b10)
  have P10 := P9.next b10
  have R10 := Lib.hid (show Reads (w9.alloc (.cells #[.int .i64 37, .int .i64 0, .int .i64 0] 23)) (w9.alloc (.cells #[.int .i64 37, .int .i64 0, .int .i64 0] 23)).heap.size 3 (some ⟨w9.heap.size, 0, none⟩) ([⟨37, 0, 0⟩] : List Ins).length (([⟨37, 0, 0⟩] : List Ins).flatMap insCells) from by
    rw [World.size_alloc]
    exact reads_blkN (vs := ([⟨37, 0, 0⟩] : List Ins).flatMap insCells) (Blk.new w9 23 #[.int .i64 37, .int .i64 0, .int .i64 0]) rfl)
  clear b10 P9
  go_wp2_with fail
  refine (c46v [⟨37, 0, 0⟩] (some ⟨w9.heap.size, 0, none⟩) 1 _ R10.out (by unfold maxLen; show 1 ≤ _; decide)).mono ?_
  rintro e w11 ⟨q2, rfl, hq2, hok2, b11⟩
  have B11 := Lib.hid (next_ B10.out b11)
  have K11 := Lib.hid (K10.out.next b11)
  have P11 := P10.next b11
  have HQ2 := Lib.hid hq2
  have L11 := Lib.hid hok2
  clear b11 P10 hq2 hok2
  simp only [PrMem.val]
  go_wp2_with fail
  have hc := c40 q2 0 _ (HT.out.next B11.out) L11.out
  rw [HQ2.out, pop_c0] at hc
  simp only [PrMem.val] at hc
  refine hc.mono ?_
  clear hc
  rintro e w12 ⟨rfl, b12⟩
  have B12 := Lib.hid (next_ B11.out b12)
  have K12 := Lib.hid (K11.out.next b12)
  have P12 := P11.next b12
  clear b12 P11
  have p0 := P12.cell 0
  have p1 := P12.cell 1
  have p2 := P12.cell 2
  go_wp2_with fail
  have hc := c43 q _ (HT.out.next B12.out).op K12.out
  rw [HQ.out, pw_calls] at hc
  simp only [PrMem.val] at hc
  refine hc.mono ?_
  clear hc
  rintro e w13 ⟨rfl, b13⟩
  have B13 := Lib.hid (next_ B12.out b13)
  go_wp2_with fail
  go_ret
  exact ⟨by simp, B13.out⟩
end Go.Proofs.YtiphicejaljhiaaDoor
