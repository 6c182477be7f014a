/- The document's text of a token: it answers. -/
import Derived.Test.YtphojigdapaaiaaDoorARp
import Derived.Test.YtphojigdapaaiaaDoorAQu
namespace Go.Proofs.YtphojigdapaaiaaDoor
open Go.ChangeShapes Go.WideShapes Go.ChangeAt Go.RowKit
set_option linter.unusedVariables false
set_option linter.unusedSimpArgs false
def TokTEnd (s : ByteArray) (w : World) (e : Ending) (w' : World) : Prop := ∃ (q : ByteArray) (n : Nat), e = .returned (.agg #[.string q, .int .i64 (n : Int)]) ∧ n ≤ s.size ∧ Below w.heap.size w w'
set_option maxRecDepth 100000 in
set_option maxHeartbeats 8000000 in
theorem c62 (s : ByteArray) (h1 : 1 ≤ s.size) (hs : s.size ≤ 3000) (w : World) : Calls Tryd.prog 62 #[.string s] w (TokTEnd s w) := by
  obtain ⟨i5, fi5, hz0, hz1, hz2⟩ := info_parts u8_info
  have H5 := Lib.hid (show i5.zero = some (.int .u8 0) ∧ i5.size = 1 ∧ i5.bytes = 1 from ⟨hz0, hz1, hz2⟩)
  clear hz0 hz1 hz2
  have hR := Blk.new w 115 #[.string ⟨#[]⟩, .int .i64 0]
  have hB := below_new w (.cells #[.string ⟨#[]⟩, .int .i64 0] 115)
  have hlt0 := hR.lt
  go_enter Tryd.func62, Tryd.ntmps62
  go_upto_region 1 with fail
  generalize w.alloc (.cells #[.string ⟨#[]⟩, .int .i64 0] 115) = w1 at hR hB hlt0 ⊢
  have HR := Lib.hid hR
  have HB0 := Lib.hid hB
  generalize hrb : w.heap.size = rb at HR hlt0 ⊢
  have HLE := Lib.hid (show w.heap.size ≤ rb by omega)
  have HLT := Lib.hid hlt0
  clear hR hB hrb hlt0
  go_wp2_with fail
  go_loopw [3, 4] (fun b i wr => ∃ (k : Nat) (L : List UInt8) (A : Option Addr) (c : Nat), 1 ≤ k ∧ k ≤ s.size ∧ i = .int .i64 k ∧ b = .slice A L.length c ∧ BRow w1 wr A c L ∧ L.length ≤ k) (fun _ i _ => s.size - (intOf i).toNat)
  case atStart => exact ⟨1, [], none, 0, by omega, by omega, rfl, rfl, ⟨⟨rfl, .inl ⟨rfl, rfl⟩⟩, Below.refl _ _⟩, by simp⟩
  case round =>
    obtain ⟨k, L, A, c, hk1, hk, rfl, rfl, hb, hL⟩ := hrel
    have HB := Lib.hid hb
    have HL := Lib.hid (show L.length ≤ 3000 by omega)
    have HL2 := Lib.hid hL
    have HRr := Lib.hid (HR.out.below hb.low HLT.out)
    have HBR := Lib.hid (next_ HB0.out hb.low)
    have hcv := run_conv (c := c) rfl (Reads.of_own hb.own)
    have r0 : wr.cell? ⟨rb, 0, none⟩ = some (.string ⟨#[]⟩) := HRr.out.cell 0
    have r1 : wr.cell? ⟨rb, 1, none⟩ = some (.int .i64 0) := HRr.out.cell 1
    have f0 := HRr.out.frozen 0
    have f1 := HRr.out.frozen 1
    clear hb hL
    by_cases hlt : k < s.size
    · have hlk : (k : Int) < (s.size : Int) := by omega
      have hk0 : (0 : Int) ≤ (k : Int) := by omega
      by_cases hlt2 : k + 1 < s.size
      · have hlk2 : (k : Int) + 1 < (s.size : Int) := by omega
        have hne2 : ((k : Int) + 1 == (s.size : Int)) = false := beq_false_of_ne (by omega)
        have hk02 : (0 : Int) ≤ (k : Int) + 1 := by omega
        have htn : ((k : Int) + 1).toNat = k + 1 := by omega
        go_wp2_with (first | (at_builtin; refine wpList_append_any _ rfl (.tmp 49) (.tmp 50) 40 rfl w1.heap.size 5 i5 _ 1 1 Tryd.underlying40 fi5 H5.out.1 H5.out.2.1 H5.out.2.2 rfl (by omega) (.slice A L.length c) L.length (cellsB L) rfl (own_next HB.out.own (below_new _ _)) (wr.heap.size + 1) (some ⟨wr.heap.size, 0, none⟩) 1 1 (cellsB [10]) rfl (newB wr [10]) (cellsB_one _) (by unfold maxLen; have := HL.out; omega) (by have := HL.out; omega) (by rw [World.size_alloc]; have := HB.out.low.size; omega) ?_; intro v1 w7 oA gA nA; obtain ⟨A1, c1, rfl, hB1⟩ := HB.out.push oA gA; have HB1 := Lib.hid hB1; clear oA gA nA hB1) | (at_builtin; refine wpList_append_any _ rfl (.tmp 55) (.tmp 59) 40 rfl w1.heap.size 5 i5 _ 1 1 Tryd.underlying40 fi5 H5.out.1 H5.out.2.1 H5.out.2.2 rfl (by omega) (.slice A L.length c) L.length (cellsB L) rfl (own_next HB.out.own (below_new _ _)) (wr.heap.size + 1) (some ⟨wr.heap.size, 0, none⟩) 1 1 (cellsB [s[k + 1]]) rfl (newB wr [s[k + 1]]) (cellsB_one _) (by unfold maxLen; have := HL.out; omega) (by have := HL.out; omega) (by rw [World.size_alloc]; have := HB.out.low.size; omega) ?_; intro v1 w7 oA gA nA; obtain ⟨A1, c1, rfl, hB1⟩ := HB.out.push oA gA; have HB1 := Lib.hid hB1; clear oA gA nA hB1) | (at_builtin; refine wpList_append_any _ rfl (.tmp 11) (.tmp 15) 40 rfl w1.heap.size 5 i5 _ 1 1 Tryd.underlying40 fi5 H5.out.1 H5.out.2.1 H5.out.2.2 rfl (by omega) (.slice A L.length c) L.length (cellsB L) rfl (own_next HB.out.own (below_new _ _)) (wr.heap.size + 1) (some ⟨wr.heap.size, 0, none⟩) 1 1 (cellsB [s[k]]) rfl (newB wr [s[k]]) (cellsB_one _) (by unfold maxLen; have := HL.out; omega) (by have := HL.out; omega) (by rw [World.size_alloc]; have := HB.out.low.size; omega) ?_; intro v1 w7 oA gA nA; obtain ⟨A1, c1, rfl, hB1⟩ := HB.out.push oA gA; have HB1 := Lib.hid hB1; clear oA gA nA hB1))
        all_goals first
          | exact bodyPost_ret (results_cell_row rfl _ _ _ 115 _ (0, 0) _ rfl (row2 HRr.out) Tryd.underlying115 rfl (by kernel_rfl)) rfl ⟨_, 0, by first | rfl | go_num, Nat.zero_le _, low2 HLE.out HBR.out⟩
          | exact bodyPost_ret (results_cell_row rfl _ _ _ 115 _ (0, 0) _ rfl (row2 HRr.out) Tryd.underlying115 rfl (by kernel_rfl)) rfl ⟨_, k + 1, by first | rfl | go_num, by omega, low2 HLE.out HBR.out⟩
          | exact ⟨⟨k + 1, _, A1, c1, by omega, by omega, by go_num, by rw [List.length_append]; rfl, HB1.out, by have := HL2.out; rw [List.length_append]; simp only [List.length_cons, List.length_nil]; omega⟩, by simp [intOf]; omega⟩
          | exact ⟨⟨k + 2, _, A1, c1, by omega, by omega, by go_num, by rw [List.length_append]; rfl, HB1.out, by have := HL2.out; rw [List.length_append]; simp only [List.length_cons, List.length_nil]; omega⟩, by simp [intOf]; omega⟩
      · have hlk2 : ¬ (k : Int) + 1 < (s.size : Int) := by omega
        have heq2 : ((k : Int) + 1 == (s.size : Int)) = true := beq_iff_eq.2 (by omega)
        go_wp2_with (first | (at_builtin; refine wpList_append_any _ rfl (.tmp 11) (.tmp 15) 40 rfl w1.heap.size 5 i5 _ 1 1 Tryd.underlying40 fi5 H5.out.1 H5.out.2.1 H5.out.2.2 rfl (by omega) (.slice A L.length c) L.length (cellsB L) rfl (own_next HB.out.own (below_new _ _)) (wr.heap.size + 1) (some ⟨wr.heap.size, 0, none⟩) 1 1 (cellsB [s[k]]) rfl (newB wr [s[k]]) (cellsB_one _) (by unfold maxLen; have := HL.out; omega) (by have := HL.out; omega) (by rw [World.size_alloc]; have := HB.out.low.size; omega) ?_; intro v1 w7 oA gA nA; obtain ⟨A1, c1, rfl, hB1⟩ := HB.out.push oA gA; have HB1 := Lib.hid hB1; clear oA gA nA hB1))
        all_goals first
          | exact bodyPost_ret (results_cell_row rfl _ _ _ 115 _ (0, 0) _ rfl (row2 HRr.out) Tryd.underlying115 rfl (by kernel_rfl)) rfl ⟨_, 0, by first | rfl | go_num, Nat.zero_le _, low2 HLE.out HBR.out⟩
          | exact bodyPost_ret (results_cell_row rfl _ _ _ 115 _ (0, 0) _ rfl (row2 HRr.out) Tryd.underlying115 rfl (by kernel_rfl)) rfl ⟨_, k + 1, by first | rfl | go_num, by omega, low2 HLE.out HBR.out⟩
          | exact ⟨⟨k + 1, _, A1, c1, by omega, by omega, by go_num, by rw [List.length_append]; rfl, HB1.out, by have := HL2.out; rw [List.length_append]; simp only [List.length_cons, List.length_nil]; omega⟩, by simp [intOf]; omega⟩
          | exact ⟨⟨k + 2, _, A1, c1, by omega, by omega, by go_num, by rw [List.length_append]; rfl, HB1.out, by have := HL2.out; rw [List.length_append]; simp only [List.length_cons, List.length_nil]; omega⟩, by simp [intOf]; omega⟩
    · obtain rfl : k = s.size := by omega
      have hlk : ¬ ((s.size : Int) < (s.size : Int)) := by omega
      go_wp2_with fail
      all_goals exact bodyPost_ret (results_cell_row rfl _ _ _ 115 _ (0, 0) _ rfl (row2 HRr.out) Tryd.underlying115 rfl (by kernel_rfl)) rfl ⟨_, 0, by first | rfl | go_num, Nat.zero_le _, low2 HLE.out HBR.out⟩
end Go.Proofs.YtphojigdapaaiaaDoor
