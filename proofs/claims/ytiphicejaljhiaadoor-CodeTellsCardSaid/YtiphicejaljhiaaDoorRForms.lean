/- stockpotref07.Forms: whether forms may be. -/
import Derived.Test.YtiphicejaljhiaaDoorPro
import Derived.Deep.QuietTactic
import Derived.BigQuiet
namespace Go.Proofs.YtiphicejaljhiaaDoor
open Go.ChangeShapes Go.WideShapes Go.ChangeAt Go.RowKit
theorem gFm_p {kd a b m : Int} {cd : List Int} (h : 1 ≤ kd ∧ kd ≤ 4) : gFm ⟨kd, a, b, cd⟩ m = (decide (a = 0) && (decide (b = 0) && decide (cd.length = 0))) := by
  rw [Bool.eq_iff_iff]
  unfold gFm gBetw
  rw [if_neg (by simp only; omega), if_neg (by simp only; omega), if_neg (by simp only; omega), if_neg (by simp only; omega)]
  simp only [Bool.and_eq_true, decide_eq_true_eq]
  constructor
  · rintro ⟨_, _, h1, h2, h3⟩
    exact ⟨by omega, by omega, by omega⟩
  · rintro ⟨h1, h2, h3⟩
    have hc : cd = [] := List.eq_nil_of_length_eq_zero h3
    exact ⟨by rw [hc]; rfl, by omega, by omega, by omega, by omega⟩
theorem gFm_5 {a b m : Int} {cd : List Int} : gFm ⟨5, a, b, cd⟩ m = ((decide (0 ≤ a) && decide (a < m)) && ((decide (0 ≤ b) && decide (b < m)) && decide (cd.length = 0))) := by
  rw [Bool.eq_iff_iff]
  unfold gFm gBetw
  rw [if_pos (by simp), if_pos rfl, if_neg (by simp), if_neg (by simp)]
  simp only [Bool.and_eq_true, decide_eq_true_eq]
  constructor
  · rintro ⟨_, _, h1, h2, h3⟩
    exact ⟨by omega, by omega, by omega⟩
  · rintro ⟨h1, h2, h3⟩
    have hc : cd = [] := List.eq_nil_of_length_eq_zero h3
    exact ⟨by rw [hc]; rfl, by omega, by omega, by omega, by omega⟩
theorem gFm_6 {a b m : Int} {cd : List Int} : gFm ⟨6, a, b, cd⟩ m = ((decide (0 ≤ a) && decide (a < m)) && (decide (b = 0) && decide (cd.length = 0))) := by
  rw [Bool.eq_iff_iff]
  unfold gFm gBetw
  rw [if_pos (by simp), if_neg (by simp), if_neg (by simp), if_neg (by simp)]
  simp only [Bool.and_eq_true, decide_eq_true_eq]
  constructor
  · rintro ⟨_, _, h1, h2, h3⟩
    exact ⟨by omega, by omega, by omega⟩
  · rintro ⟨h1, h2, h3⟩
    have hc : cd = [] := List.eq_nil_of_length_eq_zero h3
    exact ⟨by rw [hc]; rfl, by omega, by omega, by omega, by omega⟩
theorem gFm_7 {a b m : Int} {cd : List Int} : gFm ⟨7, a, b, cd⟩ m = (decide (a = 0) && (decide (b = 0) && ((decide (1 ≤ cd.length) && decide (cd.length ≤ 20)) && cd.all fun c => decide (-1 ≤ c) && decide (c < m)))) := by
  rw [Bool.eq_iff_iff]
  unfold gFm gBetw
  rw [if_neg (by simp), if_neg (by simp), if_pos rfl, if_pos rfl]
  simp only [Bool.and_eq_true, decide_eq_true_eq, List.all_eq_true]
  constructor
  · rintro ⟨h0, _, h1, h2, h3⟩
    exact ⟨by omega, by omega, by omega, fun c hc => by have := h0 c hc; omega⟩
  · rintro ⟨h1, h2, h3, h4⟩
    exact ⟨fun c hc => by have := h4 c hc; omega, by omega, by omega, by omega, by omega⟩
theorem gFm_o {kd a b m : Int} {cd : List Int} (h : kd < 1 ∨ 7 < kd) : gFm ⟨kd, a, b, cd⟩ m = false := by
  rw [Bool.eq_false_iff]
  unfold gFm gBetw
  simp only [ne_eq, Bool.and_eq_true, decide_eq_true_eq]
  rintro ⟨_, h1, _⟩
  omega
set_option maxRecDepth 100000 in
set_option maxHeartbeats 4000000 in
theorem c51 (M : List Fmv) (A : Option Addr) (c : Nat) (w : World) (h4 : Reads w w.heap.size 4 A M.length (M.flatMap Fmv.cells)) (h5 : ∀ x ∈ M, FmOk w w.heap.size x) (l3 : M.length ≤ maxLen) :
    Calls Tryd.prog 51 #[.slice A M.length c] w fun e w' => e = .returned (.bool ((M.map (·.fm)).all (fun f => gFm f M.length) && decide (M.length ≤ 40))) ∧ Below w.heap.size w w' := by
  unfold maxLen at l3
  have H5 := Lib.hid h5
  clear h5
  generalize hG : M.map (·.fm) = G
  have HG := Lib.hid hG
  clear hG
  have HLG := Lib.hid (show G.length = M.length by rw [← HG.out]; simp)
  go_enter Tryd.func51, Tryd.ntmps51
  go_wp2_with fail
  go_loopw [4] (fun i wr => ∃ k : Nat, k ≤ M.length ∧ i = .int .i64 k ∧ G.all (fun f => gFm f M.length) = (G.drop k).all (fun f => gFm f M.length) ∧ Below w.heap.size w wr) (fun i _ => M.length - (intOf i).toNat)
  case atStart => exact ⟨0, by omega, rfl, rfl, Below.refl _ _⟩
  case round =>
    obtain ⟨k, hk, rfl, hg3, hb3⟩ := hrel
    have HG3 := Lib.hid hg3
    have HB3 := Lib.hid hb3
    clear hg3
    by_cases hlt3 : k < M.length
    · have hl3 : (k : Int) < (M.length : Int) := by omega
      obtain ⟨ad, rfl, hbl, hcs⟩ := Reads.rowAt (f := Fmv.cells) (m := 4) (fun _ => rfl) (h4.below hb3) (by decide) (List.getElem?_eq_getElem hlt3)
      obtain ⟨hx1, hx2⟩ := H5.out _ (List.getElem_mem hlt3)
      have hxk : G.drop k = M[k].fm :: G.drop (k + 1) := by
        have hkF : k < G.length := by have := HLG.out; omega
        rw [drop_at hkF]
        congr 1
        have e := HG.out
        subst e
        simp
      generalize M[k] = x at hcs hx1 hx2 hxk
      have HX := Lib.hid hxk
      have HCS := Lib.hid hcs
      clear hxk hcs
      obtain ⟨⟨kd, fa, fb, cd⟩, xa, xc⟩ := x
      simp only at hx1 hx2
      unfold maxLen at hx2
      have Q4 := Blk.new wr 63 #[.int .i64 kd, .int .i64 fa, .int .i64 fb, .slice xa cd.length xc]
      have B4 := Lib.hid (below_new wr (.cells #[.int .i64 kd, .int .i64 fa, .int .i64 fb, .slice xa cd.length xc] 63))
      have HX1 := Lib.hid hx1
      have R4 := ((hx1.below hb3).more hb3.size).below B4.out
      have HX2 := Lib.hid hx2
      have BB := Lib.hid (HB3.out.trans (B4.out.mono HB3.out.size))
      have hm0 : 0 ≤ (M.length : Int) := by omega
      have HZ : Lib.hid hm0 = Lib.hid hm0 := rfl
      clear HZ hx1 hx2 hb3
      have hkd : kd = 1 ∨ kd = 2 ∨ kd = 3 ∨ kd = 4 ∨ kd = 5 ∨ kd = 6 ∨ kd = 7 ∨ (kd ≠ 1 ∧ kd ≠ 2 ∧ kd ≠ 3 ∧ kd ≠ 4 ∧ kd ≠ 5 ∧ kd ≠ 6 ∧ kd ≠ 7) := by omega
      rcases hkd with rfl | rfl | rfl | rfl | rfl | rfl | rfl | ⟨n1, n2, n3, n4, n5, n6, n7⟩
      · by_cases ha0 : fa = 0
        · by_cases hb0 : fb = 0
          · by_cases hl0 : cd.length = 0
            · have fa0 : (fa == 0) = true := beq_iff_eq.2 (by omega)
              have fb0 : (fb == 0) = true := beq_iff_eq.2 (by omega)
              have fl0 : ((cd.length : Int) == 0) = true := beq_iff_eq.2 (by omega)
              have HF := Lib.hid (show gFm ⟨1, fa, fb, cd⟩ M.length = true by rw [gFm_p (by decide), decide_eq_true ha0, decide_eq_true hb0, decide_eq_true hl0]; first | done | rfl)
              clear ha0 hb0 hl0
              go_wp2_with (refine wpList_load_at rfl 63 (.tmp 19) rfl (ad.add (k * 4)) rfl [.int .i64 1, .int .i64 fa, .int .i64 fb, .slice xa cd.length xc] _ HCS.out Tryd.underlying63 rfl (by kernel_rfl) ?_)
              go_quiet (fail)
              go_wp2_with fail
              go_roundw
              case rel =>
                refine ⟨k + 1, by omega, by go_num, ?_, below_drewN BB.out _⟩
                rw [HG3.out, HX.out, List.all_cons, HF.out, Bool.true_and]
              case measure => simp [intOf]; omega
            · have fa0 : (fa == 0) = true := beq_iff_eq.2 (by omega)
              have fb0 : (fb == 0) = true := beq_iff_eq.2 (by omega)
              have fl0 : ((cd.length : Int) == 0) = false := beq_eq_false_iff_ne.2 (by omega)
              have HF := Lib.hid (show gFm ⟨1, fa, fb, cd⟩ M.length = false by rw [gFm_p (by decide), decide_eq_true ha0, decide_eq_true hb0, decide_eq_false hl0]; first | done | rfl)
              clear ha0 hb0 hl0
              go_wp2_with (refine wpList_load_at rfl 63 (.tmp 19) rfl (ad.add (k * 4)) rfl [.int .i64 1, .int .i64 fa, .int .i64 fb, .slice xa cd.length xc] _ HCS.out Tryd.underlying63 rfl (by kernel_rfl) ?_)
              go_quiet (fail)
              go_wp2_with fail
              go_ret
              refine ⟨?_, below_drewN BB.out _⟩
              have e0 : G.all (fun f => gFm f M.length) = false := by rw [HG3.out, HX.out, List.all_cons, HF.out, Bool.false_and]
              simp [e0]
          · have fa0 : (fa == 0) = true := beq_iff_eq.2 (by omega)
            have fb0 : (fb == 0) = false := beq_eq_false_iff_ne.2 (by omega)
            have HF := Lib.hid (show gFm ⟨1, fa, fb, cd⟩ M.length = false by rw [gFm_p (by decide), decide_eq_true ha0, decide_eq_false hb0]; first | done | rfl)
            clear ha0 hb0
            go_wp2_with (refine wpList_load_at rfl 63 (.tmp 19) rfl (ad.add (k * 4)) rfl [.int .i64 1, .int .i64 fa, .int .i64 fb, .slice xa cd.length xc] _ HCS.out Tryd.underlying63 rfl (by kernel_rfl) ?_)
            go_quiet (fail)
            go_wp2_with fail
            go_ret
            refine ⟨?_, below_drewN BB.out _⟩
            have e0 : G.all (fun f => gFm f M.length) = false := by rw [HG3.out, HX.out, List.all_cons, HF.out, Bool.false_and]
            simp [e0]
        · have fa0 : (fa == 0) = false := beq_eq_false_iff_ne.2 (by omega)
          have HF := Lib.hid (show gFm ⟨1, fa, fb, cd⟩ M.length = false by rw [gFm_p (by decide), decide_eq_false ha0]; first | done | rfl)
          clear ha0
          go_wp2_with (refine wpList_load_at rfl 63 (.tmp 19) rfl (ad.add (k * 4)) rfl [.int .i64 1, .int .i64 fa, .int .i64 fb, .slice xa cd.length xc] _ HCS.out Tryd.underlying63 rfl (by kernel_rfl) ?_)
          go_quiet (fail)
          go_wp2_with fail
          go_ret
          refine ⟨?_, below_drewN BB.out _⟩
          have e0 : G.all (fun f => gFm f M.length) = false := by rw [HG3.out, HX.out, List.all_cons, HF.out, Bool.false_and]
          simp [e0]
      · by_cases ha0 : fa = 0
        · by_cases hb0 : fb = 0
          · by_cases hl0 : cd.length = 0
            · have fa0 : (fa == 0) = true := beq_iff_eq.2 (by omega)
              have fb0 : (fb == 0) = true := beq_iff_eq.2 (by omega)
              have fl0 : ((cd.length : Int) == 0) = true := beq_iff_eq.2 (by omega)
              have HF := Lib.hid (show gFm ⟨2, fa, fb, cd⟩ M.length = true by rw [gFm_p (by decide), decide_eq_true ha0, decide_eq_true hb0, decide_eq_true hl0]; first | done | rfl)
              clear ha0 hb0 hl0
              go_wp2_with (refine wpList_load_at rfl 63 (.tmp 19) rfl (ad.add (k * 4)) rfl [.int .i64 2, .int .i64 fa, .int .i64 fb, .slice xa cd.length xc] _ HCS.out Tryd.underlying63 rfl (by kernel_rfl) ?_)
              go_quiet (fail)
              go_wp2_with fail
              go_roundw
              case rel =>
                refine ⟨k + 1, by omega, by go_num, ?_, below_drewN BB.out _⟩
                rw [HG3.out, HX.out, List.all_cons, HF.out, Bool.true_and]
              case measure => simp [intOf]; omega
            · have fa0 : (fa == 0) = true := beq_iff_eq.2 (by omega)
              have fb0 : (fb == 0) = true := beq_iff_eq.2 (by omega)
              have fl0 : ((cd.length : Int) == 0) = false := beq_eq_false_iff_ne.2 (by omega)
              have HF := Lib.hid (show gFm ⟨2, fa, fb, cd⟩ M.length = false by rw [gFm_p (by decide), decide_eq_true ha0, decide_eq_true hb0, decide_eq_false hl0]; first | done | rfl)
              clear ha0 hb0 hl0
              go_wp2_with (refine wpList_load_at rfl 63 (.tmp 19) rfl (ad.add (k * 4)) rfl [.int .i64 2, .int .i64 fa, .int .i64 fb, .slice xa cd.length xc] _ HCS.out Tryd.underlying63 rfl (by kernel_rfl) ?_)
              go_quiet (fail)
              go_wp2_with fail
              go_ret
              refine ⟨?_, below_drewN BB.out _⟩
              have e0 : G.all (fun f => gFm f M.length) = false := by rw [HG3.out, HX.out, List.all_cons, HF.out, Bool.false_and]
              simp [e0]
          · have fa0 : (fa == 0) = true := beq_iff_eq.2 (by omega)
            have fb0 : (fb == 0) = false := beq_eq_false_iff_ne.2 (by omega)
            have HF := Lib.hid (show gFm ⟨2, fa, fb, cd⟩ M.length = false by rw [gFm_p (by decide), decide_eq_true ha0, decide_eq_false hb0]; first | done | rfl)
            clear ha0 hb0
            go_wp2_with (refine wpList_load_at rfl 63 (.tmp 19) rfl (ad.add (k * 4)) rfl [.int .i64 2, .int .i64 fa, .int .i64 fb, .slice xa cd.length xc] _ HCS.out Tryd.underlying63 rfl (by kernel_rfl) ?_)
            go_quiet (fail)
            go_wp2_with fail
            go_ret
            refine ⟨?_, below_drewN BB.out _⟩
            have e0 : G.all (fun f => gFm f M.length) = false := by rw [HG3.out, HX.out, List.all_cons, HF.out, Bool.false_and]
            simp [e0]
        · have fa0 : (fa == 0) = false := beq_eq_false_iff_ne.2 (by omega)
          have HF := Lib.hid (show gFm ⟨2, fa, fb, cd⟩ M.length = false by rw [gFm_p (by decide), decide_eq_false ha0]; first | done | rfl)
          clear ha0
          go_wp2_with (refine wpList_load_at rfl 63 (.tmp 19) rfl (ad.add (k * 4)) rfl [.int .i64 2, .int .i64 fa, .int .i64 fb, .slice xa cd.length xc] _ HCS.out Tryd.underlying63 rfl (by kernel_rfl) ?_)
          go_quiet (fail)
          go_wp2_with fail
          go_ret
          refine ⟨?_, below_drewN BB.out _⟩
          have e0 : G.all (fun f => gFm f M.length) = false := by rw [HG3.out, HX.out, List.all_cons, HF.out, Bool.false_and]
          simp [e0]
      · by_cases ha0 : fa = 0
        · by_cases hb0 : fb = 0
          · by_cases hl0 : cd.length = 0
            · have fa0 : (fa == 0) = true := beq_iff_eq.2 (by omega)
              have fb0 : (fb == 0) = true := beq_iff_eq.2 (by omega)
              have fl0 : ((cd.length : Int) == 0) = true := beq_iff_eq.2 (by omega)
              have HF := Lib.hid (show gFm ⟨3, fa, fb, cd⟩ M.length = true by rw [gFm_p (by decide), decide_eq_true ha0, decide_eq_true hb0, decide_eq_true hl0]; first | done | rfl)
              clear ha0 hb0 hl0
              go_wp2_with (refine wpList_load_at rfl 63 (.tmp 19) rfl (ad.add (k * 4)) rfl [.int .i64 3, .int .i64 fa, .int .i64 fb, .slice xa cd.length xc] _ HCS.out Tryd.underlying63 rfl (by kernel_rfl) ?_)
              go_quiet (fail)
              go_wp2_with fail
              go_roundw
              case rel =>
                refine ⟨k + 1, by omega, by go_num, ?_, below_drewN BB.out _⟩
                rw [HG3.out, HX.out, List.all_cons, HF.out, Bool.true_and]
              case measure => simp [intOf]; omega
            · have fa0 : (fa == 0) = true := beq_iff_eq.2 (by omega)
              have fb0 : (fb == 0) = true := beq_iff_eq.2 (by omega)
              have fl0 : ((cd.length : Int) == 0) = false := beq_eq_false_iff_ne.2 (by omega)
              have HF := Lib.hid (show gFm ⟨3, fa, fb, cd⟩ M.length = false by rw [gFm_p (by decide), decide_eq_true ha0, decide_eq_true hb0, decide_eq_false hl0]; first | done | rfl)
              clear ha0 hb0 hl0
              go_wp2_with (refine wpList_load_at rfl 63 (.tmp 19) rfl (ad.add (k * 4)) rfl [.int .i64 3, .int .i64 fa, .int .i64 fb, .slice xa cd.length xc] _ HCS.out Tryd.underlying63 rfl (by kernel_rfl) ?_)
              go_quiet (fail)
              go_wp2_with fail
              go_ret
              refine ⟨?_, below_drewN BB.out _⟩
              have e0 : G.all (fun f => gFm f M.length) = false := by rw [HG3.out, HX.out, List.all_cons, HF.out, Bool.false_and]
              simp [e0]
          · have fa0 : (fa == 0) = true := beq_iff_eq.2 (by omega)
            have fb0 : (fb == 0) = false := beq_eq_false_iff_ne.2 (by omega)
            have HF := Lib.hid (show gFm ⟨3, fa, fb, cd⟩ M.length = false by rw [gFm_p (by decide), decide_eq_true ha0, decide_eq_false hb0]; first | done | rfl)
            clear ha0 hb0
            go_wp2_with (refine wpList_load_at rfl 63 (.tmp 19) rfl (ad.add (k * 4)) rfl [.int .i64 3, .int .i64 fa, .int .i64 fb, .slice xa cd.length xc] _ HCS.out Tryd.underlying63 rfl (by kernel_rfl) ?_)
            go_quiet (fail)
            go_wp2_with fail
            go_ret
            refine ⟨?_, below_drewN BB.out _⟩
            have e0 : G.all (fun f => gFm f M.length) = false := by rw [HG3.out, HX.out, List.all_cons, HF.out, Bool.false_and]
            simp [e0]
        · have fa0 : (fa == 0) = false := beq_eq_false_iff_ne.2 (by omega)
          have HF := Lib.hid (show gFm ⟨3, fa, fb, cd⟩ M.length = false by rw [gFm_p (by decide), decide_eq_false ha0]; first | done | rfl)
          clear ha0
          go_wp2_with (refine wpList_load_at rfl 63 (.tmp 19) rfl (ad.add (k * 4)) rfl [.int .i64 3, .int .i64 fa, .int .i64 fb, .slice xa cd.length xc] _ HCS.out Tryd.underlying63 rfl (by kernel_rfl) ?_)
          go_quiet (fail)
          go_wp2_with fail
          go_ret
          refine ⟨?_, below_drewN BB.out _⟩
          have e0 : G.all (fun f => gFm f M.length) = false := by rw [HG3.out, HX.out, List.all_cons, HF.out, Bool.false_and]
          simp [e0]
      · by_cases ha0 : fa = 0
        · by_cases hb0 : fb = 0
          · by_cases hl0 : cd.length = 0
            · have fa0 : (fa == 0) = true := beq_iff_eq.2 (by omega)
              have fb0 : (fb == 0) = true := beq_iff_eq.2 (by omega)
              have fl0 : ((cd.length : Int) == 0) = true := beq_iff_eq.2 (by omega)
              have HF := Lib.hid (show gFm ⟨4, fa, fb, cd⟩ M.length = true by rw [gFm_p (by decide), decide_eq_true ha0, decide_eq_true hb0, decide_eq_true hl0]; first | done | rfl)
              clear ha0 hb0 hl0
              go_wp2_with (refine wpList_load_at rfl 63 (.tmp 19) rfl (ad.add (k * 4)) rfl [.int .i64 4, .int .i64 fa, .int .i64 fb, .slice xa cd.length xc] _ HCS.out Tryd.underlying63 rfl (by kernel_rfl) ?_)
              go_quiet (fail)
              go_wp2_with fail
              go_roundw
              case rel =>
                refine ⟨k + 1, by omega, by go_num, ?_, below_drewN BB.out _⟩
                rw [HG3.out, HX.out, List.all_cons, HF.out, Bool.true_and]
              case measure => simp [intOf]; omega
            · have fa0 : (fa == 0) = true := beq_iff_eq.2 (by omega)
              have fb0 : (fb == 0) = true := beq_iff_eq.2 (by omega)
              have fl0 : ((cd.length : Int) == 0) = false := beq_eq_false_iff_ne.2 (by omega)
              have HF := Lib.hid (show gFm ⟨4, fa, fb, cd⟩ M.length = false by rw [gFm_p (by decide), decide_eq_true ha0, decide_eq_true hb0, decide_eq_false hl0]; first | done | rfl)
              clear ha0 hb0 hl0
              go_wp2_with (refine wpList_load_at rfl 63 (.tmp 19) rfl (ad.add (k * 4)) rfl [.int .i64 4, .int .i64 fa, .int .i64 fb, .slice xa cd.length xc] _ HCS.out Tryd.underlying63 rfl (by kernel_rfl) ?_)
              go_quiet (fail)
              go_wp2_with fail
              go_ret
              refine ⟨?_, below_drewN BB.out _⟩
              have e0 : G.all (fun f => gFm f M.length) = false := by rw [HG3.out, HX.out, List.all_cons, HF.out, Bool.false_and]
              simp [e0]
          · have fa0 : (fa == 0) = true := beq_iff_eq.2 (by omega)
            have fb0 : (fb == 0) = false := beq_eq_false_iff_ne.2 (by omega)
            have HF := Lib.hid (show gFm ⟨4, fa, fb, cd⟩ M.length = false by rw [gFm_p (by decide), decide_eq_true ha0, decide_eq_false hb0]; first | done | rfl)
            clear ha0 hb0
            go_wp2_with (refine wpList_load_at rfl 63 (.tmp 19) rfl (ad.add (k * 4)) rfl [.int .i64 4, .int .i64 fa, .int .i64 fb, .slice xa cd.length xc] _ HCS.out Tryd.underlying63 rfl (by kernel_rfl) ?_)
            go_quiet (fail)
            go_wp2_with fail
            go_ret
            refine ⟨?_, below_drewN BB.out _⟩
            have e0 : G.all (fun f => gFm f M.length) = false := by rw [HG3.out, HX.out, List.all_cons, HF.out, Bool.false_and]
            simp [e0]
        · have fa0 : (fa == 0) = false := beq_eq_false_iff_ne.2 (by omega)
          have HF := Lib.hid (show gFm ⟨4, fa, fb, cd⟩ M.length = false by rw [gFm_p (by decide), decide_eq_false ha0]; first | done | rfl)
          clear ha0
          go_wp2_with (refine wpList_load_at rfl 63 (.tmp 19) rfl (ad.add (k * 4)) rfl [.int .i64 4, .int .i64 fa, .int .i64 fb, .slice xa cd.length xc] _ HCS.out Tryd.underlying63 rfl (by kernel_rfl) ?_)
          go_quiet (fail)
          go_wp2_with fail
          go_ret
          refine ⟨?_, below_drewN BB.out _⟩
          have e0 : G.all (fun f => gFm f M.length) = false := by rw [HG3.out, HX.out, List.all_cons, HF.out, Bool.false_and]
          simp [e0]
      · by_cases hap : 0 ≤ fa
        · by_cases ham : fa < M.length
          · by_cases hbp : 0 ≤ fb
            · by_cases hbm : fb < M.length
              · by_cases hl0 : cd.length = 0
                · have fap : decide (0 ≤ fa) = true := decide_eq_true hap
                  have fam : decide (fa < (M.length : Int)) = true := decide_eq_true ham
                  have fbp : decide (0 ≤ fb) = true := decide_eq_true hbp
                  have fbm : decide (fb < (M.length : Int)) = true := decide_eq_true hbm
                  have fl0 : ((cd.length : Int) == 0) = true := beq_iff_eq.2 (by omega)
                  have HF := Lib.hid (show gFm ⟨5, fa, fb, cd⟩ M.length = true by rw [gFm_5, decide_eq_true hap, decide_eq_true ham, decide_eq_true hbp, decide_eq_true hbm, decide_eq_true hl0]; first | done | rfl)
                  clear hap ham hbp hbm hl0
                  go_wp2_with (refine wpList_load_at rfl 63 (.tmp 19) rfl (ad.add (k * 4)) rfl [.int .i64 5, .int .i64 fa, .int .i64 fb, .slice xa cd.length xc] _ HCS.out Tryd.underlying63 rfl (by kernel_rfl) ?_)
                  go_quiet (fail)
                  go_wp2_with fail
                  go_quiet (fail)
                  go_wp2_with fail
                  go_roundw
                  case rel =>
                    refine ⟨k + 1, by omega, by go_num, ?_, below_drewN BB.out _⟩
                    rw [HG3.out, HX.out, List.all_cons, HF.out, Bool.true_and]
                  case measure => simp [intOf]; omega
                · have fap : decide (0 ≤ fa) = true := decide_eq_true hap
                  have fam : decide (fa < (M.length : Int)) = true := decide_eq_true ham
                  have fbp : decide (0 ≤ fb) = true := decide_eq_true hbp
                  have fbm : decide (fb < (M.length : Int)) = true := decide_eq_true hbm
                  have fl0 : ((cd.length : Int) == 0) = false := beq_eq_false_iff_ne.2 (by omega)
                  have HF := Lib.hid (show gFm ⟨5, fa, fb, cd⟩ M.length = false by rw [gFm_5, decide_eq_true hap, decide_eq_true ham, decide_eq_true hbp, decide_eq_true hbm, decide_eq_false hl0]; first | done | rfl)
                  clear hap ham hbp hbm hl0
                  go_wp2_with (refine wpList_load_at rfl 63 (.tmp 19) rfl (ad.add (k * 4)) rfl [.int .i64 5, .int .i64 fa, .int .i64 fb, .slice xa cd.length xc] _ HCS.out Tryd.underlying63 rfl (by kernel_rfl) ?_)
                  go_quiet (fail)
                  go_wp2_with fail
                  go_quiet (fail)
                  go_wp2_with fail
                  go_ret
                  refine ⟨?_, below_drewN BB.out _⟩
                  have e0 : G.all (fun f => gFm f M.length) = false := by rw [HG3.out, HX.out, List.all_cons, HF.out, Bool.false_and]
                  simp [e0]
              · have fap : decide (0 ≤ fa) = true := decide_eq_true hap
                have fam : decide (fa < (M.length : Int)) = true := decide_eq_true ham
                have fbp : decide (0 ≤ fb) = true := decide_eq_true hbp
                have fbm : decide (fb < (M.length : Int)) = false := decide_eq_false hbm
                have HF := Lib.hid (show gFm ⟨5, fa, fb, cd⟩ M.length = false by rw [gFm_5, decide_eq_true hap, decide_eq_true ham, decide_eq_true hbp, decide_eq_false hbm]; first | done | rfl)
                clear hap ham hbp hbm
                go_wp2_with (refine wpList_load_at rfl 63 (.tmp 19) rfl (ad.add (k * 4)) rfl [.int .i64 5, .int .i64 fa, .int .i64 fb, .slice xa cd.length xc] _ HCS.out Tryd.underlying63 rfl (by kernel_rfl) ?_)
                go_quiet (fail)
                go_wp2_with fail
                go_quiet (fail)
                go_wp2_with fail
                go_ret
                refine ⟨?_, below_drewN BB.out _⟩
                have e0 : G.all (fun f => gFm f M.length) = false := by rw [HG3.out, HX.out, List.all_cons, HF.out, Bool.false_and]
                simp [e0]
            · have fap : decide (0 ≤ fa) = true := decide_eq_true hap
              have fam : decide (fa < (M.length : Int)) = true := decide_eq_true ham
              have fbp : decide (0 ≤ fb) = false := decide_eq_false hbp
              have HF := Lib.hid (show gFm ⟨5, fa, fb, cd⟩ M.length = false by rw [gFm_5, decide_eq_true hap, decide_eq_true ham, decide_eq_false hbp]; first | done | rfl)
              clear hap ham hbp
              go_wp2_with (refine wpList_load_at rfl 63 (.tmp 19) rfl (ad.add (k * 4)) rfl [.int .i64 5, .int .i64 fa, .int .i64 fb, .slice xa cd.length xc] _ HCS.out Tryd.underlying63 rfl (by kernel_rfl) ?_)
              go_quiet (fail)
              go_wp2_with fail
              go_quiet (fail)
              go_wp2_with fail
              go_ret
              refine ⟨?_, below_drewN BB.out _⟩
              have e0 : G.all (fun f => gFm f M.length) = false := by rw [HG3.out, HX.out, List.all_cons, HF.out, Bool.false_and]
              simp [e0]
          · by_cases hbp : 0 ≤ fb
            · by_cases hbm : fb < M.length
              · have fap : decide (0 ≤ fa) = true := decide_eq_true hap
                have fam : decide (fa < (M.length : Int)) = false := decide_eq_false ham
                have fbp : decide (0 ≤ fb) = true := decide_eq_true hbp
                have fbm : decide (fb < (M.length : Int)) = true := decide_eq_true hbm
                have HF := Lib.hid (show gFm ⟨5, fa, fb, cd⟩ M.length = false by rw [gFm_5, decide_eq_true hap, decide_eq_false ham, decide_eq_true hbp, decide_eq_true hbm]; first | done | rfl)
                clear hap ham hbp hbm
                go_wp2_with (refine wpList_load_at rfl 63 (.tmp 19) rfl (ad.add (k * 4)) rfl [.int .i64 5, .int .i64 fa, .int .i64 fb, .slice xa cd.length xc] _ HCS.out Tryd.underlying63 rfl (by kernel_rfl) ?_)
                go_quiet (fail)
                go_wp2_with fail
                go_quiet (fail)
                go_wp2_with fail
                go_ret
                refine ⟨?_, below_drewN BB.out _⟩
                have e0 : G.all (fun f => gFm f M.length) = false := by rw [HG3.out, HX.out, List.all_cons, HF.out, Bool.false_and]
                simp [e0]
              · have fap : decide (0 ≤ fa) = true := decide_eq_true hap
                have fam : decide (fa < (M.length : Int)) = false := decide_eq_false ham
                have fbp : decide (0 ≤ fb) = true := decide_eq_true hbp
                have fbm : decide (fb < (M.length : Int)) = false := decide_eq_false hbm
                have HF := Lib.hid (show gFm ⟨5, fa, fb, cd⟩ M.length = false by rw [gFm_5, decide_eq_true hap, decide_eq_false ham, decide_eq_true hbp, decide_eq_false hbm]; first | done | rfl)
                clear hap ham hbp hbm
                go_wp2_with (refine wpList_load_at rfl 63 (.tmp 19) rfl (ad.add (k * 4)) rfl [.int .i64 5, .int .i64 fa, .int .i64 fb, .slice xa cd.length xc] _ HCS.out Tryd.underlying63 rfl (by kernel_rfl) ?_)
                go_quiet (fail)
                go_wp2_with fail
                go_quiet (fail)
                go_wp2_with fail
                go_ret
                refine ⟨?_, below_drewN BB.out _⟩
                have e0 : G.all (fun f => gFm f M.length) = false := by rw [HG3.out, HX.out, List.all_cons, HF.out, Bool.false_and]
                simp [e0]
            · have fap : decide (0 ≤ fa) = true := decide_eq_true hap
              have fam : decide (fa < (M.length : Int)) = false := decide_eq_false ham
              have fbp : decide (0 ≤ fb) = false := decide_eq_false hbp
              have HF := Lib.hid (show gFm ⟨5, fa, fb, cd⟩ M.length = false by rw [gFm_5, decide_eq_true hap, decide_eq_false ham, decide_eq_false hbp]; first | done | rfl)
              clear hap ham hbp
              go_wp2_with (refine wpList_load_at rfl 63 (.tmp 19) rfl (ad.add (k * 4)) rfl [.int .i64 5, .int .i64 fa, .int .i64 fb, .slice xa cd.length xc] _ HCS.out Tryd.underlying63 rfl (by kernel_rfl) ?_)
              go_quiet (fail)
              go_wp2_with fail
              go_quiet (fail)
              go_wp2_with fail
              go_ret
              refine ⟨?_, below_drewN BB.out _⟩
              have e0 : G.all (fun f => gFm f M.length) = false := by rw [HG3.out, HX.out, List.all_cons, HF.out, Bool.false_and]
              simp [e0]
        · by_cases hbp : 0 ≤ fb
          · by_cases hbm : fb < M.length
            · have fap : decide (0 ≤ fa) = false := decide_eq_false hap
              have fbp : decide (0 ≤ fb) = true := decide_eq_true hbp
              have fbm : decide (fb < (M.length : Int)) = true := decide_eq_true hbm
              have HF := Lib.hid (show gFm ⟨5, fa, fb, cd⟩ M.length = false by rw [gFm_5, decide_eq_false hap, decide_eq_true hbp, decide_eq_true hbm]; first | done | rfl)
              clear hap hbp hbm
              go_wp2_with (refine wpList_load_at rfl 63 (.tmp 19) rfl (ad.add (k * 4)) rfl [.int .i64 5, .int .i64 fa, .int .i64 fb, .slice xa cd.length xc] _ HCS.out Tryd.underlying63 rfl (by kernel_rfl) ?_)
              go_quiet (fail)
              go_wp2_with fail
              go_quiet (fail)
              go_wp2_with fail
              go_ret
              refine ⟨?_, below_drewN BB.out _⟩
              have e0 : G.all (fun f => gFm f M.length) = false := by rw [HG3.out, HX.out, List.all_cons, HF.out, Bool.false_and]
              simp [e0]
            · have fap : decide (0 ≤ fa) = false := decide_eq_false hap
              have fbp : decide (0 ≤ fb) = true := decide_eq_true hbp
              have fbm : decide (fb < (M.length : Int)) = false := decide_eq_false hbm
              have HF := Lib.hid (show gFm ⟨5, fa, fb, cd⟩ M.length = false by rw [gFm_5, decide_eq_false hap, decide_eq_true hbp, decide_eq_false hbm]; first | done | rfl)
              clear hap hbp hbm
              go_wp2_with (refine wpList_load_at rfl 63 (.tmp 19) rfl (ad.add (k * 4)) rfl [.int .i64 5, .int .i64 fa, .int .i64 fb, .slice xa cd.length xc] _ HCS.out Tryd.underlying63 rfl (by kernel_rfl) ?_)
              go_quiet (fail)
              go_wp2_with fail
              go_quiet (fail)
              go_wp2_with fail
              go_ret
              refine ⟨?_, below_drewN BB.out _⟩
              have e0 : G.all (fun f => gFm f M.length) = false := by rw [HG3.out, HX.out, List.all_cons, HF.out, Bool.false_and]
              simp [e0]
          · have fap : decide (0 ≤ fa) = false := decide_eq_false hap
            have fbp : decide (0 ≤ fb) = false := decide_eq_false hbp
            have HF := Lib.hid (show gFm ⟨5, fa, fb, cd⟩ M.length = false by rw [gFm_5, decide_eq_false hap, decide_eq_false hbp]; first | done | rfl)
            clear hap hbp
            go_wp2_with (refine wpList_load_at rfl 63 (.tmp 19) rfl (ad.add (k * 4)) rfl [.int .i64 5, .int .i64 fa, .int .i64 fb, .slice xa cd.length xc] _ HCS.out Tryd.underlying63 rfl (by kernel_rfl) ?_)
            go_quiet (fail)
            go_wp2_with fail
            go_quiet (fail)
            go_wp2_with fail
            go_ret
            refine ⟨?_, below_drewN BB.out _⟩
            have e0 : G.all (fun f => gFm f M.length) = false := by rw [HG3.out, HX.out, List.all_cons, HF.out, Bool.false_and]
            simp [e0]
      · by_cases hap : 0 ≤ fa
        · by_cases ham : fa < M.length
          · by_cases hb0 : fb = 0
            · by_cases hl0 : cd.length = 0
              · have fap : decide (0 ≤ fa) = true := decide_eq_true hap
                have fam : decide (fa < (M.length : Int)) = true := decide_eq_true ham
                have fb0 : (fb == 0) = true := beq_iff_eq.2 (by omega)
                have fl0 : ((cd.length : Int) == 0) = true := beq_iff_eq.2 (by omega)
                have HF := Lib.hid (show gFm ⟨6, fa, fb, cd⟩ M.length = true by rw [gFm_6, decide_eq_true hap, decide_eq_true ham, decide_eq_true hb0, decide_eq_true hl0]; first | done | rfl)
                clear hap ham hb0 hl0
                go_wp2_with (refine wpList_load_at rfl 63 (.tmp 19) rfl (ad.add (k * 4)) rfl [.int .i64 6, .int .i64 fa, .int .i64 fb, .slice xa cd.length xc] _ HCS.out Tryd.underlying63 rfl (by kernel_rfl) ?_)
                go_quiet (fail)
                go_wp2_with fail
                go_roundw
                case rel =>
                  refine ⟨k + 1, by omega, by go_num, ?_, below_drewN BB.out _⟩
                  rw [HG3.out, HX.out, List.all_cons, HF.out, Bool.true_and]
                case measure => simp [intOf]; omega
              · have fap : decide (0 ≤ fa) = true := decide_eq_true hap
                have fam : decide (fa < (M.length : Int)) = true := decide_eq_true ham
                have fb0 : (fb == 0) = true := beq_iff_eq.2 (by omega)
                have fl0 : ((cd.length : Int) == 0) = false := beq_eq_false_iff_ne.2 (by omega)
                have HF := Lib.hid (show gFm ⟨6, fa, fb, cd⟩ M.length = false by rw [gFm_6, decide_eq_true hap, decide_eq_true ham, decide_eq_true hb0, decide_eq_false hl0]; first | done | rfl)
                clear hap ham hb0 hl0
                go_wp2_with (refine wpList_load_at rfl 63 (.tmp 19) rfl (ad.add (k * 4)) rfl [.int .i64 6, .int .i64 fa, .int .i64 fb, .slice xa cd.length xc] _ HCS.out Tryd.underlying63 rfl (by kernel_rfl) ?_)
                go_quiet (fail)
                go_wp2_with fail
                go_ret
                refine ⟨?_, below_drewN BB.out _⟩
                have e0 : G.all (fun f => gFm f M.length) = false := by rw [HG3.out, HX.out, List.all_cons, HF.out, Bool.false_and]
                simp [e0]
            · have fap : decide (0 ≤ fa) = true := decide_eq_true hap
              have fam : decide (fa < (M.length : Int)) = true := decide_eq_true ham
              have fb0 : (fb == 0) = false := beq_eq_false_iff_ne.2 (by omega)
              have HF := Lib.hid (show gFm ⟨6, fa, fb, cd⟩ M.length = false by rw [gFm_6, decide_eq_true hap, decide_eq_true ham, decide_eq_false hb0]; first | done | rfl)
              clear hap ham hb0
              go_wp2_with (refine wpList_load_at rfl 63 (.tmp 19) rfl (ad.add (k * 4)) rfl [.int .i64 6, .int .i64 fa, .int .i64 fb, .slice xa cd.length xc] _ HCS.out Tryd.underlying63 rfl (by kernel_rfl) ?_)
              go_quiet (fail)
              go_wp2_with fail
              go_ret
              refine ⟨?_, below_drewN BB.out _⟩
              have e0 : G.all (fun f => gFm f M.length) = false := by rw [HG3.out, HX.out, List.all_cons, HF.out, Bool.false_and]
              simp [e0]
          · have fap : decide (0 ≤ fa) = true := decide_eq_true hap
            have fam : decide (fa < (M.length : Int)) = false := decide_eq_false ham
            have HF := Lib.hid (show gFm ⟨6, fa, fb, cd⟩ M.length = false by rw [gFm_6, decide_eq_true hap, decide_eq_false ham]; first | done | rfl)
            clear hap ham
            go_wp2_with (refine wpList_load_at rfl 63 (.tmp 19) rfl (ad.add (k * 4)) rfl [.int .i64 6, .int .i64 fa, .int .i64 fb, .slice xa cd.length xc] _ HCS.out Tryd.underlying63 rfl (by kernel_rfl) ?_)
            go_quiet (fail)
            go_wp2_with fail
            go_ret
            refine ⟨?_, below_drewN BB.out _⟩
            have e0 : G.all (fun f => gFm f M.length) = false := by rw [HG3.out, HX.out, List.all_cons, HF.out, Bool.false_and]
            simp [e0]
        · have fap : decide (0 ≤ fa) = false := decide_eq_false hap
          have HF := Lib.hid (show gFm ⟨6, fa, fb, cd⟩ M.length = false by rw [gFm_6, decide_eq_false hap]; first | done | rfl)
          clear hap
          go_wp2_with (refine wpList_load_at rfl 63 (.tmp 19) rfl (ad.add (k * 4)) rfl [.int .i64 6, .int .i64 fa, .int .i64 fb, .slice xa cd.length xc] _ HCS.out Tryd.underlying63 rfl (by kernel_rfl) ?_)
          go_quiet (fail)
          go_wp2_with fail
          go_ret
          refine ⟨?_, below_drewN BB.out _⟩
          have e0 : G.all (fun f => gFm f M.length) = false := by rw [HG3.out, HX.out, List.all_cons, HF.out, Bool.false_and]
          simp [e0]
      · obtain ⟨wo, rfl⟩ : ∃ wo : World, wo = wr := ⟨_, rfl⟩
        have c3 := Q4.cell 3
        have hcl := HX2.out
        by_cases hl1 : 1 ≤ cd.length
        · have fl1 : decide (1 ≤ (cd.length : Int)) = true := decide_eq_true (by omega)
          have HC0 := Lib.hid (show (decide (1 ≤ cd.length) && decide (cd.length ≤ 20)) = decide ((cd.length : Int) ≤ 20) by rw [decide_eq_true hl1, Bool.true_and]; exact decide_eq_decide.2 (by omega))
          generalize hc0 : decide ((cd.length : Int) ≤ 20) = c0 at HC0
          have H7 := Lib.hid hl1
          clear hl1
          go_wp2_with (refine wpList_load_at rfl 63 (.tmp 19) rfl (ad.add (k * 4)) rfl [.int .i64 7, .int .i64 fa, .int .i64 fb, .slice xa cd.length xc] _ HCS.out Tryd.underlying63 rfl (by kernel_rfl) ?_)
          go_quiet (fail)
          go_wp2_with fail
          go_loopw [9, 8] (fun i cb wr' => ∃ (j : Nat) (b : Bool), j ≤ cd.length ∧ i = .int .i64 j ∧ cb = .bool b ∧ b = (c0 && (cd.take j).all fun c => decide (-1 ≤ c) && decide (c < (M.length : Int))) ∧ Below w.heap.size w wr' ∧ Blk wr' wo.heap.size 63 #[.int .i64 7, .int .i64 fa, .int .i64 fb, .slice xa cd.length xc]) (fun i _ _ => cd.length - (intOf i).toNat)
          case atStart => exact ⟨0, _, by omega, rfl, rfl, by simp, below_drewN BB.out _, Q4.drewN _⟩
          case round =>
            obtain ⟨j, b, hj, rfl, rfl, hb, hbw, hq⟩ := hrel
            have HBV := Lib.hid hb
            clear hb
            have q3 := hq.cell 3
            by_cases hjl : j < cd.length
            · have hjl' : (j : Int) < (cd.length : Int) := by omega
              have HT := Lib.hid (show (cd.take (j + 1)).all (fun c => decide (-1 ≤ c) && decide (c < (M.length : Int))) = ((cd.take j).all (fun c => decide (-1 ≤ c) && decide (c < (M.length : Int))) && (decide (-1 ≤ cd[j]) && decide (cd[j] < (M.length : Int)))) by
                rw [List.take_add_one, List.all_append, List.getElem?_eq_getElem hjl]
                simp)
              obtain ⟨ad2, u, rfl, hbl2, hu, hcs2⟩ := (HX1.out.below hbw).at_ hjl
              obtain rfl : Value.int .i64 cd[j] = u := by
                rw [List.getElem?_map, List.getElem?_eq_getElem hjl] at hu
                exact Option.some.inj hu
              clear hu
              generalize cd[j] = x at hcs2 HT
              cases b
              · go_wp2_with fail
                go_roundw
                case rel =>
                  refine ⟨j + 1, _, by omega, by go_num, rfl, ?_, hbw, hq⟩
                  rw [HT.out, ← Bool.and_assoc, ← HBV.out, Bool.false_and]
                case measure => simp [intOf]; omega
              · by_cases hx0 : -1 ≤ x
                · have fx : decide (-1 ≤ x) = true := decide_eq_true hx0
                  have HX0 := Lib.hid hx0
                  clear hx0
                  go_wp2_with fail
                  go_roundw
                  case rel =>
                    refine ⟨j + 1, _, by omega, by go_num, rfl, ?_, hbw, hq⟩
                    rw [HT.out, ← Bool.and_assoc, ← HBV.out, Bool.true_and, decide_eq_true HX0.out, Bool.true_and]
                  case measure => simp [intOf]; omega
                · have fx : decide (-1 ≤ x) = false := decide_eq_false hx0
                  have HX0 := Lib.hid hx0
                  clear hx0
                  go_wp2_with fail
                  go_roundw
                  case rel =>
                    refine ⟨j + 1, _, by omega, by go_num, rfl, ?_, hbw, hq⟩
                    rw [HT.out, ← Bool.and_assoc, ← HBV.out, Bool.true_and, decide_eq_false HX0.out, Bool.false_and]
                  case measure => simp [intOf]; omega
            · have hjl' : ¬ (j : Int) < (cd.length : Int) := by omega
              have HBV2 := Lib.hid (show b = (c0 && cd.all fun c => decide (-1 ≤ c) && decide (c < (M.length : Int))) by
                have := HBV.out
                rw [List.take_of_length_le (by omega)] at this
                exact this)
              have HG7 := Lib.hid (show gFm ⟨7, fa, fb, cd⟩ M.length = (decide (fa = 0) && (decide (fb = 0) && b)) by
                rw [gFm_7, HC0.out, ← HBV2.out])
              by_cases ha0 : fa = 0
              · have fa0 : (fa == 0) = true := beq_iff_eq.2 ha0
                by_cases hb0 : fb = 0
                · have fb0 : (fb == 0) = true := beq_iff_eq.2 hb0
                  have HF := Lib.hid (show gFm ⟨7, fa, fb, cd⟩ M.length = b by rw [HG7.out, decide_eq_true ha0, decide_eq_true hb0, Bool.true_and, Bool.true_and])
                  clear ha0 hb0
                  cases b
                  · go_wp2_with fail
                    go_ret
                    refine ⟨?_, hbw⟩
                    have e0 : G.all (fun f => gFm f M.length) = false := by rw [HG3.out, HX.out, List.all_cons, HF.out, Bool.false_and]
                    simp [e0]
                  · go_wp2_with fail
                    go_roundw
                    case rel =>
                      refine ⟨k + 1, by omega, by go_num, ?_, hbw⟩
                      rw [HG3.out, HX.out, List.all_cons, HF.out, Bool.true_and]
                    case measure => simp [intOf]; omega
                · have fb0 : (fb == 0) = false := beq_eq_false_iff_ne.2 hb0
                  have HF := Lib.hid (show gFm ⟨7, fa, fb, cd⟩ M.length = false by rw [HG7.out, decide_eq_true ha0, decide_eq_false hb0, Bool.true_and, Bool.false_and])
                  clear ha0 hb0
                  go_wp2_with fail
                  go_ret
                  refine ⟨?_, hbw⟩
                  have e0 : G.all (fun f => gFm f M.length) = false := by rw [HG3.out, HX.out, List.all_cons, HF.out, Bool.false_and]
                  simp [e0]
              · have fa0 : (fa == 0) = false := beq_eq_false_iff_ne.2 ha0
                have HF := Lib.hid (show gFm ⟨7, fa, fb, cd⟩ M.length = false by rw [HG7.out, decide_eq_false ha0, Bool.false_and])
                clear ha0
                go_wp2_with fail
                go_ret
                refine ⟨?_, hbw⟩
                have e0 : G.all (fun f => gFm f M.length) = false := by rw [HG3.out, HX.out, List.all_cons, HF.out, Bool.false_and]
                simp [e0]
        · have fl1 : decide (1 ≤ (cd.length : Int)) = false := decide_eq_false (by omega)
          have HC0 := Lib.hid (show (decide (1 ≤ cd.length) && decide (cd.length ≤ 20)) = false by rw [decide_eq_false hl1, Bool.false_and])
          have H7 := Lib.hid hl1
          clear hl1
          go_wp2_with (refine wpList_load_at rfl 63 (.tmp 19) rfl (ad.add (k * 4)) rfl [.int .i64 7, .int .i64 fa, .int .i64 fb, .slice xa cd.length xc] _ HCS.out Tryd.underlying63 rfl (by kernel_rfl) ?_)
          go_quiet (fail)
          go_wp2_with fail
          go_loopw [9, 8] (fun i cb wr' => ∃ (j : Nat) (b : Bool), j ≤ cd.length ∧ i = .int .i64 j ∧ cb = .bool b ∧ b = (false && (cd.take j).all fun c => decide (-1 ≤ c) && decide (c < (M.length : Int))) ∧ Below w.heap.size w wr' ∧ Blk wr' wo.heap.size 63 #[.int .i64 7, .int .i64 fa, .int .i64 fb, .slice xa cd.length xc]) (fun i _ _ => cd.length - (intOf i).toNat)
          case atStart => exact ⟨0, _, by omega, rfl, rfl, by simp, below_drewN BB.out _, Q4.drewN _⟩
          case round =>
            obtain ⟨j, b, hj, rfl, rfl, hb, hbw, hq⟩ := hrel
            have HBV := Lib.hid hb
            clear hb
            have q3 := hq.cell 3
            by_cases hjl : j < cd.length
            · have hjl' : (j : Int) < (cd.length : Int) := by omega
              have HT := Lib.hid (show (cd.take (j + 1)).all (fun c => decide (-1 ≤ c) && decide (c < (M.length : Int))) = ((cd.take j).all (fun c => decide (-1 ≤ c) && decide (c < (M.length : Int))) && (decide (-1 ≤ cd[j]) && decide (cd[j] < (M.length : Int)))) by
                rw [List.take_add_one, List.all_append, List.getElem?_eq_getElem hjl]
                simp)
              obtain ⟨ad2, u, rfl, hbl2, hu, hcs2⟩ := (HX1.out.below hbw).at_ hjl
              obtain rfl : Value.int .i64 cd[j] = u := by
                rw [List.getElem?_map, List.getElem?_eq_getElem hjl] at hu
                exact Option.some.inj hu
              clear hu
              generalize cd[j] = x at hcs2 HT
              cases b
              · go_wp2_with fail
                go_roundw
                case rel =>
                  refine ⟨j + 1, _, by omega, by go_num, rfl, ?_, hbw, hq⟩
                  rw [HT.out, ← Bool.and_assoc, ← HBV.out, Bool.false_and]
                case measure => simp [intOf]; omega
              · by_cases hx0 : -1 ≤ x
                · have fx : decide (-1 ≤ x) = true := decide_eq_true hx0
                  have HX0 := Lib.hid hx0
                  clear hx0
                  go_wp2_with fail
                  go_roundw
                  case rel =>
                    refine ⟨j + 1, _, by omega, by go_num, rfl, ?_, hbw, hq⟩
                    rw [HT.out, ← Bool.and_assoc, ← HBV.out, Bool.true_and, decide_eq_true HX0.out, Bool.true_and]
                  case measure => simp [intOf]; omega
                · have fx : decide (-1 ≤ x) = false := decide_eq_false hx0
                  have HX0 := Lib.hid hx0
                  clear hx0
                  go_wp2_with fail
                  go_roundw
                  case rel =>
                    refine ⟨j + 1, _, by omega, by go_num, rfl, ?_, hbw, hq⟩
                    rw [HT.out, ← Bool.and_assoc, ← HBV.out, Bool.true_and, decide_eq_false HX0.out, Bool.false_and]
                  case measure => simp [intOf]; omega
            · have hjl' : ¬ (j : Int) < (cd.length : Int) := by omega
              have HBV2 := Lib.hid (show b = (false && cd.all fun c => decide (-1 ≤ c) && decide (c < (M.length : Int))) by
                have := HBV.out
                rw [List.take_of_length_le (by omega)] at this
                exact this)
              have HG7 := Lib.hid (show gFm ⟨7, fa, fb, cd⟩ M.length = (decide (fa = 0) && (decide (fb = 0) && b)) by
                rw [gFm_7, HC0.out, ← HBV2.out])
              by_cases ha0 : fa = 0
              · have fa0 : (fa == 0) = true := beq_iff_eq.2 ha0
                by_cases hb0 : fb = 0
                · have fb0 : (fb == 0) = true := beq_iff_eq.2 hb0
                  have HF := Lib.hid (show gFm ⟨7, fa, fb, cd⟩ M.length = b by rw [HG7.out, decide_eq_true ha0, decide_eq_true hb0, Bool.true_and, Bool.true_and])
                  clear ha0 hb0
                  cases b
                  · go_wp2_with fail
                    go_ret
                    refine ⟨?_, hbw⟩
                    have e0 : G.all (fun f => gFm f M.length) = false := by rw [HG3.out, HX.out, List.all_cons, HF.out, Bool.false_and]
                    simp [e0]
                  · go_wp2_with fail
                    go_roundw
                    case rel =>
                      refine ⟨k + 1, by omega, by go_num, ?_, hbw⟩
                      rw [HG3.out, HX.out, List.all_cons, HF.out, Bool.true_and]
                    case measure => simp [intOf]; omega
                · have fb0 : (fb == 0) = false := beq_eq_false_iff_ne.2 hb0
                  have HF := Lib.hid (show gFm ⟨7, fa, fb, cd⟩ M.length = false by rw [HG7.out, decide_eq_true ha0, decide_eq_false hb0, Bool.true_and, Bool.false_and])
                  clear ha0 hb0
                  go_wp2_with fail
                  go_ret
                  refine ⟨?_, hbw⟩
                  have e0 : G.all (fun f => gFm f M.length) = false := by rw [HG3.out, HX.out, List.all_cons, HF.out, Bool.false_and]
                  simp [e0]
              · have fa0 : (fa == 0) = false := beq_eq_false_iff_ne.2 ha0
                have HF := Lib.hid (show gFm ⟨7, fa, fb, cd⟩ M.length = false by rw [HG7.out, decide_eq_false ha0, Bool.false_and])
                clear ha0
                go_wp2_with fail
                go_ret
                refine ⟨?_, hbw⟩
                have e0 : G.all (fun f => gFm f M.length) = false := by rw [HG3.out, HX.out, List.all_cons, HF.out, Bool.false_and]
                simp [e0]
      · have e1 : (kd == 1) = false := by simpa using n1
        have e2 : (kd == 2) = false := by simpa using n2
        have e3 : (kd == 3) = false := by simpa using n3
        have e4 : (kd == 4) = false := by simpa using n4
        have e5 : (kd == 5) = false := by simpa using n5
        have e6 : (kd == 6) = false := by simpa using n6
        have e7 : (kd == 7) = false := by simpa using n7
        have HF := Lib.hid (show gFm ⟨kd, fa, fb, cd⟩ M.length = false from gFm_o (by omega))
        clear n1 n2 n3 n4 n5 n6 n7
        go_wp2_with (refine wpList_load_at rfl 63 (.tmp 19) rfl (ad.add (k * 4)) rfl [.int .i64 kd, .int .i64 fa, .int .i64 fb, .slice xa cd.length xc] _ HCS.out Tryd.underlying63 rfl (by kernel_rfl) ?_)
        go_quiet (fail)
        go_wp2_with fail
        go_ret
        refine ⟨?_, below_drewN BB.out _⟩
        have e0 : G.all (fun f => gFm f M.length) = false := by rw [HG3.out, HX.out, List.all_cons, HF.out, Bool.false_and]
        simp [e0]
    · have hl3 : ¬ (k : Int) < (M.length : Int) := by omega
      have hg : G.all (fun f => gFm f M.length) = true := by
        have h1 := HG3.out
        rw [List.drop_eq_nil_of_le (by have := HLG.out; omega)] at h1
        exact h1
      have HAM := Lib.hid hg
      clear hg HG3
      go_wp2_with fail
      go_ret
      refine ⟨?_, HB3.out⟩
      rw [HAM.out, Bool.true_and]
      exact ret_bool (a := decide ((M.length : Int) ≤ 40)) (b := decide (M.length ≤ 40)) (decide_eq_decide.2 (by omega))
end Go.Proofs.YtiphicejaljhiaaDoor
