/- stockpotref08: what instructions name, the hosts' calls. -/
import Derived.Test.YtiphicejaljhiaaDoorVChk
import Derived.Test.YtiphicejaljhiaaDoorRGood
namespace Go.Proofs.YtiphicejaljhiaaDoor
open Go.ChangeShapes Go.WideShapes Go.ChangeAt Go.RowKit
set_option linter.unusedSimpArgs false
set_option maxRecDepth 100000 in
set_option maxHeartbeats 4000000 in
theorem c68 (q : PrMem) (f : Fn) (fa : Option Addr) (fc : Nat) (i : Ins) (B : Nat) (w : World) (hq : PrOk w B q) (hB : B ≤ w.heap.size) (hi : insGood i = true) (hl : f.code.length ≤ maxLen) :
    Calls Tryd.prog 68 #[q.val, .agg #[.int .i64 f.locals, .int .i64 f.free, .slice fa f.code.length fc], .agg #[.int .i64 i.o, .int .i64 i.a, .int .i64 i.b]] w fun e w' => e = .returned (.bool (vNames q.pr f i)) ∧ Below w.heap.size w w' := by
  have HA := Lib.hid (close_a hi)
  have l1 := hq.lF
  have l2 := hq.lS
  have l3 := hq.lM
  unfold maxLen at l1 l2 l3 hl
  obtain ⟨o, a, b⟩ := i
  obtain ⟨AF, cF, L, AS, cS, S, AM, cM, M⟩ := q
  obtain ⟨lo, fr, cd⟩ := f
  simp only [PrMem.pr, PrMem.val] at l1 l2 l3 hl HA ⊢
  have HF := Lib.hid ((((hq.fns.more hB).alloc (Nat.le_refl _) (.cells #[.slice AF L.length cF, .slice AS S.length cS, .slice AM M.length cM] 42)).alloc (by simp [World.size_alloc]) (.cells #[.int .i64 lo, .int .i64 fr, .slice fa cd.length fc] 60)).alloc (by simp only [World.size_alloc]; omega) (.cells #[.int .i64 o, .int .i64 a, .int .i64 b] 23))
  have b1 := Lib.hid (next_ (below_new w (.cells #[.slice AF L.length cF, .slice AS S.length cS, .slice AM M.length cM] 42)) (next_ (below_new _ (.cells #[.int .i64 lo, .int .i64 fr, .slice fa cd.length fc] 60)) (below_new _ (.cells #[.int .i64 o, .int .i64 a, .int .i64 b] 23))))
  clear hi hq
  by_cases h23 : o = 2 ∨ o = 3
  · have HX := Lib.hid (show vNames ⟨L.map (·.fn), S, M.map (·.fm)⟩ ⟨lo, fr, cd⟩ ⟨o, a, b⟩ = decide (a < lo) by unfold vNames; simp only [if_pos h23])
    rw [HX.out]
    clear HX HF
    rcases h23 with rfl | rfl
    all_goals
      go_enter Tryd.func68, Tryd.ntmps68
      go_wp2_with fail
      go_ret
      exact ⟨by simp, b1.out⟩
  by_cases h4 : o = 4
  · have HX := Lib.hid (show vNames ⟨L.map (·.fn), S, M.map (·.fm)⟩ ⟨lo, fr, cd⟩ ⟨o, a, b⟩ = decide (a < fr) by unfold vNames; simp only [if_neg h23, if_pos h4])
    rw [HX.out]
    clear HX HF
    subst h4
    go_enter Tryd.func68, Tryd.ntmps68
    go_wp2_with fail
    go_ret
    exact ⟨by simp, b1.out⟩
  by_cases h1 : o = 1
  · have HX := Lib.hid (show vNames ⟨L.map (·.fn), S, M.map (·.fm)⟩ ⟨lo, fr, cd⟩ ⟨o, a, b⟩ = decide (a < S.length) by unfold vNames; simp only [if_neg h23, if_neg h4, if_pos h1])
    rw [HX.out]
    clear HX HF
    subst h1
    go_enter Tryd.func68, Tryd.ntmps68
    go_wp2_with fail
    go_ret
    exact ⟨by simp, b1.out⟩
  by_cases hj : o = 10 ∨ o = 11 ∨ o = 33
  · have HX := Lib.hid (show vNames ⟨L.map (·.fn), S, M.map (·.fm)⟩ ⟨lo, fr, cd⟩ ⟨o, a, b⟩ = decide (a < cd.length) by unfold vNames; simp only [if_neg h23, if_neg h4, if_neg h1, if_pos hj])
    rw [HX.out]
    clear HX HF
    rcases hj with rfl | rfl | rfl
    all_goals
      go_enter Tryd.func68, Tryd.ntmps68
      go_wp2_with fail
      go_ret
      exact ⟨by simp, b1.out⟩
  by_cases h6 : o = 6
  · have ha1 := HA.out h6
    by_cases hlt : a < L.length
    · obtain ⟨k, rfl⟩ : ∃ k : Nat, a = k := ⟨a.toNat, by omega⟩
      have hk : k < L.length := by omega
      obtain ⟨ad, rfl, _, hcs⟩ := Reads.rowAt (f := Fnv.cells) (m := 3) (fun _ => rfl) HF.out (by decide) (List.getElem?_eq_getElem hk)
      have HX := Lib.hid (show vNames ⟨L.map (·.fn), S, M.map (·.fm)⟩ ⟨lo, fr, cd⟩ ⟨o, k, b⟩ = decide (b = (L[k].fn).free) by
        unfold vNames
        simp only [if_neg h23, if_neg h4, if_neg h1, if_neg hj, if_pos h6, List.length_map, decide_eq_true hlt, Bool.true_and, Int.toNat_natCast]
        have e : (L.map (·.fn)).getD k ⟨0, 0, []⟩ = L[k].fn := by
          rw [List.getD_eq_getElem?_getD, List.getElem?_map, List.getElem?_eq_getElem hk]
          rfl
        simp only [e])
      have a1 : World.cell? _ ⟨(ad.add (k * 3)).block, (ad.add (k * 3)).off + 1, none⟩ = _ := hcs 1 _ rfl
      have hk0 : (0 : Int) ≤ (k : Int) := by omega
      rw [HX.out]
      clear HX HF hcs HA ha1
      generalize L[k] = y at a1
      obtain ⟨⟨ylo, yfr, yc⟩, ya, yk⟩ := y
      simp only at a1 ⊢
      have fl : decide ((k : Int) < (L.length : Int)) = true := decide_eq_true hlt
      subst h6
      clear hlt
      go_enter Tryd.func68, Tryd.ntmps68
      go_wp2_with fail
      go_quiet (fail)
      go_wp2_with fail
      go_ret
      exact ⟨by simp; rw [Bool.eq_iff_iff]; simp, below_drewN b1.out _⟩
    · have HX := Lib.hid (show vNames ⟨L.map (·.fn), S, M.map (·.fm)⟩ ⟨lo, fr, cd⟩ ⟨o, a, b⟩ = false by
        unfold vNames
        simp only [if_neg h23, if_neg h4, if_neg h1, if_neg hj, if_pos h6, List.length_map, decide_eq_false hlt, Bool.false_and])
      have fl : decide (a < (L.length : Int)) = false := decide_eq_false hlt
      rw [HX.out]
      clear HX HF HA ha1 hlt
      subst h6
      go_enter Tryd.func68, Tryd.ntmps68
      go_wp2_with fail
      go_quiet (fail)
      go_wp2_with fail
      go_ret
      exact ⟨by simp, below_drewN b1.out _⟩
  have g2 : (o == 2) = false := beq_eq_false_iff_ne.2 (by omega)
  have g3 : (o == 3) = false := beq_eq_false_iff_ne.2 (by omega)
  have g4 : (o == 4) = false := beq_eq_false_iff_ne.2 (by omega)
  have g1 : (o == 1) = false := beq_eq_false_iff_ne.2 (by omega)
  have g10 : (o == 10) = false := beq_eq_false_iff_ne.2 (by omega)
  have g11 : (o == 11) = false := beq_eq_false_iff_ne.2 (by omega)
  have g33 : (o == 33) = false := beq_eq_false_iff_ne.2 (by omega)
  have g6 : (o == 6) = false := beq_eq_false_iff_ne.2 (by omega)
  by_cases h36 : o = 36
  · by_cases h3 : a = 3
    · have HX := Lib.hid (show vNames ⟨L.map (·.fn), S, M.map (·.fm)⟩ ⟨lo, fr, cd⟩ ⟨o, a, b⟩ = decide (b < M.length) by
        unfold vNames
        simp only [if_neg h23, if_neg h4, if_neg h1, if_neg hj, if_neg h6, if_pos h36, List.length_map, h3]
        simp)
      rw [HX.out]
      clear HX HF HA h23 h4 h1 hj h6
      subst h36 h3
      go_enter Tryd.func68, Tryd.ntmps68
      go_wp2_with fail
      go_ret
      exact ⟨by simp, b1.out⟩
    · have HX := Lib.hid (show vNames ⟨L.map (·.fn), S, M.map (·.fm)⟩ ⟨lo, fr, cd⟩ ⟨o, a, b⟩ = true by
        unfold vNames
        simp only [if_neg h23, if_neg h4, if_neg h1, if_neg hj, if_neg h6, if_pos h36]
        simp [h3])
      have f3 : (a != 3) = true := bne_iff_ne.2 h3
      rw [HX.out]
      clear HX HF HA h23 h4 h1 hj h6 h3
      subst h36
      go_enter Tryd.func68, Tryd.ntmps68
      go_wp2_with fail
      go_ret
      exact ⟨by simp, b1.out⟩
  have g36 : (o == 36) = false := beq_eq_false_iff_ne.2 h36
  have HX := Lib.hid (show vNames ⟨L.map (·.fn), S, M.map (·.fm)⟩ ⟨lo, fr, cd⟩ ⟨o, a, b⟩ = true by
    unfold vNames
    simp only [if_neg h23, if_neg h4, if_neg h1, if_neg hj, if_neg h6, if_neg h36])
  rw [HX.out]
  clear HX HF HA h23 h4 h1 hj h6 h36
  go_enter Tryd.func68, Tryd.ntmps68
  go_wp2_with fail
  go_ret
  exact ⟨by simp, b1.out⟩
set_option maxRecDepth 100000 in
set_option maxHeartbeats 4000000 in
/-- The bits of all hosts' calls of a program that may be. -/
theorem c39 (q : PrMem) (w : World) (hq : PrOk w w.heap.size q) (hg : gPr q.pr = true) :
    Calls Tryd.prog 39 #[q.val] w fun e w' => e = .returned (.int .i64 (gBits q.pr)) ∧ Below w.heap.size w w' := by
  obtain ⟨AF, cF, L, AS, cS, S, AM, cM, M⟩ := q
  have b1 := below_new w (.cells #[.slice AF L.length cF, .slice AS S.length cS, .slice AM M.length cM] 42)
  have P1 := Blk.new w 42 #[.slice AF L.length cF, .slice AS S.length cS, .slice AM M.length cM]
  have HQ2 := Lib.hid (hq.next b1)
  have B2 := Lib.hid b1
  generalize hpr : (PrMem.mk AF cF L AS cS S AM cM M).pr = p at hg ⊢
  have HPR := Lib.hid hpr
  have HG := Lib.hid hg
  clear hpr b1 hq hg
  simp only [PrMem.val]
  have p0 := P1.cell 0
  obtain ⟨s1, s2, _, _⟩ := gPr_sizes HG.out
  have hll : p.funcs.length = L.length := by rw [← HPR.out]; exact List.length_map ..
  rw [hll] at s1 s2
  have HLL := Lib.hid hll
  clear hll
  generalize hw2 : w.alloc (.cells #[.slice AF L.length cF, .slice AS S.length cS, .slice AM M.length cM] 42) = w2 at HQ2 B2 P1 p0
  have HW2 := Lib.hid hw2
  clear hw2
  go_enter Tryd.func39, Tryd.ntmps39
  go_wp2_with fail
  rw [HW2.out]
  clear p0
  go_loopw [3, 4] (fun b i wr => ∃ k : Nat, k ≤ L.length ∧ i = .int .i64 k ∧ b = .int .i64 ((p.funcs.take k).foldl gOrs 0) ∧ Hid (Below w2.heap.size w2 wr)) (fun _ i _ => L.length - (intOf i).toNat)
  case atStart => exact ⟨0, by omega, rfl, rfl, Lib.hid (Below.refl _ _)⟩
  case round =>
    obtain ⟨k, hk, rfl, rfl, HB⟩ := hrel
    have hwz := HB.out.size
    have p0 := (P1.next HB.out).cell 0
    by_cases hlt : k < L.length
    · have hl : (k : Int) < (L.length : Int) := by omega
      have hk0 : (0 : Int) ≤ (k : Int) := by omega
      obtain ⟨ad, e, adb, hcs⟩ := Reads.rowAt (f := Fnv.cells) (m := 3) (fun _ => rfl) (HQ2.out.fns) (by decide) (List.getElem?_eq_getElem hlt)
      simp only at e
      subst e
      have hpk : k < p.funcs.length := by have := HLL.out; omega
      have hfk : p.funcs[k] = (L[k]).fn := by have h := HPR.out; subst h; simp [PrMem.pr]
      obtain ⟨g1, g2, g3⟩ := gPr_code HG.out (List.getElem_mem hpk)
      have hft := foldl_take gOrs hpk 0
      have hx1 := HQ2.out.fn _ (List.getElem_mem hlt)
      rw [hfk] at hft g1 g2 g3
      generalize L[k] = x at hcs hx1 hft g1 g2 g3
      obtain ⟨⟨lo, fr, cd⟩, xa, xc⟩ := x
      simp only at g2 g3 hx1
      have HFT := Lib.hid hft
      have HG1 := Lib.hid (show ∀ i ∈ cd, insGood i = true from g1)
      have HX1 := Lib.hid hx1
      clear hft hfk g1 hx1 hpk
      generalize hb0 : (p.funcs.take k).foldl gOrs 0 = b0 at HFT
      have HB0 := Lib.hid hb0
      clear hb0
      have a2 : w2.cell? ⟨(ad.add (k * 3)).block, (ad.add (k * 3)).off + 2, none⟩ = some (.slice xa cd.length xc) := hcs 2 _ rfl
      have adb2 : (ad.add (k * 3)).block < w2.heap.size := by rw [block_of_add]; exact adb
      have HA2 := Lib.hid (show ∀ W, Below w2.heap.size w2 W → W.cell? ⟨(ad.add (k * 3)).block, (ad.add (k * 3)).off + 2, none⟩ = some (.slice xa cd.length xc) from fun W hb => by
        rw [← a2]
        unfold World.cell?
        rw [hb.block _ adb2])
      clear hcs a2 adb2
      go_wp2_with fail
      go_loopw [3, 5] (fun b i wi => ∃ j : Nat, j ≤ cd.length ∧ i = .int .i64 j ∧ b = .int .i64 ((cd.take j).foldl gOr b0) ∧ Hid (Below w2.heap.size w2 wi)) (fun _ i _ => cd.length - (intOf i).toNat)
      case atStart => exact ⟨0, by omega, rfl, rfl, HB⟩
      case round =>
        obtain ⟨j, hj, rfl, rfl, HI⟩ := hrel
        have hwz2 := HI.out.size
        have p0 := (P1.next HI.out).cell 0
        have a2 := HA2.out _ HI.out
        by_cases hlj : j < cd.length
        · have hl2 : (j : Int) < (cd.length : Int) := by omega
          have hj0 : (0 : Int) ≤ (j : Int) := by omega
          obtain ⟨ae, e, _, hcj⟩ := (HX1.out.1.below HI.out).insAt (List.getElem?_eq_getElem hlj)
          subst e
          have hgj := HG1.out _ (List.getElem_mem hlj)
          have hfj := foldl_take gOr hlj b0
          generalize cd[j] = i at hcj hgj hfj
          obtain ⟨o, a, b⟩ := i
          have HCJ := Lib.hid hcj
          have HFJ := Lib.hid hfj
          clear hcj hfj
          generalize (cd.take j).foldl gOr b0 = b1 at HFJ ⊢
          have HIA := Lib.hid (HI.out.alloc hwz2 (.cells #[.int .i64 o, .int .i64 a, .int .i64 b] 23))
          by_cases h36 : o = 36
          · subst h36
            have ha : 0 ≤ a ∧ a < 4 := by
              have hh : a = 0 ∨ a = 1 ∨ a = 2 ∨ a = 3 := host_a (a := a) (b := b) hgj
              omega
            obtain ⟨a, rfl⟩ : ∃ n : Nat, a = n := ⟨a.toNat, by omega⟩
            have HW := Lib.hid (pow_small (a := a) (by omega))
            go_wp2_with (refine wpList_load_at rfl 23 (.tmp 32) rfl (ae.add (j * 3)) rfl [.int .i64 36, .int .i64 a, .int .i64 b] _ HCJ.out Tryd.underlying23 rfl (by kernel_rfl) ?_)
            go_roundw
            case rel => exact ⟨j + 1, by omega, by go_num, by rw [HFJ.out]; unfold gOr; rw [if_pos rfl]; rw [HW.out]; rfl, HIA⟩
            case measure => simp [intOf]; omega
          · have f36 : (o == 36) = false := beq_eq_false_iff_ne.2 h36
            have HFK := Lib.hid (show (cd.take (j + 1)).foldl gOr b0 = b1 by rw [HFJ.out]; unfold gOr; rw [if_neg h36])
            clear h36
            go_wp2_with (refine wpList_load_at rfl 23 (.tmp 32) rfl (ae.add (j * 3)) rfl [.int .i64 o, .int .i64 a, .int .i64 b] _ HCJ.out Tryd.underlying23 rfl (by kernel_rfl) ?_)
            go_roundw
            case rel => exact ⟨j + 1, by omega, by go_num, by rw [HFK.out], HIA⟩
            case measure => simp [intOf]; omega
        · have hl2 : ¬ (j : Int) < (cd.length : Int) := by omega
          obtain rfl : j = cd.length := by omega
          have HE := Lib.hid (show (p.funcs.take (k + 1)).foldl gOrs 0 = (cd.take cd.length).foldl gOr b0 by rw [HFT.out, List.take_length]; rfl)
          go_wp2_with fail
          go_roundw
          case rel => exact ⟨k + 1, by omega, by go_num, by rw [HE.out], HI⟩
          case measure => simp [intOf]; omega
    · have hl : ¬ (k : Int) < (L.length : Int) := by omega
      obtain rfl : k = L.length := by omega
      have HE := Lib.hid (show (p.funcs.take L.length).foldl gOrs 0 = gBits p by unfold gBits; rw [List.take_of_length_le (by rw [HLL.out]; exact Nat.le_refl _)])
      go_wp2_with fail
      go_ret
      exact ⟨by rw [HE.out]; simp, B2.out.trans (HB.out.mono B2.out.size)⟩
end Go.Proofs.YtiphicejaljhiaaDoor
