/- verify.Calls: the bits of all hosts' calls. -/
import Derived.Test.YtiphicejaljhiaaDoorVPairs
namespace Go.Proofs.YtiphicejaljhiaaDoor
open Go.ChangeShapes Go.WideShapes Go.ChangeAt Go.RowKit
/-- A host's call's bit more. -/
def gOr (b : Int) (i : Ins) : Int := if i.o = 36 then bits .or .i64 b (2 ^ i.a.toNat) else b
def gOrs (b : Int) (f : Fn) : Int := f.code.foldl gOr b
def gBits (p : Pr) : Int := p.funcs.foldl gOrs 0
def gCalls (p : Pr) : Int := if gPr p = true then gBits p else 0
theorem foldl_take {α : Type} (f : Int → α → Int) {l : List α} {k : Nat} (h : k < l.length) (b : Int) : (l.take (k + 1)).foldl f b = f ((l.take k).foldl f b) l[k] := by
  rw [List.take_add_one, List.getElem?_eq_getElem h, List.foldl_append]
  rfl
theorem pow_small {a : Nat} (h : a < 4) : wrap64 ((2 : Int) ^ a) = 2 ^ a := by
  have h4 : a = 0 ∨ a = 1 ∨ a = 2 ∨ a = 3 := by omega
  rcases h4 with rfl | rfl | rfl | rfl <;> decide +kernel
set_option maxRecDepth 100000 in
set_option maxHeartbeats 2000000 in
theorem c43 (q : PrMem) (w : World) (ht : OpTab w) (hq : PrOk w w.heap.size q) :
    Calls Tryd.prog 43 #[q.val] w fun e w' => e = .returned (.int .i64 (gCalls q.pr)) ∧ Below w.heap.size w w' := by
  obtain ⟨AF, cF, L, AS, cS, S, AM, cM, M⟩ := q
  have b1 := below_new w (.cells #[.slice AF L.length cF, .slice AS S.length cS, .slice AM M.length cM] 42)
  have P1 := Blk.new w 42 #[.slice AF L.length cF, .slice AS S.length cS, .slice AM M.length cM]
  have HQ1 := Lib.hid (hq.next b1)
  have B1 := Lib.hid b1
  have c33' := Lib.hid (c33 _ _ (ht.next b1) HQ1.out)
  generalize hpr : (PrMem.mk AF cF L AS cS S AM cM M).pr = p at c33'
  have HPR := Lib.hid hpr
  clear hpr b1 hq ht
  simp only [PrMem.val] at c33' ⊢
  have p0 := P1.cell 0
  have p1 := P1.cell 1
  have p2 := P1.cell 2
  go_enter Tryd.func43, Tryd.ntmps43
  go_wp2_with fail
  refine c33'.out.mono ?_
  rintro e w2 ⟨rfl, b2⟩
  have B2 := Lib.hid (next_ B1.out b2)
  have HQ2 := Lib.hid (HQ1.out.next b2)
  have P2 := P1.next b2
  clear b2 P1 p0 p1 p2 c33'
  cases hg : gPr p
  · have HN := Lib.hid (show gCalls p = 0 by unfold gCalls; rw [hg]; rfl)
    clear hg
    go_wp2_with fail
    go_ret
    exact ⟨by rw [HN.out]; simp, B2.out⟩
  have HG := Lib.hid hg
  have HN := Lib.hid (show gCalls p = gBits p by unfold gCalls; rw [hg]; rfl)
  clear hg
  obtain ⟨s1, s2, _, _⟩ := gPr_sizes HG.out
  have hll : p.funcs.length = L.length := by rw [← HPR.out]; exact List.length_map ..
  rw [hll] at s1 s2
  have HLL := Lib.hid hll
  clear hll
  have p0 := P2.cell 0
  go_wp2_with fail
  go_loopw [3, 14] (fun b i wr => ∃ k : Nat, k ≤ L.length ∧ i = .int .i64 k ∧ b = .int .i64 ((p.funcs.take k).foldl gOrs 0) ∧ Hid (Below w2.heap.size w2 wr)) (fun _ i _ => L.length - (intOf i).toNat)
  case atStart => exact ⟨0, by omega, rfl, rfl, Lib.hid (Below.refl _ _)⟩
  case round =>
    obtain ⟨k, hk, rfl, rfl, HB⟩ := hrel
    have hwz := HB.out.size
    by_cases hlt : k < L.length
    · have hl : (k : Int) < (L.length : Int) := by omega
      obtain ⟨ad, e, adb, hcs⟩ := Reads.rowAt (f := Fnv.cells) (m := 3) (fun _ => rfl) (HQ2.out.fns.below HB.out) (by decide) (List.getElem?_eq_getElem hlt)
      simp only at e
      subst e
      have hpk : k < p.funcs.length := by have := HLL.out; omega
      have hfk : p.funcs[k] = (L[k]).fn := by have h := HPR.out; subst h; simp [PrMem.pr]
      obtain ⟨g1, g2, g3⟩ := gPr_code HG.out (List.getElem_mem hpk)
      have hft := foldl_take gOrs hpk 0
      have hx1 := HQ2.out.fn _ (List.getElem_mem hlt)
      rw [hfk] at hft g1 g2 g3
      generalize L[k] = x at hcs hx1 hft g1 g2 g3
      obtain ⟨⟨lo, fr, cd⟩, xa, xc⟩ := x
      simp only at g2 g3 hx1
      have HFT := Lib.hid hft
      have HG1 := Lib.hid (show ∀ i ∈ cd, insGood i = true from g1)
      have HCS := Lib.hid hcs
      have HX1 := Lib.hid hx1
      clear hft hfk g1 hcs hx1 hpk
      generalize hb0 : (p.funcs.take k).foldl gOrs 0 = b0 at HFT
      have HB0 := Lib.hid hb0
      clear hb0
      have hcs' : ∀ j v, [Value.int .i64 lo, .int .i64 fr, .slice xa cd.length xc][j]? = some v → wr.cell? ((ad.add (k * 3)).add j) = some v := HCS.out
      have HCS2 := Lib.hid hcs'
      clear hcs' HCS
      have X1 := Blk.new wr 60 #[.int .i64 lo, .int .i64 fr, .slice xa cd.length xc]
      have x2 := X1.cell 2
      go_wp2_with (refine wpList_load_at rfl 60 (.tmp 16) rfl (ad.add (k * 3)) rfl [.int .i64 lo, .int .i64 fr, .slice xa cd.length xc] _ HCS2.out Tryd.underlying60 rfl (by kernel_rfl) ?_)
      clear x2 X1
      have HBA := Lib.hid (HB.out.alloc hwz (.cells #[.int .i64 lo, .int .i64 fr, .slice xa cd.length xc] 60))
      generalize wr.alloc (.cells #[.int .i64 lo, .int .i64 fr, .slice xa cd.length xc] 60) = wa at HBA ⊢
      go_loopw [3, 21] (fun b i wi => ∃ j : Nat, j ≤ cd.length ∧ i = .int .i64 j ∧ b = .int .i64 ((cd.take j).foldl gOr b0) ∧ Hid (Below w2.heap.size w2 wi)) (fun _ i _ => cd.length - (intOf i).toNat)
      case atStart => exact ⟨0, by omega, rfl, rfl, HBA⟩
      case round =>
        obtain ⟨j, hj, rfl, rfl, HI⟩ := hrel
        have hwz2 := HI.out.size
        by_cases hlj : j < cd.length
        · have hl2 : (j : Int) < (cd.length : Int) := by omega
          obtain ⟨ae, e, _, hcj⟩ := (HX1.out.1.below HI.out).insAt (List.getElem?_eq_getElem hlj)
          subst e
          have hgj := HG1.out _ (List.getElem_mem hlj)
          have hfj := foldl_take gOr hlj b0
          generalize cd[j] = i at hcj hgj hfj
          obtain ⟨o, a, b⟩ := i
          have HCJ := Lib.hid hcj
          have HFJ := Lib.hid hfj
          clear hcj hfj
          generalize (cd.take j).foldl gOr b0 = b1 at HFJ ⊢
          have X1 := Blk.new wr 23 #[.int .i64 o, .int .i64 a, .int .i64 b]
          have x0 := X1.cell 0
          have x1 := X1.cell 1
          have HIA := Lib.hid (HI.out.alloc hwz2 (.cells #[.int .i64 o, .int .i64 a, .int .i64 b] 23))
          by_cases h36 : o = 36
          · subst h36
            have ha : 0 ≤ a ∧ a < 4 := by
              have hh : a = 0 ∨ a = 1 ∨ a = 2 ∨ a = 3 := host_a (a := a) (b := b) hgj
              omega
            obtain ⟨a, rfl⟩ : ∃ n : Nat, a = n := ⟨a.toNat, by omega⟩
            have HW := Lib.hid (pow_small (a := a) (by omega))
            go_wp2_with (refine wpList_load_at rfl 23 (.tmp 23) rfl (ae.add (j * 3)) rfl [.int .i64 36, .int .i64 a, .int .i64 b] _ HCJ.out Tryd.underlying23 rfl (by kernel_rfl) ?_)
            go_roundw
            case rel => exact ⟨j + 1, by omega, by go_num, by rw [HFJ.out]; unfold gOr; rw [if_pos rfl]; rw [HW.out]; rfl, HIA⟩
            case measure => simp [intOf]; omega
          · have f36 : (o == 36) = false := beq_eq_false_iff_ne.2 h36
            have HFK := Lib.hid (show (cd.take (j + 1)).foldl gOr b0 = b1 by rw [HFJ.out]; unfold gOr; rw [if_neg h36])
            clear h36
            go_wp2_with (refine wpList_load_at rfl 23 (.tmp 23) rfl (ae.add (j * 3)) rfl [.int .i64 o, .int .i64 a, .int .i64 b] _ HCJ.out Tryd.underlying23 rfl (by kernel_rfl) ?_)
            go_roundw
            case rel => exact ⟨j + 1, by omega, by go_num, by rw [HFK.out], HIA⟩
            case measure => simp [intOf]; omega
        · have hl2 : ¬ (j : Int) < (cd.length : Int) := by omega
          obtain rfl : j = cd.length := by omega
          have HE := Lib.hid (show (p.funcs.take (k + 1)).foldl gOrs 0 = (cd.take cd.length).foldl gOr b0 by rw [HFT.out, List.take_length]; rfl)
          go_wp2_with fail
          go_roundw
          case rel => exact ⟨k + 1, by omega, by go_num, by rw [HE.out], HI⟩
          case measure => simp [intOf]; omega
    · have hl : ¬ (k : Int) < (L.length : Int) := by omega
      obtain rfl : k = L.length := by omega
      have HE := Lib.hid (show gCalls p = (p.funcs.take L.length).foldl gOrs 0 by rw [HN.out, List.take_of_length_le (by rw [HLL.out]; omega)]; rfl)
      go_wp2_with fail
      go_ret
      exact ⟨by rw [HE.out]; simp, B2.out.trans (HB.out.mono B2.out.size)⟩
end Go.Proofs.YtiphicejaljhiaaDoor
