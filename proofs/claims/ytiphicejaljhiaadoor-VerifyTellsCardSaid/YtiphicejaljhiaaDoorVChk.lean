/- verify.Check: whether a program may be run. -/
import Derived.Test.YtiphicejaljhiaaDoorVCalls
namespace Go.Proofs.YtiphicejaljhiaaDoor
open Go.ChangeShapes Go.WideShapes Go.ChangeAt Go.RowKit
/-- The calls that are not granted. -/
def gDen (p : Pr) (grants : Int) : Int := bits .andNot .i64 (gCalls p) grants
def gRight (p : Pr) : Bool := gPr p && p.funcs.all fun f => (vStates p f).isSome
def gCheck (p : Pr) (grants : Int) : Int := if gRight p = true then (if gDen p grants = 0 then 0 else 18) else 2
set_option maxRecDepth 100000 in
set_option maxHeartbeats 2000000 in
theorem c40 (q : PrMem) (grants : Int) (w : World) (ht : VTab w) (hq : PrOk w w.heap.size q) :
    Calls Tryd.prog 40 #[q.val, .int .i64 grants] w fun e w' => e = .returned (.int .i64 (gCheck q.pr grants)) ∧ Below w.heap.size w w' := by
  have b1 := below_new w (.cells #[.slice q.AF q.L.length q.cF, .slice q.AS q.S.length q.cS, .slice q.AM q.M.length q.cM] 42)
  have P1 := Blk.new w 42 #[.slice q.AF q.L.length q.cF, .slice q.AS q.S.length q.cS, .slice q.AM q.M.length q.cM]
  have HQ1 := Lib.hid (hq.next b1)
  have HT1 := Lib.hid (ht.next b1)
  have B1 := Lib.hid b1
  have c33' := Lib.hid (c33 q _ HT1.out.op HQ1.out)
  have c67' := Lib.hid (fun k x hx w2 (b2 : Below w.heap.size w w2) => c67 q k x hx w2 (ht.next b2) (hq.next b2))
  have c43' := Lib.hid (fun w2 (b2 : Below w.heap.size w w2) => c43 q w2 (ht.next b2).op (hq.next b2))
  generalize hpr : q.pr = p at c33' c67' c43'
  have HLEN := Lib.hid (show p.funcs.length = q.L.length by rw [← hpr]; exact List.length_map ..)
  have HPR := Lib.hid hpr
  clear hpr b1 hq ht
  simp only [PrMem.val] at c33' c67' c43' ⊢
  have p0 := P1.cell 0
  have p1 := P1.cell 1
  have p2 := P1.cell 2
  go_enter Tryd.func40, Tryd.ntmps40
  go_wp2_with fail
  refine c33'.out.mono ?_
  rintro e w2 ⟨rfl, b2⟩
  have B2 := Lib.hid (next_ B1.out b2)
  have P2 := P1.next b2
  clear b2 P1 p0 p1 p2 c33'
  cases hg : gPr p
  · have HN := Lib.hid (show gCheck p grants = 2 by unfold gCheck gRight; rw [hg]; rfl)
    clear hg
    go_wp2_with fail
    go_ret
    exact ⟨by rw [HN.out]; simp, B2.out⟩
  have HG := Lib.hid hg
  clear hg
  obtain ⟨s1, s2, _, _⟩ := gPr_sizes HG.out
  rw [HLEN.out] at s1 s2
  have p0 := P2.cell 0
  go_wp2_with fail
  go_loopw [14] (fun i wr => ∃ k : Nat, k ≤ q.L.length ∧ i = .int .i64 k ∧ Hid ((p.funcs.take k).all (fun f => (vStates p f).isSome) = true) ∧ Hid (Below w2.heap.size w2 wr)) (fun i _ => q.L.length - (intOf i).toNat)
  case atStart => exact ⟨0, by omega, rfl, Lib.hid rfl, Lib.hid (Below.refl _ _)⟩
  case round =>
    obtain ⟨k, hk, rfl, HA, HB⟩ := hrel
    have P3 := P2.next HB.out
    have q0 := P3.cell 0
    have q1 := P3.cell 1
    have q2 := P3.cell 2
    have BB := Lib.hid (B2.out.trans (HB.out.mono B2.out.size))
    by_cases hlt : k < q.L.length
    · have hl : (k : Int) < (q.L.length : Int) := by omega
      obtain ⟨x, hx⟩ : ∃ x, q.L[k]? = some x := ⟨q.L[k], List.getElem?_eq_getElem hlt⟩
      have hpk : k < p.funcs.length := by have := HLEN.out; omega
      have hfk : p.funcs[k] = x.fn := by
        have h := HPR.out
        subst h
        have := (List.getElem?_eq_some_iff.1 hx).2
        simp [PrMem.pr, this]
      have hat := all_take1 (p := fun f => (vStates p f).isSome) hpk HA.out
      have han := all_not1 (p := fun f => (vStates p f).isSome) hpk
      rw [hfk] at hat han
      have HAT := Lib.hid hat
      have HAN := Lib.hid han
      have HX := Lib.hid hx
      clear hat han hfk hpk hx
      go_wp2_with fail
      refine (c67'.out k x HX.out wr BB.out HG.out).mono ?_
      rintro e w3 ⟨w0, g, lv, dv, L, D, rfl, hv, hL, b3, hgl⟩
      have HB3 := Lib.hid (HB.out.trans (b3.mono HB.out.size))
      clear hv hL b3 hgl
      cases hr : vStates p x.fn with
      | none =>
        have HN := Lib.hid (show gCheck p grants = 2 by
          unfold gCheck gRight
          rw [HAN.out (by rw [hr]; rfl), Bool.and_false]
          rfl)
        clear hr
        rw [Option.isSome_none]
        go_wp2_with fail
        go_ret
        exact ⟨by rw [HN.out]; simp, B2.out.trans (HB3.out.mono B2.out.size)⟩
      | some R =>
        have HN := Lib.hid (HAT.out (by rw [hr]; rfl))
        clear hr
        rw [Option.isSome_some]
        go_wp2_with fail
        go_roundw
        case rel => exact ⟨k + 1, by omega, by go_num, HN, HB3⟩
        case measure => simp [intOf]; omega
    · have hl : ¬ (k : Int) < (q.L.length : Int) := by omega
      obtain rfl : k = q.L.length := by omega
      have HE := Lib.hid (show gCheck p grants = if gDen p grants = 0 then 0 else 18 by
        have h := HA.out
        rw [List.take_of_length_le (by rw [HLEN.out]; omega)] at h
        unfold gCheck gRight
        rw [HG.out, h]
        rfl)
      go_wp2_with fail
      refine (c43'.out wr BB.out).mono ?_
      rintro e w3 ⟨rfl, b3⟩
      have B3 := Lib.hid (next_ BB.out b3)
      clear b3 q0 q1 q2
      generalize hc : gCalls p = c
      have HC := Lib.hid (show gDen p grants = bits .andNot .i64 c grants by rw [← hc]; rfl)
      clear hc
      by_cases hz : bits .andNot .i64 c grants = 0
      · have HR := Lib.hid (show gCheck p grants = 0 by rw [HE.out, HC.out, if_pos hz])
        have fz : (bits .andNot .i64 c grants != 0) = false := bne_eq_false_iff_eq.2 hz
        clear hz
        go_wp2_with fail
        go_ret
        exact ⟨by rw [HR.out]; simp, B3.out⟩
      · have HR := Lib.hid (show gCheck p grants = 18 by rw [HE.out, HC.out, if_neg hz])
        have fz : (bits .andNot .i64 c grants != 0) = true := bne_iff_ne.2 hz
        clear hz
        go_wp2_with fail
        go_ret
        exact ⟨by rw [HR.out]; simp, B3.out⟩
end Go.Proofs.YtiphicejaljhiaaDoor
