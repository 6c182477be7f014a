/- The walk of VerifyBounds: it returns true, whatever the program and the number are. -/
import Derived.Test.YtiphicejaljhiaaDoorVWakes
import Derived.Test.YtiphicejaljhiaaDoorLarge
namespace Go.Proofs.YtiphicejaljhiaaDoor
open Go.ChangeShapes Go.WideShapes Go.ChangeAt Go.RowKit
theorem gStates_some {p : Pr} {f : Int} {R : List Sta} (h : gStates p f = some R) : 0 ≤ f ∧ f < p.funcs.length ∧ gPr p = true ∧ vStates p (p.funcs.getD f.toNat ⟨0, 0, []⟩) = some R := by
  unfold gStates at h
  split at h
  · cases h
  · rename_i hn
    refine ⟨by omega, by omega, ?_, h⟩
    cases hg : gPr p
    · exact absurd (.inr (.inr hg)) hn
    · rfl
theorem gCheck_none {p : Pr} {k : Nat} (grants : Int) (hk : k < p.funcs.length) (h : gStates p k = none) : gCheck p grants = 2 := by
  unfold gCheck gRight
  cases hg : gPr p
  · rfl
  · unfold gStates at h
    rw [if_neg (by rw [hg]; intro hh; rcases hh with hh | hh | hh; omega; omega; cases hh), Int.toNat_natCast] at h
    rw [List.getD_eq_getElem?_getD, List.getElem?_eq_getElem hk] at h
    rw [Bool.true_and, all_not (p := fun f => (vStates p f).isSome) hk (by show (vStates p p.funcs[k]).isSome = false; rw [show vStates p p.funcs[k] = none from h]; rfl)]
    rfl
theorem st_bounds {p : Pr} {f : Int} {R : List Sta} (h : gStates p f = some R) : R.length = (p.funcs.getD f.toNat ⟨0, 0, []⟩).code.length ∧ 0 < R.length ∧ R.length ≤ 600 ∧ R.getD 0 unk = (0, 0) ∧
    ∀ k, k < R.length → R.getD k unk = unk ∨ (0 ≤ (R.getD k unk).1 ∧ (R.getD k unk).1 ≤ 100 ∧ 0 ≤ (R.getD k unk).2 ∧ (R.getD k unk).2 ≤ 10) := by
  obtain ⟨h0, h1, hg, hv⟩ := gStates_some h
  have hlt : f.toNat < p.funcs.length := by omega
  have hm : p.funcs.getD f.toNat ⟨0, 0, []⟩ ∈ p.funcs := by
    rw [List.getD_eq_getElem?_getD, List.getElem?_eq_getElem hlt]
    exact List.getElem_mem hlt
  obtain ⟨g1, g2, g3⟩ := gPr_code hg hm
  have hc := vStates_cl g1 g2 hv
  refine ⟨hc.len, by rw [hc.len]; exact g2, by rw [hc.len]; exact g3, hc.at0, fun k hk => ?_⟩
  rcases hc.ok k hk with h5 | ⟨a1, a2, a3, a4, _⟩
  · exact .inl h5
  · exact .inr ⟨a1, a2, a3, a4⟩
theorem gStates_end (p : Pr) : gStates p p.funcs.length = none := by
  unfold gStates
  rw [if_pos (.inr (.inl (Int.le_refl _)))]
set_option maxRecDepth 100000 in
set_option maxHeartbeats 8000000 in
theorem c14 (q : PrMem) (fn : Nat) (hfn : fn ≤ 255) (w : World) (ht : VTab w) (hq : PrOk w w.heap.size q) : Calls Tryd.prog 14 #[q.val, .int .u8 fn] w fun e w' => e = .returned (.bool true) ∧ Below w.heap.size w w' := by
  have HT := Lib.hid ht
  obtain ⟨AF, cF, L, AS, cS, S, AM, cM, M⟩ := q
  have lF := hq.lF
  simp only [PrMem.val] at lF ⊢
  unfold maxLen at lF
  have P1 := Blk.new w 42 #[.slice AF L.length cF, .slice AS S.length cS, .slice AM M.length cM]
  have B1 := Lib.hid (below_new w (.cells #[.slice AF L.length cF, .slice AS S.length cS, .slice AM M.length cM] 42))
  have Q1 := Lib.hid (hq.next B1.out)
  clear hq ht
  go_enter Tryd.func14, Tryd.ntmps14
  go_wp2_with fail
  refine (c25 _ _ Q1.out).mono ?_
  rintro e w2 ⟨rfl, b2⟩
  have B2 := Lib.hid (next_ B1.out b2)
  have Q2 := Lib.hid (Q1.out.next b2)
  have P2 := P1.next b2
  clear b2 P1
  have n0 := P2.cell 0
  have n1 := P2.cell 1
  have n2 := P2.cell 2
  generalize gLarge _ = big
  cases big
  case true =>
    go_wp2_with fail
    refine (c36 w2 (HT.out.next B2.out)).mono ?_
    rintro e w3 ⟨rfl, b3⟩
    go_wp2_with fail
    go_ret
    exact ⟨by simp, next_ B2.out b3⟩
  case false =>
    by_cases hl0 : L.length = 0
    · have f0 : ((L.length : Int) == 0) = true := beq_iff_eq.2 (by omega)
      clear hl0
      go_wp2_with fail
      refine (c36 w2 (HT.out.next B2.out)).mono ?_
      rintro e w3 ⟨rfl, b3⟩
      go_wp2_with fail
      go_ret
      exact ⟨by simp, next_ B2.out b3⟩
    have f0 : ((L.length : Int) == 0) = false := beq_eq_false_iff_ne.2 (by omega)
    have f0' : ¬ (L.length : Int) = 0 := by omega
    have hl1 : (0 : Int) < (L.length : Int) := by omega
    obtain ⟨k, hk⟩ : ∃ k, k = fn % L.length := ⟨_, rfl⟩
    have hkl : k < L.length := by rw [hk]; exact Nat.mod_lt _ (by omega)
    have hkm : (fn : Int) % (L.length : Int) = (k : Int) := by rw [hk]; exact (Int.natCast_emod fn L.length).symm
    clear hk hl0
    generalize hpr : (PrMem.mk AF cF L AS cS S AM cM M).pr = p
    have HP := Lib.hid hpr
    clear hpr
    have hlen : p.funcs.length = L.length := by rw [← HP.out]; exact List.length_map ..
    have HLEN := Lib.hid hlen
    clear hlen
    go_wp2_with fail
    have hc := c37 (PrMem.mk AF cF L AS cS S AM cM M) k w2 (HT.out.next B2.out) Q2.out
    rw [HP.out] at hc
    simp only [PrMem.val] at hc
    refine hc.mono ?_
    clear hc
    rintro e w3 ⟨A3, c3, rfl, hr3, b3⟩
    have B3 := Lib.hid (next_ B2.out b3)
    have Q3 := Lib.hid (Q2.out.next b3)
    have P3 := P2.next b3
    clear b3 P2 n0 n1 n2
    have n0 := P3.cell 0
    have n1 := P3.cell 1
    have n2 := P3.cell 2
    cases hst : gStates p k with
    | none =>
      have HC := Lib.hid (gCheck_none 15 (by rw [HLEN.out]; exact hkl) hst)
      clear hr3 hst
      simp only [Option.getD_none, Option.isSome_none, List.length_nil]
      go_wp2_with fail
      have hc := c40 (PrMem.mk AF cF L AS cS S AM cM M) 15 w3 (HT.out.next B3.out) Q3.out
      rw [HP.out, HC.out] at hc
      simp only [PrMem.val] at hc
      refine hc.mono ?_
      clear hc
      rintro e w4 ⟨rfl, b4⟩
      have B4 := Lib.hid (next_ B3.out b4)
      clear b4
      go_wp2_with fail
      refine (c36 w4 (HT.out.next B4.out)).mono ?_
      rintro e w5 ⟨rfl, b5⟩
      go_wp2_with fail
      go_ret
      exact ⟨by simp, next_ B4.out b5⟩
    | some R =>
      rw [hst] at hr3
      simp only [Option.getD_some, Option.isSome_some] at hr3 ⊢
      obtain ⟨hRl, hR0, hR6, hRz, hRb⟩ := st_bounds hst
      obtain ⟨ad, e, adb, hcs⟩ := Reads.rowAt (f := Fnv.cells) (m := 3) (fun _ => rfl) Q3.out.fns (by decide) (List.getElem?_eq_getElem hkl)
      simp only at e
      subst e
      have hfk : p.funcs.getD ((k : Int)).toNat ⟨0, 0, []⟩ = (L[k]).fn := by
        rw [Int.toNat_natCast, ← HP.out, List.getD_eq_getElem?_getD]
        show ((L.map (·.fn))[k]?).getD _ = _
        rw [List.getElem?_map, List.getElem?_eq_getElem hkl]
        rfl
      rw [hfk] at hRl
      generalize L[k] = x at hcs hRl
      obtain ⟨⟨lo, fr, cd⟩, xa, xc⟩ := x
      simp only at hRl
      have a2 : w3.cell? ⟨(ad.add (k * 3)).block, (ad.add (k * 3)).off + 2, none⟩ = some (.slice xa cd.length xc) := hcs 2 _ rfl
      have fl : ((R.length : Int) != (cd.length : Int)) = false := bne_eq_false_iff_eq.2 (by rw [hRl])
      have fl0 : ((R.length : Int) == 0) = false := beq_eq_false_iff_ne.2 (by omega)
      obtain ⟨a3, e, z0, z1⟩ := hr3.staN (getD_at hR0)
      rw [hRz] at z0 z1
      have hz : a3.add (0 * 2) = a3 := by rw [Nat.zero_mul]; rfl
      rw [hz] at z0 z1
      subst e
      have HRB := Lib.hid hRb
      have HR3 := Lib.hid hr3
      have HST := Lib.hid hst
      have hRi : (0 : Int) < (R.length : Int) := by omega
      have hki : (k : Int) < (L.length : Int) := by omega
      have hk0 : (0 : Int) ≤ (k : Int) := by omega
      have en := fun w => run_ne2 w 79 Tryd.underlying79 0 0 0 0
      clear hRb hr3 hst hcs hRl hfk hz hRz
      go_wp2_with fail
      clear z0 z1 a2 fl fl0 en
      go_loopw [8] (fun i wr => ∃ j m : Nat, j ≤ R.length ∧ i = .int .i64 j ∧ wr = w3.drewN m) (fun i _ => R.length - (intOf i).toNat)
      case atStart => exact ⟨0, 0, by omega, rfl, rfl⟩
      case round =>
        obtain ⟨j, m, hj, rfl, rfl⟩ := hrel
        by_cases hlt : j < R.length
        · have hl : (j : Int) < (R.length : Int) := by omega
          have hj0 : (0 : Int) ≤ (j : Int) := by omega
          obtain ⟨a3', e, z0, z1⟩ := HR3.out.staN (getD_at hlt)
          obtain rfl := Option.some.inj e
          have hb := HRB.out j hlt
          generalize R.getD j unk = s at z0 z1 hb
          obtain ⟨h, t⟩ := s
          simp only at z0 z1 hb
          rcases hb with hb | hb
          · injection hb with hb1 hb2
            subst hb1 hb2
            go_wp2_with fail
            go_quiet (fail)
            go_wp2_with fail
            go_roundw
            case rel => exact ⟨j + 1, m + _, by omega, by go_num, by rw [← World.drewN_drewN]⟩
            case measure => simp [intOf]; omega
          · obtain ⟨h1, h2, h3, h4⟩ := hb
            have f1 : decide (h < 0) = false := decide_eq_false (by omega)
            have f2 : decide (t < 0) = false := decide_eq_false (by omega)
            have f3 : decide (h < -1) = false := decide_eq_false (by omega)
            have f4 : decide (t < -1) = false := decide_eq_false (by omega)
            have f5 : decide ((100 : Int) < h) = false := decide_eq_false (by omega)
            have f6 : decide ((10 : Int) < t) = false := decide_eq_false (by omega)
            go_wp2_with fail
            go_quiet (fail)
            go_wp2_with fail
            go_roundw
            case rel => exact ⟨j + 1, m + _, by omega, by go_num, by rw [← World.drewN_drewN]⟩
            case measure => simp [intOf]; omega
        · have hl : ¬ (j : Int) < (R.length : Int) := by omega
          go_wp2_with fail
          have BD := Lib.hid (below_drewN (Below.refl w3.heap.size w3) m)
          have B4 := Lib.hid (below_drewN B3.out m)
          have hc := c37 (PrMem.mk (some ad) cF L AS cS S AM cM M) L.length (w3.drewN m) (HT.out.next B4.out) (Q3.out.next BD.out)
          rw [HP.out, show gStates p (L.length : Int) = none by rw [← HLEN.out]; exact gStates_end p] at hc
          simp only [PrMem.val] at hc
          refine hc.mono ?_
          clear hc
          rintro e w5 ⟨A5, c5, rfl, _, b5⟩
          have B5 := Lib.hid (next_ B4.out b5)
          clear b5
          simp only [Option.getD_none, Option.isSome_none, List.length_nil]
          go_wp2_with fail
          refine (c36 w5 (HT.out.next B5.out)).mono ?_
          rintro e w6 ⟨rfl, b6⟩
          go_wp2_with fail
          go_ret
          exact ⟨by simp, next_ B5.out b6⟩
end Go.Proofs.YtiphicejaljhiaaDoor
