/- The law TypesOrder, walked. -/
import Derived.Test.YtcilodgpbdafeaaDoorTLawM
import Derived.Test.YtcilodgpbdafeaaDoorTRefW
import Derived.Deep.CutRange
import Derived.Deep.CutBlock
import Derived.Deep.DeepCutAuto
namespace Go.Proofs.YtcilodgpbdafeaaDoor
open Go.ChangeShapes Go.WideShapes Go.ChangeAt Go.RowKit
set_option linter.unusedVariables false
set_option linter.unusedSimpArgs false
theorem large_len {l : List Part} (h : large l = false) : l.length ≤ 3000 := by
  unfold large at h
  rw [Bool.or_eq_false_iff] at h
  have := of_decide_eq_false h.2
  omega
theorem c9b (l : List Part) (A : Option Addr) (c : Nat) (w : World) (h : RT w A l) : Calls Tryd.prog 9 #[.slice A l.length c] w fun e w' => e = .returned (.bool (gTy l)) ∧ Below w.heap.size w w' := c9 l A c _ w h (Nat.le_refl _)
theorem closed_all {l : List Part} {k : Nat} {p : Part} (h : l[k]? = some p) : closed (l.take (k + 1)) = (closed (l.take k) && !(p.k == 11)) := by
  rw [take_succ_some h]
  unfold closed
  rw [List.all_append]
  simp
set_option maxRecDepth 100000 in
set_option maxHeartbeats 16000000 in
theorem c4 (a b d : List Part) (Aa Ab Ad : Option Addr) (ca cb cd : Nat) (W : World) (ha : Handed W Aa a) (hb : Handed W Ab b) (hd : Handed W Ad d) (ht : WordTab W) :
    Calls Tryd.prog 4 #[.slice Aa a.length ca, .slice Ab b.length cb, .slice Ad d.length cd] W fun e W' => e = .returned (.bool true) ∧ Below W.heap.size W W' := by
  have HA := Lib.hid ha
  have HB := Lib.hid hb
  have HD := Lib.hid hd
  have HT := Lib.hid ht
  clear ha hb hd ht
  go_enter Tryd.func4, Tryd.ntmps4
  go_wp2_with fail
  refine (c8b a Aa ca _ HA.out).mono ?_
  rintro e w ⟨rfl, rfl⟩
  cases hla : large a with
  | true =>
    go_wp2_with fail
    refine (c10 _ HT.out).mono ?_
    rintro e wz ⟨rfl, hbz⟩
    go_wp2_with fail
    go_ret
    exact ⟨rfl, hbz⟩
  | false =>
  go_wp2_with fail
  refine (c8b b Ab cb _ HB.out).mono ?_
  rintro e w ⟨rfl, rfl⟩
  cases hlb : large b with
  | true =>
    go_wp2_with fail
    refine (c10 _ HT.out).mono ?_
    rintro e wz ⟨rfl, hbz⟩
    go_wp2_with fail
    go_ret
    exact ⟨rfl, hbz⟩
  | false =>
  go_wp2_with fail
  refine (c8b d Ad cd _ HD.out).mono ?_
  rintro e w ⟨rfl, rfl⟩
  cases hld : large d with
  | true =>
    go_wp2_with fail
    refine (c10 _ HT.out).mono ?_
    rintro e wz ⟨rfl, hbz⟩
    go_wp2_with fail
    go_ret
    exact ⟨rfl, hbz⟩
  | false =>
  have HLA := Lib.hid (large_len hla)
  have HLB := Lib.hid (large_len hlb)
  clear hla hlb hld
  go_upto_region 3 with fail
  go_cut [33] (fun v wx => v = .bool false ∧ Below W.heap.size W wx)
  case first =>
    go_wp2_with fail
    refine (c16 a b Aa Ab ca cb _ HA.out.rt HB.out.rt).mono ?_
    rintro e w1 ⟨r1, rfl, hm1, b1⟩
    have M1 := Lib.hid hm1
    have B1 := Lib.hid b1
    clear hm1 b1
    cases r1 with
    | false =>
      go_wp2_with fail
      go_meet
      exact ⟨rfl, B1.out⟩
    | true =>
    go_wp2_with fail
    refine (c16 b d Ab Ad cb cd _ (HB.out.rt.next B1.out) (HD.out.rt.next B1.out)).mono ?_
    rintro e w2 ⟨r2, rfl, hm2, b2⟩
    have M2 := Lib.hid hm2
    have B2 := Lib.hid (next_ B1.out b2)
    clear hm2 b2
    cases r2 with
    | false =>
      go_wp2_with fail
      go_meet
      exact ⟨rfl, B2.out⟩
    | true =>
    go_wp2_with fail
    refine (c16 a d Aa Ad ca cd _ (HA.out.rt.next B2.out) (HD.out.rt.next B2.out)).mono ?_
    rintro e w3 ⟨r3, rfl, hm3, b3⟩
    obtain rfl : r3 = true := hm3.2 ((M1.out.1 (by trivial)).trans (M2.out.1 (by trivial)))
    have B3 := Lib.hid (next_ B2.out b3)
    clear hm3 b3
    go_wp2_with fail
    go_meet
    exact ⟨rfl, B3.out⟩
  case rest =>
    obtain ⟨rfl, b3⟩ := hcut
    have B3 := Lib.hid b3
    clear b3
    obtain ⟨w3, rfl⟩ : ∃ w3 : World, w3 = wc := ⟨_, rfl⟩
    go_upto_region 5 with fail
    go_cut [41] (fun v wx => v = .bool false ∧ Below W.heap.size W wx)
    case first =>
      go_wp2_with fail
      refine (c9b b Ab cb _ (HB.out.rt.next B3.out)).mono ?_
      rintro e w4 ⟨rfl, b4⟩
      have B4 := Lib.hid (next_ B3.out b4)
      clear b4
      cases hgb : gTy b with
      | false =>
        go_wp2_with fail
        go_meet
        exact ⟨rfl, B4.out⟩
      | true =>
      have HGB := Lib.hid hgb
      clear hgb
      go_wp2_with fail
      refine (c17 11 3 _).mono ?_
      rintro e w5 ⟨v, rfl, hb0⟩
      obtain ⟨A5, c5, rfl, hr, b5⟩ := hb0.form
      clear hb0
      have R5 := Lib.hid (show RT w5 A5 [⟨11, 0, 0, 3, []⟩] from hr)
      have B5 := Lib.hid (next_ B4.out b5)
      clear hr b5
      go_wp2_with fail
      refine (c16 [⟨11, 0, 0, 3, []⟩] b A5 Ab c5 cb _ R5.out (HB.out.rt.next B5.out)).mono ?_
      rintro e w6 ⟨r6, rfl, hm6, b6⟩
      obtain rfl : r6 = true := hm6.2 (Inst.of_var 3 (by omega) HGB.out)
      have B6 := Lib.hid (next_ B5.out b6)
      clear hm6 b6
      go_wp2_with fail
      go_meet
      exact ⟨rfl, B6.out⟩
    case rest =>
      obtain ⟨rfl, b6⟩ := hcut
      have B6 := Lib.hid b6
      clear b6 B3
      obtain ⟨w6, rfl⟩ : ∃ w6 : World, w6 = wc := ⟨_, rfl⟩
      go_wp2_with fail
      refine (c9b a Aa ca _ (HA.out.rt.next B6.out)).mono ?_
      rintro e w7 ⟨rfl, b7⟩
      have B7 := Lib.hid (next_ B6.out b7)
      clear b7 B6
      obtain ⟨g0, hg0⟩ : ∃ g0, gTy a = g0 := ⟨_, rfl⟩
      rw [hg0]
      have HG0 := Lib.hid hg0
      clear hg0
      go_wp2_with fail
      go_loopw [7, 8] (fun v i wr => ∃ k : Nat, k ≤ a.length ∧ i = .int .i64 k ∧ v = .bool (gTy a && closed (a.take k)) ∧ Below W.heap.size W wr) (fun _ i _ => a.length - (intOf i).toNat)
      case atStart => exact ⟨0, by omega, rfl, by rw [HG0.out]; simp [closed], B7.out⟩
      case round =>
        obtain ⟨k, hk, rfl, rfl, hb⟩ := hrel
        have HBW := Lib.hid hb
        clear hb
        have hla3 : a.length ≤ 3000 := HLA.out
        by_cases hlt : k < a.length
        · have hlk : (k : Int) < (a.length : Int) := by omega
          have hk0 : (0 : Int) ≤ (k : Int) := by omega
          have hpk : a[k]? = some a[k] := List.getElem?_eq_getElem hlt
          obtain ⟨ad, rfl, _, a0, a1, a2, a3, a4⟩ := Reads.partN (HA.out.rt.next HBW.out) hpk
          clear a1 a2 a3 a4
          generalize a[k] = p at a0 hpk
          have HPK := Lib.hid hpk
          clear hpk
          have HC := Lib.hid (closed_all HPK.out)
          generalize hcl : (gTy a && closed (a.take k)) = cl
          have HCL := Lib.hid hcl
          clear hcl
          cases cl with
          | false =>
            go_wp2_with fail
            go_roundw
            case rel => exact ⟨k + 1, by omega, by go_num, by rw [HC.out, ← Bool.and_assoc, HCL.out]; rfl, HBW.out⟩
            case measure => simp [intOf]; omega
          | true =>
            go_wp2_with fail
            go_roundw
            case rel => exact ⟨k + 1, by omega, by go_num, by rw [HC.out, ← Bool.and_assoc, HCL.out]; rfl, HBW.out⟩
            case measure => simp [intOf]; omega
        · obtain rfl : k = a.length := by omega
          have hlk : ¬ ((a.length : Int) < (a.length : Int)) := by omega
          rw [List.take_length]
          clear hk hlt
          cases hcl : (gTy a && closed a) with
          | false =>
            clear hcl
            go_wp2_with fail
            refine (c16 a a Aa Aa ca ca _ (HA.out.rt.next HBW.out) (HA.out.rt.next HBW.out)).mono ?_
            rintro e wa ⟨ra, rfl, hma, ba⟩
            have BA := Lib.hid (next_ HBW.out ba)
            obtain rfl : ra = gTy a := by rw [Bool.eq_iff_iff, hma, Inst.refl_iff]
            clear hma ba
            go_wp2_with fail
            refine (c9b a Aa ca _ (HA.out.rt.next BA.out)).mono ?_
            rintro e wb ⟨rfl, bb⟩
            have BB := Lib.hid (next_ BA.out bb)
            clear bb
            cases hga2 : gTy a
            all_goals
              have ft : (true == true) = true := rfl
              have ff : (false == false) = true := rfl
              go_wp2_with fail
              refine (c10 _ (HT.out.next BB.out)).mono ?_
              rintro e wz ⟨rfl, hbz⟩
              go_wp2_with fail
              go_ret
              exact ⟨rfl, next_ BB.out hbz⟩
          | true =>
            have HCL := Lib.hid ((Bool.and_eq_true _ _).mp hcl)
            clear hcl
            go_wp2_with fail
            refine (c16 a b Aa Ab ca cb _ (HA.out.rt.next HBW.out) (HB.out.rt.next HBW.out)).mono ?_
            rintro e w8 ⟨r8, rfl, hm8, b8⟩
            have B8 := Lib.hid (next_ HBW.out b8)
            obtain rfl : r8 = decide (a = b) := by rw [Bool.eq_iff_iff, hm8, Inst.closed_iff HCL.out.1 HCL.out.2, decide_eq_true_iff]
            clear hm8 b8
            go_wp2_with fail
            refine (c18 a b Aa Ab ca cb _ (HA.out.rt.next B8.out) (HB.out.rt.next B8.out) HLA.out).mono ?_
            rintro e w9 ⟨rfl, b9⟩
            have B9 := Lib.hid (next_ B8.out b9)
            clear b9
            have ft0 : (true == true) = true := rfl
            have ff0 : (false == false) = true := rfl
            generalize decide (a = b) = dab
            cases dab
            · go_wp2_with fail
              refine (c16 a a Aa Aa ca ca _ (HA.out.rt.next B9.out) (HA.out.rt.next B9.out)).mono ?_
              rintro e wa ⟨ra, rfl, hma, ba⟩
              have BA := Lib.hid (next_ B9.out ba)
              obtain rfl : ra = gTy a := by rw [Bool.eq_iff_iff, hma, Inst.refl_iff]
              clear hma ba
              go_wp2_with fail
              refine (c9b a Aa ca _ (HA.out.rt.next BA.out)).mono ?_
              rintro e wb ⟨rfl, bb⟩
              have BB := Lib.hid (next_ BA.out bb)
              clear bb
              cases hga2 : gTy a
              all_goals
                have ft : (true == true) = true := rfl
                have ff : (false == false) = true := rfl
                go_wp2_with fail
                refine (c10 _ (HT.out.next BB.out)).mono ?_
                rintro e wz ⟨rfl, hbz⟩
                go_wp2_with fail
                go_ret
                exact ⟨rfl, next_ BB.out hbz⟩
            · go_wp2_with fail
              refine (c16 a a Aa Aa ca ca _ (HA.out.rt.next B9.out) (HA.out.rt.next B9.out)).mono ?_
              rintro e wa ⟨ra, rfl, hma, ba⟩
              have BA := Lib.hid (next_ B9.out ba)
              obtain rfl : ra = gTy a := by rw [Bool.eq_iff_iff, hma, Inst.refl_iff]
              clear hma ba
              go_wp2_with fail
              refine (c9b a Aa ca _ (HA.out.rt.next BA.out)).mono ?_
              rintro e wb ⟨rfl, bb⟩
              have BB := Lib.hid (next_ BA.out bb)
              clear bb
              cases hga2 : gTy a
              all_goals
                have ft : (true == true) = true := rfl
                have ff : (false == false) = true := rfl
                go_wp2_with fail
                refine (c10 _ (HT.out.next BB.out)).mono ?_
                rintro e wz ⟨rfl, hbz⟩
                go_wp2_with fail
                go_ret
                exact ⟨rfl, next_ BB.out hbz⟩
end Go.Proofs.YtcilodgpbdafeaaDoor
