/- The law TypesNormal, walked. -/
import Derived.Test.YtcilodgpbdafeaaDoorTLawK
namespace Go.Proofs.YtcilodgpbdafeaaDoor
open Go.ChangeShapes Go.WideShapes Go.ChangeAt Go.RowKit
set_option linter.unusedVariables false
set_option linter.unusedSimpArgs false
set_option maxRecDepth 100000 in
set_option maxHeartbeats 16000000 in
theorem c7 (a b : List Part) (Aa Ab : Option Addr) (ca cb : Nat) (W : World) (ha : Handed W Aa a) (hb : Handed W Ab b) (ht : WordTab W) :
    Calls Tryd.prog 7 #[.slice Aa a.length ca, .slice Ab b.length cb] W fun e W' => e = .returned (.bool true) ∧ Below W.heap.size W W' := by
  have HA := Lib.hid ha
  have HB := Lib.hid hb
  have HT := Lib.hid ht
  clear ha hb ht
  go_enter Tryd.func7, Tryd.ntmps7
  go_wp2_with fail
  refine (c8b a Aa ca _ HA.out).mono ?_
  rintro e w ⟨rfl, rfl⟩
  cases hla : large a with
  | true =>
    go_wp2_with fail
    refine (c10 _ HT.out).mono ?_
    rintro e wz ⟨rfl, hbz⟩
    go_wp2_with fail
    go_ret
    exact ⟨rfl, hbz⟩

  | false =>
  go_wp2_with fail
  refine (c8b b Ab cb _ HB.out).mono ?_
  rintro e w ⟨rfl, rfl⟩
  cases hlb : large b with
  | true =>
    go_wp2_with fail
    refine (c10 _ HT.out).mono ?_
    rintro e wz ⟨rfl, hbz⟩
    go_wp2_with fail
    go_ret
    exact ⟨rfl, hbz⟩

  | false =>
  have HLA := Lib.hid (large_len hla)
  have HLB := Lib.hid (large_len hlb)
  have HXA := Lib.hid (large_txt hla)
  have HXB := Lib.hid (large_txt hlb)
  clear hla hlb
  go_wp2_with fail
  refine (c20 a Aa ca _ HA.out.rt).mono ?_
  rintro e w1 ⟨v1, rfl, b1, hy, hn⟩
  have B1 := Lib.hid b1
  have HY := Lib.hid hy
  have HN := Lib.hid hn
  clear b1 hy hn
  cases hga : gTy a with
  | false =>
    obtain rfl := HN.out hga
    have HGA := Lib.hid hga
    clear hga
    go_wp2_with fail
    refine (c9b a Aa ca _ (HA.out.rt.next B1.out)).mono ?_
    rintro e w2 ⟨rfl, b2⟩
    have B2 := Lib.hid (next_ B1.out b2)
    rw [HGA.out]
    clear b2
    go_wp2_with fail
    refine (c15 a Aa ca _ (HA.out.rt.next B2.out) HXA.out (HT.out.next B2.out)).mono ?_
    rintro e w3 ⟨s, rfl, b3, hs, _⟩
    obtain rfl := hs HGA.out
    have B3 := Lib.hid (next_ B2.out b3)
    clear b3 hs
    have hst : (strV []) = .string ⟨#[]⟩ := rfl
    rw [hst]
    clear hst
    go_wp2_with fail
    refine (c10 _ (HT.out.next B3.out)).mono ?_
    rintro e wz ⟨rfl, hbz⟩
    go_wp2_with fail
    go_ret
    exact ⟨rfl, next_ B3.out hbz⟩

  | true =>
  obtain ⟨An, cn, rfl, hrn⟩ := norm_back (HY.out hga)
  have HGA := Lib.hid hga
  have RN1 := Lib.hid hrn
  clear hga hrn HY HN
  go_wp2_with fail
  refine (c9b a Aa ca _ (HA.out.rt.next B1.out)).mono ?_
  rintro e w2 ⟨rfl, b2⟩
  have B2 := Lib.hid (next_ B1.out b2)
  have RN2 := Lib.hid (RN1.out.next b2)
  rw [HGA.out]
  clear b2 B1 RN1
  go_wp2_with fail
  refine (c20n a An cn _ RN2.out).mono ?_
  rintro e w3 ⟨v3, rfl, b3, hy, _⟩
  have hm := norm_back (hy (norm_good HGA.out))
  rw [norm_norm, norm_len] at hm
  obtain ⟨Am, cm, rfl, hrm⟩ := hm
  rw [norm_good HGA.out]
  have B3 := Lib.hid (next_ B2.out b3)
  have RN3 := Lib.hid (RN2.out.next b3)
  have RM3 := Lib.hid hrm
  clear b3 hy hrm B2 RN2
  go_wp2_with fail
  refine (c18n a a An Am cn cm _ RN3.out RM3.out HLA.out).mono ?_
  rintro e w4 ⟨rfl, b4⟩
  rw [decide_eq_true rfl]
  have B4 := Lib.hid (next_ B3.out b4)
  have RN4 := Lib.hid (RN3.out.next b4)
  clear b4 B3 RN3 RM3
  go_wp2_with fail
  refine (c16r a a Aa An ca cn _ (HA.out.rt.next B4.out) RN4.out).mono ?_
  rintro e w5 ⟨r5, rfl, hm5, b5⟩
  obtain rfl : r5 = true := hm5.2 (inst_norm HGA.out)
  have B5 := Lib.hid (next_ B4.out b5)
  have RN5 := Lib.hid (RN4.out.next b5)
  clear b5 hm5 B4 RN4
  go_wp2_with fail
  refine (c16l a a An Aa cn ca _ RN5.out (HA.out.rt.next B5.out)).mono ?_
  rintro e w6 ⟨r6, rfl, hm6, b6⟩
  obtain rfl : r6 = true := hm6.2 (norm_inst HGA.out)
  have B6 := Lib.hid (next_ B5.out b6)
  have RN6 := Lib.hid (RN5.out.next b6)
  clear b6 hm6 B5 RN5
  have fl : ((a.length : Int) != (a.length : Int)) = false := bne_self_eq_false ..
  go_wp2_with fail
  refine (c9b b Ab cb _ (HB.out.rt.next B6.out)).mono ?_
  rintro e w7 ⟨rfl, b7⟩
  have B7 := Lib.hid (next_ B6.out b7)
  have RN7 := Lib.hid (RN6.out.next b7)
  clear b7 B6 RN6 fl
  cases hgb : gTy b with
  | false =>
    go_wp2_with fail
    refine (c10 _ (HT.out.next B7.out)).mono ?_
    rintro e wz ⟨rfl, hbz⟩
    go_wp2_with fail
    go_ret
    exact ⟨rfl, next_ B7.out hbz⟩

  | true =>
  have HGB := Lib.hid hgb
  clear hgb
  go_wp2_with fail
  refine (c20 b Ab cb _ (HB.out.rt.next B7.out)).mono ?_
  rintro e w8 ⟨v8, rfl, b8, hy, _⟩
  obtain ⟨Ak, ck, rfl, hrk⟩ := norm_back (hy HGB.out)
  rw [HGB.out]
  have B8 := Lib.hid (next_ B7.out b8)
  have RN8 := Lib.hid (RN7.out.next b8)
  have RK8 := Lib.hid hrk
  clear b8 hy hrk B7 RN7
  go_wp2_with fail
  refine (c18n a b An Ak cn ck _ RN8.out RK8.out HLA.out).mono ?_
  rintro e w9 ⟨rfl, b9⟩
  have B9 := Lib.hid (next_ B8.out b9)
  clear b9 B8 RN8 RK8
  cases hd : decide (norm a = norm b) with
  | false =>
    go_wp2_with fail
    refine (c10 _ (HT.out.next B9.out)).mono ?_
    rintro e wz ⟨rfl, hbz⟩
    go_wp2_with fail
    go_ret
    exact ⟨rfl, next_ B9.out hbz⟩

  | true =>
  have HD := Lib.hid (of_decide_eq_true hd)
  clear hd
  go_wp2_with fail
  refine (c15 a Aa ca _ (HA.out.rt.next B9.out) HXA.out (HT.out.next B9.out)).mono ?_
  rintro e w10 ⟨s, rfl, b10, _, hs⟩
  have B10 := Lib.hid (next_ B9.out b10)
  have HS := Lib.hid hs
  clear b10 hs B9
  go_wp2_with fail
  refine (c15 b Ab cb _ (HB.out.rt.next B10.out) HXB.out (HT.out.next B10.out)).mono ?_
  rintro e w11 ⟨s', rfl, b11, _, hs'⟩
  have B11 := Lib.hid (next_ B10.out b11)
  obtain rfl : s' = s := by
    obtain ⟨T, hw, e⟩ := tree_of HGA.out
    rw [HS.out T hw HGA.out e, hs' T hw HGB.out (HD.out.symm.trans e)]
  clear b11 hs' B10 HS
  have fs := str_self s'
  go_wp2_with fail
  refine (c10 _ (HT.out.next B11.out)).mono ?_
  rintro e wz ⟨rfl, hbz⟩
  go_wp2_with fail
  go_ret
  exact ⟨rfl, next_ B11.out hbz⟩

end Go.Proofs.YtcilodgpbdafeaaDoor
