/- The law TypesMeet, walked. -/
import Derived.Test.YtcilodgpbdafeaaDoorTWakes
namespace Go.Proofs.YtcilodgpbdafeaaDoor
open Go.ChangeShapes Go.WideShapes Go.ChangeAt Go.RowKit
set_option linter.unusedVariables false
set_option linter.unusedSimpArgs false
/-- What the list of parts of a slice from outside is: it reads as it, and its length and texts are no longer than can be. -/
structure Handed (w : World) (A : Option Addr) (l : List Part) : Prop where
  rt : RT w A l
  txt : ∀ p ∈ l, p.t.length ≤ 281474976710656
  len : l.length ≤ 281474976710656
theorem c8b (l : List Part) (A : Option Addr) (c : Nat) (w : World) (h : Handed w A l) : Calls Tryd.prog 8 #[.slice A l.length c] w fun e w' => e = .returned (.bool (large l)) ∧ w = w' := c8 l A c w h.rt h.txt h.len
theorem RT.none_ (w : World) : RT w none [] := Reads.none_
/-- What the two meetings give, one way round and the other. -/
theorem MeetR.good {a b m : List Part} (h : MeetR a b (some m)) : gTy m = true ∧ m.length ≤ 3000 := by
  have := h.1.good.2
  obtain ⟨T, hT, rfl, hz⟩ := (gTy_iff _).1 this
  exact ⟨this, by rw [enc_len]; omega⟩
theorem MeetR.tame {a b m : List Part} (h : MeetR a b (some m)) : gTy a = true ∧ a.length ≤ 3000 := by
  have := h.1.good.1
  obtain ⟨T, hT, rfl, hz⟩ := (gTy_iff _).1 this
  exact ⟨this, by rw [enc_len]; omega⟩
theorem meetR_self {a b m : List Part} {r : Option (List Part)} (h : MeetR a b (some m)) (h' : MeetR a a r) : r = some (norm a) := h'.one (MeetR.self h.tame.1)
theorem meetR_again {a b m : List Part} {r : Option (List Part)} (h : MeetR a b (some m)) (h' : MeetR a m r) : r = some m := by
  have := h'.one (MeetR.inst h.1)
  rw [h.2.2.1] at this
  exact this
set_option maxRecDepth 100000 in
set_option maxHeartbeats 16000000 in
theorem c6 (a b d : List Part) (Aa Ab Ad : Option Addr) (ca cb cd : Nat) (W : World) (ha : Handed W Aa a) (hb : Handed W Ab b) (hd : Handed W Ad d) (ht : WordTab W) :
    Calls Tryd.prog 6 #[.slice Aa a.length ca, .slice Ab b.length cb, .slice Ad d.length cd] W fun e W' => e = .returned (.bool true) ∧ Below W.heap.size W W' := by
  have HA := Lib.hid ha
  have HB := Lib.hid hb
  have HD := Lib.hid hd
  have HT := Lib.hid ht
  clear ha hb hd ht
  go_enter Tryd.func6, Tryd.ntmps6
  go_wp2_with fail
  refine (c8b a Aa ca _ HA.out).mono ?_
  rintro e w ⟨rfl, rfl⟩
  cases hla : large a with
  | true =>
    go_wp2_with fail
    refine (c10 _ HT.out).mono ?_
    rintro e wz ⟨rfl, hbz⟩
    go_wp2_with fail
    go_ret
    exact ⟨rfl, hbz⟩
  | false =>
  go_wp2_with fail
  refine (c8b b Ab cb _ HB.out).mono ?_
  rintro e w ⟨rfl, rfl⟩
  cases hlb : large b with
  | true =>
    go_wp2_with fail
    refine (c10 _ HT.out).mono ?_
    rintro e wz ⟨rfl, hbz⟩
    go_wp2_with fail
    go_ret
    exact ⟨rfl, hbz⟩
  | false =>
  go_wp2_with fail
  refine (c8b d Ad cd _ HD.out).mono ?_
  rintro e w ⟨rfl, rfl⟩
  cases hld : large d with
  | true =>
    go_wp2_with fail
    refine (c10 _ HT.out).mono ?_
    rintro e wz ⟨rfl, hbz⟩
    go_wp2_with fail
    go_ret
    exact ⟨rfl, hbz⟩
  | false =>
  go_wp2_with fail
  refine (c21 a b Aa Ab ca cb _ HA.out.rt HB.out.rt).mono ?_
  rintro e w1 ⟨r, v, rfl, hm, hb, h1, h2⟩
  have HM := Lib.hid hm
  have RA1 := Lib.hid (HA.out.rt.next hb)
  have RB1 := Lib.hid (HB.out.rt.next hb)
  have RD1 := Lib.hid (HD.out.rt.next hb)
  have B1 := Lib.hid hb
  have O1 := Lib.hid h1
  have N1 := Lib.hid h2
  clear hm hb h1 h2
  go_wp2_with fail
  refine (c21 b a Ab Aa cb ca _ RB1.out RA1.out).mono ?_
  rintro e w2 ⟨r', v', rfl, hm, hb, h1, h2⟩
  obtain rfl := HM.out.one hm.symm
  have RA2 := Lib.hid (RA1.out.next hb)
  have RB2 := Lib.hid (RB1.out.next hb)
  have RD2 := Lib.hid (RD1.out.next hb)
  have B2 := Lib.hid (next_ B1.out hb)
  have O2 := Lib.hid h1
  have N2 := Lib.hid h2
  have HB2 := Lib.hid hb
  clear hm hb h1 h2 RA1 RB1 RD1 B1
  cases r with
  | none =>
    obtain rfl := N1.out rfl
    obtain rfl := N2.out rfl
    simp only [Option.isSome_none]
    have hbn : (false != false) = false := rfl
    go_wp2_with fail
    refine (c18 [] [] none none 0 0 _ (RT.none_ _) (RT.none_ _) (Nat.zero_le _)).mono ?_
    rintro e w3 ⟨rfl, hb⟩
    rw [decide_eq_true rfl]
    have RA3 := Lib.hid (RA2.out.next hb)
    have RB3 := Lib.hid (RB2.out.next hb)
    have RD3 := Lib.hid (RD2.out.next hb)
    have B3 := Lib.hid (next_ B2.out hb)
    clear hb RA2 RB2 RD2 B2
    go_wp2_with fail
    refine (c16 a d Aa Ad ca cd _ RA3.out RD3.out).mono ?_
    rintro e w4 ⟨r1, rfl, hm1, hb⟩
    have HM1 := Lib.hid hm1
    have RB4 := Lib.hid (RB3.out.next hb)
    have RD4 := Lib.hid (RD3.out.next hb)
    have B4 := Lib.hid (next_ B3.out hb)
    clear hb hm1 RA3 RB3 RD3 B3
    cases r1 with
    | true =>
      go_wp2_with fail
      refine (c16 b d Ab Ad cb cd _ RB4.out RD4.out).mono ?_
      rintro e w5 ⟨r2, rfl, hm2, hb⟩
      obtain rfl : r2 = false := Bool.eq_false_iff.2 fun h => HM.out d (HM1.out.1 (by first | rfl | trivial)) (hm2.1 h)
      have B5 := Lib.hid (next_ B4.out hb)
      clear hb hm2

      go_wp2_with fail
      refine (c10 _ (HT.out.next B5.out)).mono ?_
      rintro e wz ⟨rfl, hbz⟩
      go_wp2_with fail
      go_ret
      exact ⟨rfl, next_ B5.out hbz⟩
    | false =>
      go_wp2_with fail
      refine (c10 _ (HT.out.next B4.out)).mono ?_
      rintro e wz ⟨rfl, hbz⟩
      go_wp2_with fail
      go_ret
      exact ⟨rfl, next_ B4.out hbz⟩
  | some m =>
    obtain ⟨A1, c1, rfl⟩ := own_form (O1.out m rfl)
    obtain ⟨A2, c2, rfl⟩ := own_form (O2.out m rfl)
    have RM2 := Lib.hid (show RT w2 A1 m from RT.next (Reads.of_own (O1.out m rfl)) HB2.out)
    have RN2 := Lib.hid (show RT w2 A2 m from Reads.of_own (O2.out m rfl))
    have hml := HM.out.good.2
    have hgm := HM.out.good.1
    clear O1 O2 N1 N2 HB2
    simp only [Option.isSome_some]
    have hbn : (true != true) = false := rfl
    go_wp2_with fail
    refine (c18 m m A1 A2 c1 c2 _ RM2.out RN2.out hml).mono ?_
    rintro e w3 ⟨rfl, hb⟩
    rw [decide_eq_true rfl]
    have RA3 := Lib.hid (RA2.out.next hb)
    have RB3 := Lib.hid (RB2.out.next hb)
    have RD3 := Lib.hid (RD2.out.next hb)
    have RM3 := Lib.hid (RM2.out.next hb)
    have B3 := Lib.hid (next_ B2.out hb)
    clear hb RA2 RB2 RD2 B2 RM2 RN2
    go_wp2_with fail
    refine (c16 a d Aa Ad ca cd _ RA3.out RD3.out).mono ?_
    rintro e w4 ⟨r1, rfl, hm1, hb⟩
    have HM1 := Lib.hid hm1
    have RA4 := Lib.hid (RA3.out.next hb)
    have RB4 := Lib.hid (RB3.out.next hb)
    have RD4 := Lib.hid (RD3.out.next hb)
    have RM4 := Lib.hid (RM3.out.next hb)
    have B4 := Lib.hid (next_ B3.out hb)
    clear hb hm1 RA3 RB3 RD3 B3 RM3
    cases r1 with
    | false =>
      go_wp2_with fail
      refine (c13 m A1 c1 _ _ RM4.out (Nat.le_refl _)).mono ?_
      rintro e w5 ⟨rfl, hb⟩
      have RA5 := Lib.hid (RA4.out.next hb)
      have RB5 := Lib.hid (RB4.out.next hb)
      have RD5 := Lib.hid (RD4.out.next hb)
      have RM5 := Lib.hid (RM4.out.next hb)
      have B5 := Lib.hid (next_ B4.out hb)
      clear hb RA4 RB4 RD4 RM4 B4
      rw [hgm]
      go_wp2_with fail
      refine (c16 a m Aa A1 ca c1 _ RA5.out RM5.out).mono ?_
      rintro e w6 ⟨r, rfl, hm, hb⟩
      obtain rfl : r = true := hm.2 HM.out.1
      have RA6 := Lib.hid (RA5.out.next hb)
      have RB6 := Lib.hid (RB5.out.next hb)
      have RD6 := Lib.hid (RD5.out.next hb)
      have RM6 := Lib.hid (RM5.out.next hb)
      have B6 := Lib.hid (next_ B5.out hb)
      clear hb RA5 RB5 RD5 RM5 B5
      clear hm
      go_wp2_with fail
      refine (c16 b m Ab A1 cb c1 _ RB6.out RM6.out).mono ?_
      rintro e w7 ⟨r, rfl, hm, hb⟩
      obtain rfl : r = true := hm.2 HM.out.2.1
      have RA7 := Lib.hid (RA6.out.next hb)
      have RB7 := Lib.hid (RB6.out.next hb)
      have RD7 := Lib.hid (RD6.out.next hb)
      have RM7 := Lib.hid (RM6.out.next hb)
      have B7 := Lib.hid (next_ B6.out hb)
      clear hb RA6 RB6 RD6 RM6 B6
      clear hm
      go_wp2_with fail
      refine (c21 a a Aa Aa ca ca _ RA7.out RA7.out).mono ?_
      rintro e w8 ⟨r, v, rfl, hm, hb, h1, _⟩
      obtain rfl := meetR_self HM.out hm
      obtain ⟨A5, c5, rfl⟩ := own_form (h1 _ rfl)
      have hr := Reads.of_own (h1 _ rfl)
      have RA8 := Lib.hid (RA7.out.next hb)
      have RB8 := Lib.hid (RB7.out.next hb)
      have RD8 := Lib.hid (RD7.out.next hb)
      have RM8 := Lib.hid (RM7.out.next hb)
      have B8 := Lib.hid (next_ B7.out hb)
      clear hb RA7 RB7 RD7 RM7 B7
      have RS8 := Lib.hid (show RT w8 A5 (norm a) from hr)
      clear hr h1 hm
      simp only [Option.isSome_some]
      go_wp2_with fail
      refine (c20 a Aa ca _ RA8.out).mono ?_
      rintro e w9 ⟨v, rfl, hb, h1, _⟩
      have h1 := h1 HM.out.tame.1
      rw [HM.out.tame.1]
      obtain ⟨A6, c6, rfl⟩ := own_form h1
      have hr := Reads.of_own h1
      have RA9 := Lib.hid (RA8.out.next hb)
      have RB9 := Lib.hid (RB8.out.next hb)
      have RD9 := Lib.hid (RD8.out.next hb)
      have RM9 := Lib.hid (RM8.out.next hb)
      have RS9 := Lib.hid (RS8.out.next hb)
      have B9 := Lib.hid (next_ B8.out hb)
      clear hb RA8 RB8 RD8 RM8 RS8 B8
      have RW9 := Lib.hid (show RT w9 A6 (norm a) from by unfold RT; rw [norm_len]; exact hr)
      clear hr h1
      go_wp2_with fail
      refine (c21 a m Aa A1 ca c1 _ RA9.out RM9.out).mono ?_
      rintro e w10 ⟨r, v, rfl, hm, hb, h1, _⟩
      obtain rfl := meetR_again HM.out hm
      obtain ⟨A7, c7, rfl⟩ := own_form (h1 _ rfl)
      have hr := Reads.of_own (h1 _ rfl)
      have RA10 := Lib.hid (RA9.out.next hb)
      have RB10 := Lib.hid (RB9.out.next hb)
      have RD10 := Lib.hid (RD9.out.next hb)
      have RM10 := Lib.hid (RM9.out.next hb)
      have RS10 := Lib.hid (RS9.out.next hb)
      have RW10 := Lib.hid (RW9.out.next hb)
      have B10 := Lib.hid (next_ B9.out hb)
      clear hb RA9 RB9 RD9 RM9 RS9 RW9 B9
      have RU10 := Lib.hid (show RT w10 A7 m from hr)
      clear hr h1 hm
      simp only [Option.isSome_some]
      have hnl := norm_len a
      have hnl' : (norm a).length ≤ 3000 := by rw [hnl]; exact HM.out.tame.2
      have hk := fun w h h' => c18 (norm a) (norm a) A5 A6 c5 c6 w h h' hnl'
      rw [hnl] at hk
      simp only [hnl]
      go_wp2_with fail
      refine (hk _ RS10.out RW10.out).mono ?_
      rintro e w11 ⟨rfl, hb⟩
      first | rw [decide_eq_true rfl] | rw [decide_eq_true trivial]
      have RA11 := Lib.hid (RA10.out.next hb)
      have RB11 := Lib.hid (RB10.out.next hb)
      have RD11 := Lib.hid (RD10.out.next hb)
      have RM11 := Lib.hid (RM10.out.next hb)
      have RS11 := Lib.hid (RS10.out.next hb)
      have RW11 := Lib.hid (RW10.out.next hb)
      have RU11 := Lib.hid (RU10.out.next hb)
      have B11 := Lib.hid (next_ B10.out hb)
      clear hb RA10 RB10 RD10 RM10 RS10 RW10 RU10 B10
      clear hk
      go_wp2_with fail
      refine (c18 m m A7 A1 c7 c1 _ RU11.out RM11.out hml).mono ?_
      rintro e w12 ⟨rfl, hb⟩
      first | rw [decide_eq_true rfl] | rw [decide_eq_true trivial]
      have RA12 := Lib.hid (RA11.out.next hb)
      have RB12 := Lib.hid (RB11.out.next hb)
      have RD12 := Lib.hid (RD11.out.next hb)
      have RM12 := Lib.hid (RM11.out.next hb)
      have RS12 := Lib.hid (RS11.out.next hb)
      have RW12 := Lib.hid (RW11.out.next hb)
      have RU12 := Lib.hid (RU11.out.next hb)
      have B12 := Lib.hid (next_ B11.out hb)
      clear hb RA11 RB11 RD11 RM11 RS11 RW11 RU11 B11
      go_wp2_with fail
      refine (c10 _ (HT.out.next B12.out)).mono ?_
      rintro e wz ⟨rfl, hbz⟩
      go_wp2_with fail
      go_ret
      exact ⟨rfl, next_ B12.out hbz⟩
    | true =>
      go_wp2_with fail
      refine (c16 b d Ab Ad cb cd _ RB4.out RD4.out).mono ?_
      rintro e w5 ⟨r2, rfl, hm2, hb⟩
      have HM2 := Lib.hid hm2
      have RA5 := Lib.hid (RA4.out.next hb)
      have RB5 := Lib.hid (RB4.out.next hb)
      have RD5 := Lib.hid (RD4.out.next hb)
      have RM5 := Lib.hid (RM4.out.next hb)
      have B5 := Lib.hid (next_ B4.out hb)
      clear hb hm2 RA4 RB4 RD4 B4 RM4
      cases r2 with
      | false =>
        go_wp2_with fail
        refine (c13 m A1 c1 _ _ RM5.out (Nat.le_refl _)).mono ?_
        rintro e w6 ⟨rfl, hb⟩
        have RA6 := Lib.hid (RA5.out.next hb)
        have RB6 := Lib.hid (RB5.out.next hb)
        have RD6 := Lib.hid (RD5.out.next hb)
        have RM6 := Lib.hid (RM5.out.next hb)
        have B6 := Lib.hid (next_ B5.out hb)
        clear hb RA5 RB5 RD5 RM5 B5
        rw [hgm]
        go_wp2_with fail
        refine (c16 a m Aa A1 ca c1 _ RA6.out RM6.out).mono ?_
        rintro e w7 ⟨r, rfl, hm, hb⟩
        obtain rfl : r = true := hm.2 HM.out.1
        have RA7 := Lib.hid (RA6.out.next hb)
        have RB7 := Lib.hid (RB6.out.next hb)
        have RD7 := Lib.hid (RD6.out.next hb)
        have RM7 := Lib.hid (RM6.out.next hb)
        have B7 := Lib.hid (next_ B6.out hb)
        clear hb RA6 RB6 RD6 RM6 B6
        clear hm
        go_wp2_with fail
        refine (c16 b m Ab A1 cb c1 _ RB7.out RM7.out).mono ?_
        rintro e w8 ⟨r, rfl, hm, hb⟩
        obtain rfl : r = true := hm.2 HM.out.2.1
        have RA8 := Lib.hid (RA7.out.next hb)
        have RB8 := Lib.hid (RB7.out.next hb)
        have RD8 := Lib.hid (RD7.out.next hb)
        have RM8 := Lib.hid (RM7.out.next hb)
        have B8 := Lib.hid (next_ B7.out hb)
        clear hb RA7 RB7 RD7 RM7 B7
        clear hm
        go_wp2_with fail
        refine (c21 a a Aa Aa ca ca _ RA8.out RA8.out).mono ?_
        rintro e w9 ⟨r, v, rfl, hm, hb, h1, _⟩
        obtain rfl := meetR_self HM.out hm
        obtain ⟨A5, c5, rfl⟩ := own_form (h1 _ rfl)
        have hr := Reads.of_own (h1 _ rfl)
        have RA9 := Lib.hid (RA8.out.next hb)
        have RB9 := Lib.hid (RB8.out.next hb)
        have RD9 := Lib.hid (RD8.out.next hb)
        have RM9 := Lib.hid (RM8.out.next hb)
        have B9 := Lib.hid (next_ B8.out hb)
        clear hb RA8 RB8 RD8 RM8 B8
        have RS9 := Lib.hid (show RT w9 A5 (norm a) from hr)
        clear hr h1 hm
        simp only [Option.isSome_some]
        go_wp2_with fail
        refine (c20 a Aa ca _ RA9.out).mono ?_
        rintro e w10 ⟨v, rfl, hb, h1, _⟩
        have h1 := h1 HM.out.tame.1
        rw [HM.out.tame.1]
        obtain ⟨A6, c6, rfl⟩ := own_form h1
        have hr := Reads.of_own h1
        have RA10 := Lib.hid (RA9.out.next hb)
        have RB10 := Lib.hid (RB9.out.next hb)
        have RD10 := Lib.hid (RD9.out.next hb)
        have RM10 := Lib.hid (RM9.out.next hb)
        have RS10 := Lib.hid (RS9.out.next hb)
        have B10 := Lib.hid (next_ B9.out hb)
        clear hb RA9 RB9 RD9 RM9 RS9 B9
        have RW10 := Lib.hid (show RT w10 A6 (norm a) from by unfold RT; rw [norm_len]; exact hr)
        clear hr h1
        go_wp2_with fail
        refine (c21 a m Aa A1 ca c1 _ RA10.out RM10.out).mono ?_
        rintro e w11 ⟨r, v, rfl, hm, hb, h1, _⟩
        obtain rfl := meetR_again HM.out hm
        obtain ⟨A7, c7, rfl⟩ := own_form (h1 _ rfl)
        have hr := Reads.of_own (h1 _ rfl)
        have RA11 := Lib.hid (RA10.out.next hb)
        have RB11 := Lib.hid (RB10.out.next hb)
        have RD11 := Lib.hid (RD10.out.next hb)
        have RM11 := Lib.hid (RM10.out.next hb)
        have RS11 := Lib.hid (RS10.out.next hb)
        have RW11 := Lib.hid (RW10.out.next hb)
        have B11 := Lib.hid (next_ B10.out hb)
        clear hb RA10 RB10 RD10 RM10 RS10 RW10 B10
        have RU11 := Lib.hid (show RT w11 A7 m from hr)
        clear hr h1 hm
        simp only [Option.isSome_some]
        have hnl := norm_len a
        have hnl' : (norm a).length ≤ 3000 := by rw [hnl]; exact HM.out.tame.2
        have hk := fun w h h' => c18 (norm a) (norm a) A5 A6 c5 c6 w h h' hnl'
        rw [hnl] at hk
        simp only [hnl]
        go_wp2_with fail
        refine (hk _ RS11.out RW11.out).mono ?_
        rintro e w12 ⟨rfl, hb⟩
        first | rw [decide_eq_true rfl] | rw [decide_eq_true trivial]
        have RA12 := Lib.hid (RA11.out.next hb)
        have RB12 := Lib.hid (RB11.out.next hb)
        have RD12 := Lib.hid (RD11.out.next hb)
        have RM12 := Lib.hid (RM11.out.next hb)
        have RS12 := Lib.hid (RS11.out.next hb)
        have RW12 := Lib.hid (RW11.out.next hb)
        have RU12 := Lib.hid (RU11.out.next hb)
        have B12 := Lib.hid (next_ B11.out hb)
        clear hb RA11 RB11 RD11 RM11 RS11 RW11 RU11 B11
        clear hk
        go_wp2_with fail
        refine (c18 m m A7 A1 c7 c1 _ RU12.out RM12.out hml).mono ?_
        rintro e w13 ⟨rfl, hb⟩
        first | rw [decide_eq_true rfl] | rw [decide_eq_true trivial]
        have RA13 := Lib.hid (RA12.out.next hb)
        have RB13 := Lib.hid (RB12.out.next hb)
        have RD13 := Lib.hid (RD12.out.next hb)
        have RM13 := Lib.hid (RM12.out.next hb)
        have RS13 := Lib.hid (RS12.out.next hb)
        have RW13 := Lib.hid (RW12.out.next hb)
        have RU13 := Lib.hid (RU12.out.next hb)
        have B13 := Lib.hid (next_ B12.out hb)
        clear hb RA12 RB12 RD12 RM12 RS12 RW12 RU12 B12
        go_wp2_with fail
        refine (c10 _ (HT.out.next B13.out)).mono ?_
        rintro e wz ⟨rfl, hbz⟩
        go_wp2_with fail
        go_ret
        exact ⟨rfl, next_ B13.out hbz⟩
      | true =>
        go_wp2_with fail
        refine (c13 m A1 c1 _ _ RM5.out (Nat.le_refl _)).mono ?_
        rintro e w6 ⟨rfl, hb⟩
        have RA6 := Lib.hid (RA5.out.next hb)
        have RB6 := Lib.hid (RB5.out.next hb)
        have RD6 := Lib.hid (RD5.out.next hb)
        have RM6 := Lib.hid (RM5.out.next hb)
        have B6 := Lib.hid (next_ B5.out hb)
        clear hb RA5 RB5 RD5 RM5 B5
        rw [hgm]
        go_wp2_with fail
        refine (c16 a m Aa A1 ca c1 _ RA6.out RM6.out).mono ?_
        rintro e w7 ⟨r, rfl, hm, hb⟩
        obtain rfl : r = true := hm.2 HM.out.1
        have RA7 := Lib.hid (RA6.out.next hb)
        have RB7 := Lib.hid (RB6.out.next hb)
        have RD7 := Lib.hid (RD6.out.next hb)
        have RM7 := Lib.hid (RM6.out.next hb)
        have B7 := Lib.hid (next_ B6.out hb)
        clear hb RA6 RB6 RD6 RM6 B6
        clear hm
        go_wp2_with fail
        refine (c16 b m Ab A1 cb c1 _ RB7.out RM7.out).mono ?_
        rintro e w8 ⟨r, rfl, hm, hb⟩
        obtain rfl : r = true := hm.2 HM.out.2.1
        have RA8 := Lib.hid (RA7.out.next hb)
        have RB8 := Lib.hid (RB7.out.next hb)
        have RD8 := Lib.hid (RD7.out.next hb)
        have RM8 := Lib.hid (RM7.out.next hb)
        have B8 := Lib.hid (next_ B7.out hb)
        clear hb RA7 RB7 RD7 RM7 B7
        clear hm
        go_wp2_with fail
        refine (c16 m d A1 Ad c1 cd _ RM8.out RD8.out).mono ?_
        rintro e w9 ⟨r, rfl, hm, hb⟩
        obtain rfl : r = true := hm.2 (HM.out.2.2.2 d (HM1.out.1 (by first | rfl | trivial)) (HM2.out.1 (by first | rfl | trivial)))
        have RA9 := Lib.hid (RA8.out.next hb)
        have RB9 := Lib.hid (RB8.out.next hb)
        have RD9 := Lib.hid (RD8.out.next hb)
        have RM9 := Lib.hid (RM8.out.next hb)
        have B9 := Lib.hid (next_ B8.out hb)
        clear hb RA8 RB8 RD8 RM8 B8
        clear hm
        go_wp2_with fail
        refine (c21 a a Aa Aa ca ca _ RA9.out RA9.out).mono ?_
        rintro e w10 ⟨r, v, rfl, hm, hb, h1, _⟩
        obtain rfl := meetR_self HM.out hm
        obtain ⟨A5, c5, rfl⟩ := own_form (h1 _ rfl)
        have hr := Reads.of_own (h1 _ rfl)
        have RA10 := Lib.hid (RA9.out.next hb)
        have RB10 := Lib.hid (RB9.out.next hb)
        have RD10 := Lib.hid (RD9.out.next hb)
        have RM10 := Lib.hid (RM9.out.next hb)
        have B10 := Lib.hid (next_ B9.out hb)
        clear hb RA9 RB9 RD9 RM9 B9
        have RS10 := Lib.hid (show RT w10 A5 (norm a) from hr)
        clear hr h1 hm
        simp only [Option.isSome_some]
        go_wp2_with fail
        refine (c20 a Aa ca _ RA10.out).mono ?_
        rintro e w11 ⟨v, rfl, hb, h1, _⟩
        have h1 := h1 HM.out.tame.1
        rw [HM.out.tame.1]
        obtain ⟨A6, c6, rfl⟩ := own_form h1
        have hr := Reads.of_own h1
        have RA11 := Lib.hid (RA10.out.next hb)
        have RB11 := Lib.hid (RB10.out.next hb)
        have RD11 := Lib.hid (RD10.out.next hb)
        have RM11 := Lib.hid (RM10.out.next hb)
        have RS11 := Lib.hid (RS10.out.next hb)
        have B11 := Lib.hid (next_ B10.out hb)
        clear hb RA10 RB10 RD10 RM10 RS10 B10
        have RW11 := Lib.hid (show RT w11 A6 (norm a) from by unfold RT; rw [norm_len]; exact hr)
        clear hr h1
        go_wp2_with fail
        refine (c21 a m Aa A1 ca c1 _ RA11.out RM11.out).mono ?_
        rintro e w12 ⟨r, v, rfl, hm, hb, h1, _⟩
        obtain rfl := meetR_again HM.out hm
        obtain ⟨A7, c7, rfl⟩ := own_form (h1 _ rfl)
        have hr := Reads.of_own (h1 _ rfl)
        have RA12 := Lib.hid (RA11.out.next hb)
        have RB12 := Lib.hid (RB11.out.next hb)
        have RD12 := Lib.hid (RD11.out.next hb)
        have RM12 := Lib.hid (RM11.out.next hb)
        have RS12 := Lib.hid (RS11.out.next hb)
        have RW12 := Lib.hid (RW11.out.next hb)
        have B12 := Lib.hid (next_ B11.out hb)
        clear hb RA11 RB11 RD11 RM11 RS11 RW11 B11
        have RU12 := Lib.hid (show RT w12 A7 m from hr)
        clear hr h1 hm
        simp only [Option.isSome_some]
        have hnl := norm_len a
        have hnl' : (norm a).length ≤ 3000 := by rw [hnl]; exact HM.out.tame.2
        have hk := fun w h h' => c18 (norm a) (norm a) A5 A6 c5 c6 w h h' hnl'
        rw [hnl] at hk
        simp only [hnl]
        go_wp2_with fail
        refine (hk _ RS12.out RW12.out).mono ?_
        rintro e w13 ⟨rfl, hb⟩
        first | rw [decide_eq_true rfl] | rw [decide_eq_true trivial]
        have RA13 := Lib.hid (RA12.out.next hb)
        have RB13 := Lib.hid (RB12.out.next hb)
        have RD13 := Lib.hid (RD12.out.next hb)
        have RM13 := Lib.hid (RM12.out.next hb)
        have RS13 := Lib.hid (RS12.out.next hb)
        have RW13 := Lib.hid (RW12.out.next hb)
        have RU13 := Lib.hid (RU12.out.next hb)
        have B13 := Lib.hid (next_ B12.out hb)
        clear hb RA12 RB12 RD12 RM12 RS12 RW12 RU12 B12
        clear hk
        go_wp2_with fail
        refine (c18 m m A7 A1 c7 c1 _ RU13.out RM13.out hml).mono ?_
        rintro e w14 ⟨rfl, hb⟩
        first | rw [decide_eq_true rfl] | rw [decide_eq_true trivial]
        have RA14 := Lib.hid (RA13.out.next hb)
        have RB14 := Lib.hid (RB13.out.next hb)
        have RD14 := Lib.hid (RD13.out.next hb)
        have RM14 := Lib.hid (RM13.out.next hb)
        have RS14 := Lib.hid (RS13.out.next hb)
        have RW14 := Lib.hid (RW13.out.next hb)
        have RU14 := Lib.hid (RU13.out.next hb)
        have B14 := Lib.hid (next_ B13.out hb)
        clear hb RA13 RB13 RD13 RM13 RS13 RW13 RU13 B13
        go_wp2_with fail
        refine (c10 _ (HT.out.next B14.out)).mono ?_
        rintro e wz ⟨rfl, hbz⟩
        go_wp2_with fail
        go_ret
        exact ⟨rfl, next_ B14.out hbz⟩
end Go.Proofs.YtcilodgpbdafeaaDoor
