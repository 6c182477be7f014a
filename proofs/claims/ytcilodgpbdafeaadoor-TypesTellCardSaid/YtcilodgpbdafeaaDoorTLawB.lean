/- The law TypesBuild, walked. -/
import Derived.Test.YtcilodgpbdafeaaDoorTLawK
namespace Go.Proofs.YtcilodgpbdafeaaDoor
open Go.ChangeShapes Go.WideShapes Go.ChangeAt Go.RowKit
set_option linter.unusedVariables false
set_option linter.unusedSimpArgs false
theorem enc_near (T : Ty) : ∀ (o : Nat) (p : Part), p ∈ enc o T → 0 ≤ p.a ∧ p.a ≤ (o + T.size : Nat) ∧ 0 ≤ p.b ∧ p.b ≤ (o + T.size : Nat) := by
  induction T with
  | leaf k t => intro o p hp; obtain rfl := List.mem_singleton.1 hp; simp only; omega
  | var n => intro o p hp; obtain rfl := List.mem_singleton.1 hp; simp only; omega
  | one k s ih =>
    intro o p hp
    simp only [Ty.size]
    rcases List.mem_append.1 hp with hp | hp
    · have := ih o p hp; omega
    · obtain rfl := List.mem_singleton.1 hp
      have := s.size_pos
      simp only
      omega
  | two k s u ih1 ih2 =>
    intro o p hp
    simp only [Ty.size]
    rcases List.mem_append.1 hp with hp | hp
    · rcases List.mem_append.1 hp with hp | hp
      · have := ih1 o p hp; omega
      · have := ih2 _ p hp; omega
    · obtain rfl := List.mem_singleton.1 hp
      have := s.size_pos
      have := u.size_pos
      simp only
      omega
theorem near_good {l : List Part} (h : gTy l = true) : Near l := by
  obtain ⟨T, _, rfl, hz⟩ := (gTy_iff l).1 h
  intro p hp
  have := enc_near T 0 p hp
  omega
theorem two_len (k : Int) (a b : List Part) : (twoL k a b).length = a.length + b.length + 1 := by simp [twoL]; omega
theorem over_len (k : Int) (a : List Part) : (overL k a).length = a.length + 1 := by simp [overL]
theorem shift_t (d : Nat) (p : Part) : (shift d p).t = p.t := by
  unfold shift
  split
  · rfl
  · split <;> rfl
theorem two_txt (k : Int) {a b : List Part} (ha : ∀ p ∈ a, p.t.length ≤ 3000) (hb : ∀ p ∈ b, p.t.length ≤ 3000) : ∀ p ∈ twoL k a b, p.t.length ≤ 3000 := by
  intro p hp
  rcases List.mem_append.1 hp with hp | hp
  · rcases List.mem_append.1 hp with hp | hp
    · exact ha p hp
    · obtain ⟨q, hq, rfl⟩ := List.mem_map.1 hp
      rw [shift_t]
      exact hb q hq
  · obtain rfl := List.mem_singleton.1 hp
    simp
theorem over_txt (k : Int) {a : List Part} (ha : ∀ p ∈ a, p.t.length ≤ 3000) : ∀ p ∈ overL k a, p.t.length ≤ 3000 := by
  intro p hp
  rcases List.mem_append.1 hp with hp | hp
  · exact ha p hp
  · obtain rfl := List.mem_singleton.1 hp
    simp
theorem tx_of_over {k : Int} {a : List Part} (hk : k = 7 ∨ k = 9) (hc : closed a = true) {T : Ty} (hw : T.wf) (e : norm a = enc 0 T) : (Ty.one k T).wf ∧ norm (overL k a) = enc 0 (.one k T) := by
  refine ⟨⟨hk, hw⟩, ?_⟩
  rw [norm_closed hc] at e
  rw [norm_closed (closed_over hc (beq_false_of_ne (by omega))), e, overL_enc]
theorem tx_of_two {k : Int} {a b : List Part} (hk : k = 6 ∨ k = 8) (hc : closed a = true) (hc' : closed b = true) {T U : Ty} (hw : T.wf) (hw' : U.wf) (e : norm a = enc 0 T) (e' : norm b = enc 0 U) : (Ty.two k T U).wf ∧ norm (twoL k a b) = enc 0 (.two k T U) := by
  refine ⟨⟨hk, hw, hw'⟩, ?_⟩
  rw [norm_closed hc] at e
  rw [norm_closed hc'] at e'
  rw [norm_closed (closed_two hc hc' (beq_false_of_ne (by omega))), e, e', twoL_enc k hw']
theorem tx_short {l : List Part} (hg : gTy l = true) (ht : ∀ p ∈ l, p.t.length ≤ 3000) {T : Ty} (e : norm l = enc 0 T) : (tx T).length ≤ 700000 := by
  have hl : l.length ≤ 200 := by
    obtain ⟨S, _, rfl, hz⟩ := (gTy_iff l).1 hg
    rw [enc_len]; exact hz
  have h := norm_tame hl ht
  rw [e] at h
  have h2 := tx_len h T _ (at_of_enc T)
  have h3 : T.size ≤ 200 := by rw [← enc_len T 0, ← e, norm_len]; exact hl
  omega
theorem toList_bytes (s : List UInt8) : (⟨s.toArray⟩ : ByteArray).toList = s := by rw [ByteArray.toList_eq]
theorem cat3 (sl ts e : List UInt8) (h : sl = [40] ++ ts ++ e) : (sl == ((⟨#[40]⟩ : ByteArray) ++ ⟨ts.toArray⟩ ++ ⟨e.toArray⟩).toList) = true := by
  have : ((⟨#[40]⟩ : ByteArray) ++ ⟨ts.toArray⟩ ++ ⟨e.toArray⟩) = ⟨sl.toArray⟩ := by rw [h, ← cat_bytes, ← cat_bytes]
  rw [this, toList_bytes]; exact beq_self_eq_true sl
theorem cat5 (sl ts e us : List UInt8) (h : sl = [40] ++ ts ++ e ++ us ++ [41]) : (sl == ((⟨#[40]⟩ : ByteArray) ++ ⟨ts.toArray⟩ ++ ⟨e.toArray⟩ ++ ⟨us.toArray⟩ ++ ⟨#[41]⟩).toList) = true := by
  have : ((⟨#[40]⟩ : ByteArray) ++ ⟨ts.toArray⟩ ++ ⟨e.toArray⟩ ++ ⟨us.toArray⟩ ++ ⟨#[41]⟩) = ⟨sl.toArray⟩ := by rw [h, ← cat_bytes, ← cat_bytes, ← cat_bytes, ← cat_bytes]
  rw [this, toList_bytes]; exact beq_self_eq_true sl
theorem gSend_good {l : List Part} (h : gTy l = true) : gSend l = plainK l := by unfold gSend; rw [h, Bool.and_true]
theorem c13b (l : List Part) (A : Option Addr) (c : Nat) (w : World) (h : RT w A l) : Calls Tryd.prog 13 #[.slice A l.length c] w fun e w' => e = .returned (.bool (gTy l)) ∧ Below w.heap.size w w' := c13 l A c _ w h (Nat.le_refl _)
set_option maxRecDepth 100000 in
set_option maxHeartbeats 16000000 in
theorem c3 (a b : List Part) (Aa Ab : Option Addr) (ca cb : Nat) (W : World) (ha : Handed W Aa a) (hb : Handed W Ab b) (ht : WordTab W) :
    Calls Tryd.prog 3 #[.slice Aa a.length ca, .slice Ab b.length cb] W fun e W' => e = .returned (.bool true) ∧ Below W.heap.size W W' := by
  have HA := Lib.hid ha
  have HB := Lib.hid hb
  have HT := Lib.hid ht
  clear ha hb ht
  go_enter Tryd.func3, Tryd.ntmps3
  go_wp2_with fail
  refine (c8b a Aa ca _ HA.out).mono ?_
  rintro e w ⟨rfl, rfl⟩
  cases hla : large a with
  | true =>
    go_wp2_with fail
    refine (c10 _ HT.out).mono ?_
    rintro e wz ⟨rfl, hbz⟩
    go_wp2_with fail
    go_ret
    exact ⟨rfl, hbz⟩
  | false =>
  go_wp2_with fail
  refine (c8b b Ab cb _ HB.out).mono ?_
  rintro e w ⟨rfl, rfl⟩
  cases hlb : large b with
  | true =>
    go_wp2_with fail
    refine (c10 _ HT.out).mono ?_
    rintro e wz ⟨rfl, hbz⟩
    go_wp2_with fail
    go_ret
    exact ⟨rfl, hbz⟩
  | false =>
  have HLA := Lib.hid (large_len hla)
  have HLB := Lib.hid (large_len hlb)
  have HXA := Lib.hid (large_txt hla)
  have HXB := Lib.hid (large_txt hlb)
  clear hla hlb
  go_wp2_with fail
  refine (c9b a Aa ca _ HA.out.rt).mono ?_
  rintro e w1 ⟨rfl, b1⟩
  have B1 := Lib.hid b1
  clear b1
  cases hga : gTy a with
  | false =>
    go_wp2_with fail
    refine (c10 _ (HT.out.next B1.out)).mono ?_
    rintro e wz ⟨rfl, hbz⟩
    go_wp2_with fail
    go_ret
    exact ⟨rfl, next_ B1.out hbz⟩
  | true =>
  have HGA := Lib.hid hga
  clear hga
  go_wp2_with fail
  refine (c9b b Ab cb _ (HB.out.rt.next B1.out)).mono ?_
  rintro e w2 ⟨rfl, b2⟩
  have B2 := Lib.hid (next_ B1.out b2)
  clear b2 B1
  cases hgb : gTy b with
  | false =>
    go_wp2_with fail
    refine (c10 _ (HT.out.next B2.out)).mono ?_
    rintro e wz ⟨rfl, hbz⟩
    go_wp2_with fail
    go_ret
    exact ⟨rfl, next_ B2.out hbz⟩
  | true =>
  have HGB := Lib.hid hgb
  clear hgb
  have hla3 : a.length ≤ 3000 := HLA.out
  have hlb3 : b.length ≤ 3000 := HLB.out
  by_cases hsz : 200 ≤ a.length + b.length
  · have hszI : (200 : Int) ≤ (a.length : Int) + (b.length : Int) := by omega
    go_wp2_with fail
    refine (c10 _ (HT.out.next B2.out)).mono ?_
    rintro e wz ⟨rfl, hbz⟩
    go_wp2_with fail
    go_ret
    exact ⟨rfl, next_ B2.out hbz⟩
  have hszI : ¬ (200 : Int) ≤ (a.length : Int) + (b.length : Int) := by omega
  have HSZ := Lib.hid (show a.length + b.length < 200 by omega)
  have RA2 := Lib.hid (HA.out.rt.next B2.out)
  have RB2 := Lib.hid (HB.out.rt.next B2.out)
  go_wp2_with fail
  clear hsz hszI hla3 hlb3
  refine (c11 8 a b Aa Ab ca cb _ RA2.out RB2.out HLA.out HLB.out (near_good HGB.out)).mono ?_
  rintro e w3 ⟨v, rfl, hb0⟩
  obtain ⟨AF, cF, rfl, hr, hb⟩ := hb0.form
  clear hb0
  have RA3 := Lib.hid (RA2.out.next hb)
  clear RA2
  have RB3 := Lib.hid (RB2.out.next hb)
  clear RB2
  have B3 := Lib.hid (next_ B2.out hb)
  clear B2
  have RF3 := Lib.hid hr
  clear hr hb
  go_wp2_with fail
  refine (c11 6 a b Aa Ab ca cb _ RA3.out RB3.out HLA.out HLB.out (near_good HGB.out)).mono ?_
  rintro e w4 ⟨v, rfl, hb0⟩
  obtain ⟨AP, cP, rfl, hr, hb⟩ := hb0.form
  clear hb0
  have RA4 := Lib.hid (RA3.out.next hb)
  clear RA3
  have RB4 := Lib.hid (RB3.out.next hb)
  clear RB3
  have RF4 := Lib.hid (RF3.out.next hb)
  clear RF3
  have B4 := Lib.hid (next_ B3.out hb)
  clear B3
  have RP4 := Lib.hid hr
  clear hr hb
  go_wp2_with fail
  refine (c12 7 a Aa ca _ RA4.out HLA.out).mono ?_
  rintro e w5 ⟨v, rfl, hb0⟩
  obtain ⟨AL, cL, rfl, hr, hb⟩ := hb0.form
  clear hb0
  have RA5 := Lib.hid (RA4.out.next hb)
  clear RA4
  have RB5 := Lib.hid (RB4.out.next hb)
  clear RB4
  have RF5 := Lib.hid (RF4.out.next hb)
  clear RF4
  have RP5 := Lib.hid (RP4.out.next hb)
  clear RP4
  have B5 := Lib.hid (next_ B4.out hb)
  clear B4
  have RL5 := Lib.hid hr
  clear hr hb
  go_wp2_with fail
  refine (c12 9 b Ab cb _ RB5.out HLB.out).mono ?_
  rintro e w6 ⟨v, rfl, hb0⟩
  obtain ⟨AR, cR, rfl, hr, hb⟩ := hb0.form
  clear hb0
  have RA6 := Lib.hid (RA5.out.next hb)
  clear RA5
  have RB6 := Lib.hid (RB5.out.next hb)
  clear RB5
  have RF6 := Lib.hid (RF5.out.next hb)
  clear RF5
  have RP6 := Lib.hid (RP5.out.next hb)
  clear RP5
  have RL6 := Lib.hid (RL5.out.next hb)
  clear RL5
  have B6 := Lib.hid (next_ B5.out hb)
  clear B5
  have RR6 := Lib.hid hr
  clear hr hb
  have HLF := Lib.hid (show (twoL 8 a b).length ≤ 3000 by rw [two_len]; have := HSZ.out; omega)
  have HLP := Lib.hid (show (twoL 6 a b).length ≤ 3000 by rw [two_len]; have := HSZ.out; omega)
  have HLL := Lib.hid (show (overL 7 a).length ≤ 3000 by rw [over_len]; have := HSZ.out; omega)
  have HLR := Lib.hid (show (overL 9 b).length ≤ 3000 by rw [over_len]; have := HSZ.out; omega)
  have HGF := Lib.hid (two_good HGA.out HGB.out HSZ.out (k := 8) (.inr rfl))
  have HGP := Lib.hid (two_good HGA.out HGB.out HSZ.out (k := 6) (.inl rfl))
  have HGL := Lib.hid (over_good HGA.out (by have := HSZ.out; omega) (k := 7) (.inl rfl))
  have HGR := Lib.hid (over_good HGB.out (by have := HSZ.out; omega) (k := 9) (.inr rfl))
  have HXF := Lib.hid (two_txt 8 HXA.out HXB.out)
  have HXP := Lib.hid (two_txt 6 HXA.out HXB.out)
  have HXL := Lib.hid (over_txt 7 HXA.out)
  have HXR := Lib.hid (over_txt 9 HXB.out)
  have HSF := Lib.hid (show gSend (twoL 8 a b) = false by rw [gSend_good HGF.out, plainK_two]; simp [stays])
  have HSR := Lib.hid (show gSend (overL 9 b) = false by rw [gSend_good HGR.out, plainK_over]; simp [stays])
  have HSP := Lib.hid (show gSend (twoL 6 a b) = (plainK a && plainK b) by rw [gSend_good HGP.out, plainK_two]; simp [stays])
  have HSL := Lib.hid (show gSend (overL 7 a) = plainK a by rw [gSend_good HGL.out, plainK_over]; simp [stays])
  have HSA := Lib.hid (gSend_good HGA.out)
  have HSB := Lib.hid (gSend_good HGB.out)
  have HCF := Lib.hid (show closed a = true → closed b = true → closed (twoL 8 a b) = true from fun h h' => closed_two h h' rfl)
  have HTF := Lib.hid (fun (hc : closed a = true) (hc' : closed b = true) (T U : Ty) (hw : T.wf) (hw' : U.wf) (e : norm a = enc 0 T) (e' : norm b = enc 0 U) => tx_of_two (k := 8) (.inr rfl) hc hc' hw hw' e e')
  have HTP := Lib.hid (fun (hc : closed a = true) (hc' : closed b = true) (T U : Ty) (hw : T.wf) (hw' : U.wf) (e : norm a = enc 0 T) (e' : norm b = enc 0 U) => tx_of_two (k := 6) (.inl rfl) hc hc' hw hw' e e')
  have HTL := Lib.hid (fun (hc : closed a = true) (T : Ty) (hw : T.wf) (e : norm a = enc 0 T) => tx_of_over (k := 7) (.inl rfl) hc hw e)
  have HTR := Lib.hid (fun (hc : closed b = true) (T : Ty) (hw : T.wf) (e : norm b = enc 0 T) => tx_of_over (k := 9) (.inr rfl) hc hw e)
  clear HCF
  generalize twoL 8 a b = lf at *
  generalize twoL 6 a b = lp at *
  generalize overL 7 a = ll at *
  generalize overL 9 b = lr at *
  go_wp2_with fail
  refine (c13b lf AF cF _ RF6.out).mono ?_
  rintro e w7 ⟨rfl, hb⟩
  rw [HGF.out]
  have RA7 := Lib.hid (RA6.out.next hb)
  clear RA6
  have RB7 := Lib.hid (RB6.out.next hb)
  clear RB6
  have RF7 := Lib.hid (RF6.out.next hb)
  clear RF6
  have RP7 := Lib.hid (RP6.out.next hb)
  clear RP6
  have RL7 := Lib.hid (RL6.out.next hb)
  clear RL6
  have RR7 := Lib.hid (RR6.out.next hb)
  clear RR6
  have B7 := Lib.hid (next_ B6.out hb)
  clear B6
  clear hb
  go_wp2_with fail
  refine (c13b lp AP cP _ RP7.out).mono ?_
  rintro e w8 ⟨rfl, hb⟩
  rw [HGP.out]
  have RA8 := Lib.hid (RA7.out.next hb)
  clear RA7
  have RB8 := Lib.hid (RB7.out.next hb)
  clear RB7
  have RF8 := Lib.hid (RF7.out.next hb)
  clear RF7
  have RP8 := Lib.hid (RP7.out.next hb)
  clear RP7
  have RL8 := Lib.hid (RL7.out.next hb)
  clear RL7
  have RR8 := Lib.hid (RR7.out.next hb)
  clear RR7
  have B8 := Lib.hid (next_ B7.out hb)
  clear B7
  clear hb
  go_wp2_with fail
  refine (c13b ll AL cL _ RL8.out).mono ?_
  rintro e w9 ⟨rfl, hb⟩
  rw [HGL.out]
  have RA9 := Lib.hid (RA8.out.next hb)
  clear RA8
  have RB9 := Lib.hid (RB8.out.next hb)
  clear RB8
  have RF9 := Lib.hid (RF8.out.next hb)
  clear RF8
  have RP9 := Lib.hid (RP8.out.next hb)
  clear RP8
  have RL9 := Lib.hid (RL8.out.next hb)
  clear RL8
  have RR9 := Lib.hid (RR8.out.next hb)
  clear RR8
  have B9 := Lib.hid (next_ B8.out hb)
  clear B8
  clear hb
  go_wp2_with fail
  refine (c13b lr AR cR _ RR9.out).mono ?_
  rintro e w10 ⟨rfl, hb⟩
  rw [HGR.out]
  have RA10 := Lib.hid (RA9.out.next hb)
  clear RA9
  have RB10 := Lib.hid (RB9.out.next hb)
  clear RB9
  have RF10 := Lib.hid (RF9.out.next hb)
  clear RF9
  have RP10 := Lib.hid (RP9.out.next hb)
  clear RP9
  have RL10 := Lib.hid (RL9.out.next hb)
  clear RL9
  have RR10 := Lib.hid (RR9.out.next hb)
  clear RR9
  have B10 := Lib.hid (next_ B9.out hb)
  clear B9
  clear hb
  go_upto_region 6 with fail
  go_cut [87] (fun v wx => v = .bool false ∧ Below w10.heap.size w10 wx)
  case first =>
    have D0 := Lib.hid (Below.refl w10.heap.size w10)
    go_wp2_with fail
    refine (c14 lf AF cF _ (RF10.out.next D0.out) HLF.out).mono ?_
    rintro e x1 ⟨rfl, hb⟩
    rw [HSF.out]
    have D1 := Lib.hid (next_ D0.out hb)
    clear hb D0
    go_wp2_with fail
    refine (c14 lr AR cR _ (RR10.out.next D1.out) HLR.out).mono ?_
    rintro e x2 ⟨rfl, hb⟩
    rw [HSR.out]
    have D2 := Lib.hid (next_ D1.out hb)
    clear hb D1
    go_wp2_with fail
    refine (c14 lp AP cP _ (RP10.out.next D2.out) HLP.out).mono ?_
    rintro e x3 ⟨rfl, hb⟩
    rw [HSP.out]
    have D3 := Lib.hid (next_ D2.out hb)
    clear hb D2
    go_wp2_with fail
    refine (c14 a Aa ca _ (RA10.out.next D3.out) HLA.out).mono ?_
    rintro e x4 ⟨rfl, hb⟩
    rw [HSA.out]
    have D4 := Lib.hid (next_ D3.out hb)
    clear hb D3
    have fff : (false != false) = false := rfl
    have ftt : (true != true) = false := rfl
    cases hpa : plainK a with
    | false =>
      rw [Bool.false_and]
      go_wp2_with fail
      refine (c14 ll AL cL _ (RL10.out.next D4.out) HLL.out).mono ?_
      rintro e x5 ⟨rfl, hb⟩
      rw [HSL.out]
      have D5 := Lib.hid (next_ D4.out hb)
      clear hb D4
      rw [hpa]
      go_wp2_with fail
      refine (c14 a Aa ca _ (RA10.out.next D5.out) HLA.out).mono ?_
      rintro e x6 ⟨rfl, hb⟩
      rw [HSA.out]
      have D6 := Lib.hid (next_ D5.out hb)
      clear hb D5
      rw [hpa]
      go_wp2_with fail
      go_meet
      exact ⟨rfl, D6.out⟩
    | true =>
      rw [Bool.true_and]
      go_wp2_with fail
      refine (c14 b Ab cb _ (RB10.out.next D4.out) HLB.out).mono ?_
      rintro e x5 ⟨rfl, hb⟩
      rw [HSB.out]
      have D5 := Lib.hid (next_ D4.out hb)
      clear hb D4
      cases hpb : plainK b
      · go_wp2_with fail
        refine (c14 ll AL cL _ (RL10.out.next D5.out) HLL.out).mono ?_
        rintro e x6 ⟨rfl, hb⟩
        rw [HSL.out]
        have D6 := Lib.hid (next_ D5.out hb)
        clear hb D5
        rw [hpa]
        go_wp2_with fail
        refine (c14 a Aa ca _ (RA10.out.next D6.out) HLA.out).mono ?_
        rintro e x7 ⟨rfl, hb⟩
        rw [HSA.out]
        have D7 := Lib.hid (next_ D6.out hb)
        clear hb D6
        rw [hpa]
        go_wp2_with fail
        go_meet
        exact ⟨rfl, D7.out⟩
      · go_wp2_with fail
        refine (c14 ll AL cL _ (RL10.out.next D5.out) HLL.out).mono ?_
        rintro e x6 ⟨rfl, hb⟩
        rw [HSL.out]
        have D6 := Lib.hid (next_ D5.out hb)
        clear hb D5
        rw [hpa]
        go_wp2_with fail
        refine (c14 a Aa ca _ (RA10.out.next D6.out) HLA.out).mono ?_
        rintro e x7 ⟨rfl, hb⟩
        rw [HSA.out]
        have D7 := Lib.hid (next_ D6.out hb)
        clear hb D6
        rw [hpa]
        go_wp2_with fail
        go_meet
        exact ⟨rfl, D7.out⟩
  case rest =>
    obtain ⟨rfl, hb⟩ := hcut
    obtain ⟨w11, rfl⟩ : ∃ w : World, w = wc := ⟨_, rfl⟩
    have RA11 := Lib.hid (RA10.out.next hb)
    clear RA10
    have RB11 := Lib.hid (RB10.out.next hb)
    clear RB10
    have RF11 := Lib.hid (RF10.out.next hb)
    clear RF10
    have RP11 := Lib.hid (RP10.out.next hb)
    clear RP10
    have RL11 := Lib.hid (RL10.out.next hb)
    clear RL10
    have RR11 := Lib.hid (RR10.out.next hb)
    clear RR10
    have B11 := Lib.hid (next_ B10.out hb)
    clear B10
    clear hb HSF HSR HSP HSL HSA HSB
    go_wp2_with fail
    go_loopw [9] (fun i wr => ∃ k : Nat, k ≤ a.length ∧ i = .int .i64 k ∧ wr = w11 ∧ closed (a.take k) = true) (fun i _ => a.length - (intOf i).toNat)
    case atStart => exact ⟨0, by omega, rfl, by trivial, rfl⟩
    case round =>
      obtain ⟨k, hk, rfl, rfl, hcl⟩ := hrel
      have HCL := Lib.hid hcl
      clear hcl
      have hlen3 : a.length ≤ 3000 := HLA.out
      by_cases hlt : k < a.length
      · have hlk : (k : Int) < (a.length : Int) := by omega
        have hk0 : (0 : Int) ≤ (k : Int) := by omega
        have hpk : a[k]? = some a[k] := List.getElem?_eq_getElem hlt
        obtain ⟨ad, rfl, _, a0, a1, a2, a3, a4⟩ := Reads.partN RA11.out hpk
        clear a1 a2 a3 a4
        generalize a[k] = p at a0 hpk
        have HC := Lib.hid (closed_all hpk)
        clear hpk
        by_cases hv : p.k = 11
        · have f11 : (p.k == 11) = true := beq_iff_eq.2 hv
          clear hv
          go_wp2_with fail
          refine (c10 _ (HT.out.next B11.out)).mono ?_
          rintro e wz ⟨rfl, hbz⟩
          go_wp2_with fail
          go_ret
          exact ⟨rfl, next_ B11.out hbz⟩
        · have f11 : (p.k == 11) = false := beq_false_of_ne hv
          have HC2 := Lib.hid (show closed (a.take (k + 1)) = true by rw [HC.out, HCL.out, f11]; rfl)
          clear hv
          go_wp2_with fail
          go_roundw
          case rel => exact ⟨k + 1, by omega, by go_num, by trivial, HC2.out⟩
          case measure => simp [intOf]; omega
      · obtain rfl : k = a.length := by omega
        have hlk : ¬ ((a.length : Int) < (a.length : Int)) := by omega
        rw [List.take_length] at HCL
        have HCA := HCL
        clear hk hlt HCL
        obtain ⟨T, hwT, eT⟩ := tree_of HGA.out
        have HTW := Lib.hid hwT
        have HTE := Lib.hid eT
        have HTLen := Lib.hid (tx_short HGA.out HXA.out eT)
        clear hwT eT
        go_wp2_with fail
        refine (c15 ll AL cL _ RL11.out HXL.out (HT.out.next B11.out)).mono ?_
        rintro e w12 ⟨sl, rfl, hb, _, hs⟩
        have RA12 := Lib.hid (RA11.out.next hb)
        clear RA11
        have RB12 := Lib.hid (RB11.out.next hb)
        clear RB11
        have RF12 := Lib.hid (RF11.out.next hb)
        clear RF11
        have RP12 := Lib.hid (RP11.out.next hb)
        clear RP11
        have RL12 := Lib.hid (RL11.out.next hb)
        clear RL11
        have RR12 := Lib.hid (RR11.out.next hb)
        clear RR11
        have B12 := Lib.hid (next_ B11.out hb)
        clear B11
        clear hb
        have HSL := Lib.hid (show sl = [40] ++ tx T ++ [32, 108, 105, 115, 116, 41] from hs _ (HTL.out HCA.out T HTW.out HTE.out).1 HGL.out (HTL.out HCA.out T HTW.out HTE.out).2)
        clear hs
        go_wp2_with fail
        refine (c15 a Aa ca _ RA12.out HXA.out (HT.out.next B12.out)).mono ?_
        rintro e w13 ⟨sa, rfl, hb, _, hs⟩
        have RA13 := Lib.hid (RA12.out.next hb)
        clear RA12
        have RB13 := Lib.hid (RB12.out.next hb)
        clear RB12
        have RF13 := Lib.hid (RF12.out.next hb)
        clear RF12
        have RP13 := Lib.hid (RP12.out.next hb)
        clear RP12
        have RL13 := Lib.hid (RL12.out.next hb)
        clear RL12
        have RR13 := Lib.hid (RR12.out.next hb)
        clear RR12
        have B13 := Lib.hid (next_ B12.out hb)
        clear B12
        clear hb
        obtain rfl : sa = tx T := hs T HTW.out HGA.out HTE.out
        clear hs
        generalize hts : tx T = ts at *
        have htl : ts.length ≤ 700000 := HTLen.out
        have HTS := Lib.hid hts
        clear hts
        have fcat : (sl == ((⟨#[40]⟩ : ByteArray) ++ ⟨ts.toArray⟩ ++ ⟨#[32, 108, 105, 115, 116, 41]⟩).toList) = true := cat3 sl ts [32, 108, 105, 115, 116, 41] HSL.out
        have hss := strV_size ts
        go_wp2_with fail
        go_loopw [10] (fun i wr => ∃ k : Nat, k ≤ b.length ∧ i = .int .i64 k ∧ wr = w13 ∧ closed (b.take k) = true) (fun i _ => b.length - (intOf i).toNat)
        case atStart => exact ⟨0, by omega, rfl, by trivial, rfl⟩
        case round =>
          obtain ⟨k, hk, rfl, rfl, hcl⟩ := hrel
          have HCL := Lib.hid hcl
          clear hcl
          have hlen3 : b.length ≤ 3000 := HLB.out
          by_cases hlt : k < b.length
          · have hlk : (k : Int) < (b.length : Int) := by omega
            have hk0 : (0 : Int) ≤ (k : Int) := by omega
            have hpk : b[k]? = some b[k] := List.getElem?_eq_getElem hlt
            obtain ⟨ad, rfl, _, a0, a1, a2, a3, a4⟩ := Reads.partN RB13.out hpk
            clear a1 a2 a3 a4
            generalize b[k] = p at a0 hpk
            have HC := Lib.hid (closed_all hpk)
            clear hpk
            by_cases hv : p.k = 11
            · have f11 : (p.k == 11) = true := beq_iff_eq.2 hv
              clear hv
              go_wp2_with fail
              refine (c10 _ (HT.out.next B13.out)).mono ?_
              rintro e wz ⟨rfl, hbz⟩
              go_wp2_with fail
              go_ret
              exact ⟨rfl, next_ B13.out hbz⟩
            · have f11 : (p.k == 11) = false := beq_false_of_ne hv
              have HC2 := Lib.hid (show closed (b.take (k + 1)) = true by rw [HC.out, HCL.out, f11]; rfl)
              clear hv
              go_wp2_with fail
              go_roundw
              case rel => exact ⟨k + 1, by omega, by go_num, by trivial, HC2.out⟩
              case measure => simp [intOf]; omega
          · obtain rfl : k = b.length := by omega
            have hlk : ¬ ((b.length : Int) < (b.length : Int)) := by omega
            rw [List.take_length] at HCL
            have HCB := HCL
            clear hk hlt HCL
            obtain ⟨U, hwU, eU⟩ := tree_of HGB.out
            have HUW := Lib.hid hwU
            have HUE := Lib.hid eU
            have HULen := Lib.hid (tx_short HGB.out HXB.out eU)
            clear hwU eU
            generalize hus : tx U = us at *
            have hul : us.length ≤ 700000 := HULen.out
            have HUS := Lib.hid hus
            clear hus
            have hsu := strV_size us
            go_wp2_with fail
            refine (c15 lf AF cF _ RF13.out HXF.out (HT.out.next B13.out)).mono ?_
            rintro e w14 ⟨sf, rfl, hb, _, hs⟩
            have RA14 := Lib.hid (RA13.out.next hb)
            clear RA13
            have RB14 := Lib.hid (RB13.out.next hb)
            clear RB13
            have RF14 := Lib.hid (RF13.out.next hb)
            clear RF13
            have RP14 := Lib.hid (RP13.out.next hb)
            clear RP13
            have RL14 := Lib.hid (RL13.out.next hb)
            clear RL13
            have RR14 := Lib.hid (RR13.out.next hb)
            clear RR13
            have B14 := Lib.hid (next_ B13.out hb)
            clear B13
            clear hb
            have HSF := Lib.hid (show sf = [40] ++ ts ++ [32, 45, 62, 32] ++ us ++ [41] by
              have h := hs _ (HTF.out HCA.out HCB.out T U HTW.out HUW.out HTE.out HUE.out).1 HGF.out (HTF.out HCA.out HCB.out T U HTW.out HUW.out HTE.out HUE.out).2
              rw [h, ← HTS.out, ← HUS.out]; rfl)
            clear hs
            go_wp2_with fail
            refine (c15 a Aa ca _ RA14.out HXA.out (HT.out.next B14.out)).mono ?_
            rintro e w15 ⟨sa, rfl, hb, _, hs⟩
            have RA15 := Lib.hid (RA14.out.next hb)
            clear RA14
            have RB15 := Lib.hid (RB14.out.next hb)
            clear RB14
            have RF15 := Lib.hid (RF14.out.next hb)
            clear RF14
            have RP15 := Lib.hid (RP14.out.next hb)
            clear RP14
            have RL15 := Lib.hid (RL14.out.next hb)
            clear RL14
            have RR15 := Lib.hid (RR14.out.next hb)
            clear RR14
            have B15 := Lib.hid (next_ B14.out hb)
            clear B14
            clear hb
            obtain rfl : ts = sa := ((hs T HTW.out HGA.out HTE.out).trans HTS.out).symm
            clear hs
            go_wp2_with fail
            refine (c15 b Ab cb _ RB15.out HXB.out (HT.out.next B15.out)).mono ?_
            rintro e w16 ⟨sb, rfl, hb, _, hs⟩
            have RA16 := Lib.hid (RA15.out.next hb)
            clear RA15
            have RB16 := Lib.hid (RB15.out.next hb)
            clear RB15
            have RF16 := Lib.hid (RF15.out.next hb)
            clear RF15
            have RP16 := Lib.hid (RP15.out.next hb)
            clear RP15
            have RL16 := Lib.hid (RL15.out.next hb)
            clear RL15
            have RR16 := Lib.hid (RR15.out.next hb)
            clear RR15
            have B16 := Lib.hid (next_ B15.out hb)
            clear B15
            clear hb
            obtain rfl : us = sb := ((hs U HUW.out HGB.out HUE.out).trans HUS.out).symm
            clear hs
            have fcatF : (sf == ((⟨#[40]⟩ : ByteArray) ++ ⟨ts.toArray⟩ ++ ⟨#[32, 45, 62, 32]⟩ ++ ⟨us.toArray⟩ ++ ⟨#[41]⟩).toList) = true := cat5 sf ts [32, 45, 62, 32] us HSF.out
            go_wp2_with fail
            clear fcatF
            refine (c15 lp AP cP _ RP16.out HXP.out (HT.out.next B16.out)).mono ?_
            rintro e w17 ⟨sp, rfl, hb, _, hs⟩
            have RA17 := Lib.hid (RA16.out.next hb)
            clear RA16
            have RB17 := Lib.hid (RB16.out.next hb)
            clear RB16
            have RF17 := Lib.hid (RF16.out.next hb)
            clear RF16
            have RP17 := Lib.hid (RP16.out.next hb)
            clear RP16
            have RL17 := Lib.hid (RL16.out.next hb)
            clear RL16
            have RR17 := Lib.hid (RR16.out.next hb)
            clear RR16
            have B17 := Lib.hid (next_ B16.out hb)
            clear B16
            clear hb
            have HSP := Lib.hid (show sp = [40] ++ ts ++ [32, 42, 32] ++ us ++ [41] by
              have h := hs _ (HTP.out HCA.out HCB.out T U HTW.out HUW.out HTE.out HUE.out).1 HGP.out (HTP.out HCA.out HCB.out T U HTW.out HUW.out HTE.out HUE.out).2
              rw [h, ← HTS.out, ← HUS.out]; rfl)
            clear hs
            go_wp2_with fail
            refine (c15 a Aa ca _ RA17.out HXA.out (HT.out.next B17.out)).mono ?_
            rintro e w18 ⟨sa, rfl, hb, _, hs⟩
            have RA18 := Lib.hid (RA17.out.next hb)
            clear RA17
            have RB18 := Lib.hid (RB17.out.next hb)
            clear RB17
            have RF18 := Lib.hid (RF17.out.next hb)
            clear RF17
            have RP18 := Lib.hid (RP17.out.next hb)
            clear RP17
            have RL18 := Lib.hid (RL17.out.next hb)
            clear RL17
            have RR18 := Lib.hid (RR17.out.next hb)
            clear RR17
            have B18 := Lib.hid (next_ B17.out hb)
            clear B17
            clear hb
            obtain rfl : ts = sa := ((hs T HTW.out HGA.out HTE.out).trans HTS.out).symm
            clear hs
            go_wp2_with fail
            refine (c15 b Ab cb _ RB18.out HXB.out (HT.out.next B18.out)).mono ?_
            rintro e w19 ⟨sb, rfl, hb, _, hs⟩
            have RA19 := Lib.hid (RA18.out.next hb)
            clear RA18
            have RB19 := Lib.hid (RB18.out.next hb)
            clear RB18
            have RF19 := Lib.hid (RF18.out.next hb)
            clear RF18
            have RP19 := Lib.hid (RP18.out.next hb)
            clear RP18
            have RL19 := Lib.hid (RL18.out.next hb)
            clear RL18
            have RR19 := Lib.hid (RR18.out.next hb)
            clear RR18
            have B19 := Lib.hid (next_ B18.out hb)
            clear B18
            clear hb
            obtain rfl : us = sb := ((hs U HUW.out HGB.out HUE.out).trans HUS.out).symm
            clear hs
            have fcatP : (sp == ((⟨#[40]⟩ : ByteArray) ++ ⟨ts.toArray⟩ ++ ⟨#[32, 42, 32]⟩ ++ ⟨us.toArray⟩ ++ ⟨#[41]⟩).toList) = true := cat5 sp ts [32, 42, 32] us HSP.out
            go_wp2_with fail
            clear fcatP
            refine (c15 lr AR cR _ RR19.out HXR.out (HT.out.next B19.out)).mono ?_
            rintro e w20 ⟨sr, rfl, hb, _, hs⟩
            have RA20 := Lib.hid (RA19.out.next hb)
            clear RA19
            have RB20 := Lib.hid (RB19.out.next hb)
            clear RB19
            have RF20 := Lib.hid (RF19.out.next hb)
            clear RF19
            have RP20 := Lib.hid (RP19.out.next hb)
            clear RP19
            have RL20 := Lib.hid (RL19.out.next hb)
            clear RL19
            have RR20 := Lib.hid (RR19.out.next hb)
            clear RR19
            have B20 := Lib.hid (next_ B19.out hb)
            clear B19
            clear hb
            have HSR := Lib.hid (show sr = [40] ++ us ++ [32, 114, 101, 102, 41] by
              have h := hs _ (HTR.out HCB.out U HUW.out HUE.out).1 HGR.out (HTR.out HCB.out U HUW.out HUE.out).2
              rw [h, ← HUS.out]; rfl)
            clear hs
            go_wp2_with fail
            refine (c15 b Ab cb _ RB20.out HXB.out (HT.out.next B20.out)).mono ?_
            rintro e w21 ⟨sb, rfl, hb, _, hs⟩
            have RA21 := Lib.hid (RA20.out.next hb)
            clear RA20
            have RB21 := Lib.hid (RB20.out.next hb)
            clear RB20
            have RF21 := Lib.hid (RF20.out.next hb)
            clear RF20
            have RP21 := Lib.hid (RP20.out.next hb)
            clear RP20
            have RL21 := Lib.hid (RL20.out.next hb)
            clear RL20
            have RR21 := Lib.hid (RR20.out.next hb)
            clear RR20
            have B21 := Lib.hid (next_ B20.out hb)
            clear B20
            clear hb
            obtain rfl : us = sb := ((hs U HUW.out HGB.out HUE.out).trans HUS.out).symm
            clear hs
            have fcatR : (sr == ((⟨#[40]⟩ : ByteArray) ++ ⟨us.toArray⟩ ++ ⟨#[32, 114, 101, 102, 41]⟩).toList) = true := cat3 sr us [32, 114, 101, 102, 41] HSR.out
            go_wp2_with fail
            refine (c10 _ (HT.out.next B21.out)).mono ?_
            rintro e wz ⟨rfl, hbz⟩
            go_wp2_with fail
            go_ret
            exact ⟨rfl, next_ B21.out hbz⟩
end Go.Proofs.YtcilodgpbdafeaaDoor
