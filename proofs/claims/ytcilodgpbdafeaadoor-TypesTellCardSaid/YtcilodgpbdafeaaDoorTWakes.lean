/- 'wakes' of the laws on types. -/
import Derived.Test.YtcilodgpbdafeaaDoorTTwo
import Derived.Test.YtcilodgpbdafeaaDoorTTextW
import Derived.Test.YtcilodgpbdafeaaDoorTKeep
import Derived.Test.YtcilodgpbdafeaaDoorTMatch
import Derived.Test.YtcilodgpbdafeaaDoorTMeetW
import Derived.Test.YtcilodgpbdafeaaDoorTGood
namespace Go.Proofs.YtcilodgpbdafeaaDoor
open Go.ChangeShapes Go.WideShapes Go.ChangeAt Go.RowKit
set_option linter.unusedVariables false
set_option linter.unusedSimpArgs false
def lV (n : Int) : List Part := [⟨11, 0, 0, n, []⟩]
def lI : List Part := [⟨1, 0, 0, 0, []⟩]
def lA : List Part := overL 7 (lV 7)
def lB : List Part := overL 7 lI
def lP : List Part := twoL 6 (lV 3) (lV 1)
def lF : List Part := twoL 8 (lV 3) lP
def lN : List Part := [⟨11, 0, 0, 0, []⟩, ⟨11, 0, 0, 0, []⟩, ⟨11, 0, 0, 1, []⟩, ⟨6, 1, 2, 0, []⟩, ⟨8, 0, 3, 0, []⟩]
def tF : Ty := .two 8 (.var 0) (.two 6 (.var 0) (.var 1))
theorem lA_enc : lA = enc 0 (.one 7 (.var 7)) := by kernel_rfl
theorem lB_enc : lB = enc 0 (.one 7 (.leaf 1 [])) := by kernel_rfl
theorem lA_good : gTy lA = true := by kernel_rfl
theorem lB_good : gTy lB = true := by kernel_rfl
theorem lI_good : gTy lI = true := by kernel_rfl
theorem lF_good : gTy lF = true := by kernel_rfl
theorem lF2_good : gTy (lF.take 2) = false := by kernel_rfl
theorem lF_norm : norm lF = lN := by kernel_rfl
theorem lN_enc : lN = enc 0 tF := by kernel_rfl
theorem lA_send : gSend lA = false := by kernel_rfl
theorem lB_send : gSend lB = true := by kernel_rfl
theorem inst_AB : Inst lA lB := by
  rw [lA_enc, lB_enc]
  have h1 : (Ty.one 7 (.var 7)).wf := ⟨.inl rfl, by show (0 : Int) ≤ 7; decide⟩
  have h2 : (Ty.one 7 (.leaf 1 [])).wf := ⟨.inl rfl, .inl ⟨by decide, by decide, rfl⟩⟩
  exact ⟨_, _, h1, h2, by decide, by decide, rfl, rfl, fun _ => .leaf 1 [], rfl⟩
theorem lB_norm : norm lB = lB := by kernel_rfl
theorem meet_AB {r : Option (List Part)} (h : MeetR lA lB r) : r = some lB := by
  have := h.one (MeetR.inst inst_AB)
  rw [lB_norm] at this
  exact this
theorem inst_closed {a c : List Part} (hg : gTy a = true) (hc : closed a = true) (h : Inst a c) : a = c := (Inst.closed_iff hg hc c).1 h
theorem not_BA : ¬ Inst lB lA := fun h => by
  have := inst_closed lB_good (by kernel_rfl) h
  exact absurd this (by decide)
theorem meet_IB {r : Option (List Part)} (h : MeetR lI lB r) : r = none := h.one (r' := none) fun c h1 h2 => by
  have e1 := inst_closed lI_good (by kernel_rfl) h1
  have e2 := inst_closed lB_good (by kernel_rfl) h2
  exact absurd (e1.trans e2.symm) (by decide)
theorem lP_near : Near lP := by
  intro p hp
  have : lP = [⟨11, 0, 0, 3, []⟩, ⟨11, 0, 0, 1, []⟩, ⟨6, 0, 1, 0, []⟩] := by kernel_rfl
  rw [this] at hp
  simp only [List.mem_cons, List.not_mem_nil, or_false] at hp
  rcases hp with rfl | rfl | rfl <;> decide
theorem take_flat (l : List Part) : ∀ k, (l.take k).flatMap partC = (l.flatMap partC).take (k * 5) := by
  induction l with
  | nil => intro k; simp
  | cons p l ih =>
    intro k
    cases k with
    | zero => simp
    | succ k =>
      rw [List.take_succ_cons, List.flatMap_cons, List.flatMap_cons, ih, List.take_append]
      have e : (partC p).length = 5 := rfl
      have e' : (k + 1) * 5 - 5 = k * 5 := by omega
      rw [List.take_of_length_le (l := partC p) (by rw [e]; omega), e, e']
theorem reads_pre {w : World} {B : Nat} {A : Option Addr} {l : List Part} (h : Reads w B 5 A l.length (l.flatMap partC)) {k : Nat} (hk : k ≤ l.length) : Reads w B 5 A (l.take k).length ((l.take k).flatMap partC) := by
  refine ⟨by rw [take_flat, List.length_take, h.1, List.length_take]; omega, fun hn => ?_⟩
  have : 0 < l.length := by rw [List.length_take] at hn; omega
  obtain ⟨ad, e, hb, hc⟩ := h.2 this
  refine ⟨ad, e, hb, fun j u hj => hc j u ?_⟩
  rw [take_flat, List.getElem?_take] at hj
  split at hj
  · exact hj
  · cases hj
theorem lF_tame : ∀ p ∈ lF, p.t.length ≤ 3000 := by decide
theorem tF_str : strV (tx tF) = .string ⟨#[40, 39, 97, 32, 45, 62, 32, 40, 39, 97, 32, 42, 32, 39, 98, 41, 41]⟩ := by kernel_rfl
theorem tF_wf : tF.wf := ⟨.inr rfl, by show (0 : Int) ≤ 0; decide, .inl rfl, by show (0 : Int) ≤ 0; decide, by show (0 : Int) ≤ 1; decide⟩
theorem tF_tx : tx tF = [40, 39, 97, 32, 45, 62, 32, 40, 39, 97, 32, 42, 32, 39, 98, 41, 41] := by kernel_rfl
theorem TypeBack.form {W W' : World} {v : Value} {l : List Part} (h : TypeBack W W' v l) : ∃ A c, v = .slice A l.length c ∧ RT W' A l ∧ Below W.heap.size W W' := by
  obtain ⟨A, c, rfl⟩ := own_form h.1
  exact ⟨A, c, rfl, Reads.of_own h.1, h.2⟩
set_option maxRecDepth 100000 in
set_option maxHeartbeats 8000000 in
theorem c10 (W : World) (ht : WordTab W) : Calls Tryd.prog 10 #[] W fun e W' => e = .returned (.bool true) ∧ Below W.heap.size W W' := by
  have HT := Lib.hid ht
  clear ht
  go_enter Tryd.func10, Tryd.ntmps10
  go_wp2_with fail
  refine (c17 11 7 _).mono ?_
  rintro e w1 ⟨v, rfl, hb0⟩
  obtain ⟨A1, c1, rfl, hr, hb⟩ := hb0.form
  clear hb0
  have B1 := Lib.hid hb
  have RA11 := Lib.hid (show RT w1 A1 (lV 7) from hr)
  clear hr hb
  go_wp2_with fail
  refine (c12 7 (lV 7) A1 c1 _ RA11.out (by decide)).mono ?_
  rintro e w2 ⟨v, rfl, hb0⟩
  obtain ⟨AA, cA, rfl, hr, hb⟩ := hb0.form
  clear hb0
  have RA12 := Lib.hid (RA11.out.next hb)
  clear RA11
  have B2 := Lib.hid (next_ B1.out hb)
  clear B1
  have RAA2 := Lib.hid (show RT w2 AA lA from hr)
  clear hr hb
  go_wp2_with fail
  clear RA12
  refine (c17 1 0 _).mono ?_
  rintro e w3 ⟨v, rfl, hb0⟩
  obtain ⟨A2, c2, rfl, hr, hb⟩ := hb0.form
  clear hb0
  have RAA3 := Lib.hid (RAA2.out.next hb)
  clear RAA2
  have B3 := Lib.hid (next_ B2.out hb)
  clear B2
  have RA23 := Lib.hid (show RT w3 A2 lI from hr)
  clear hr hb
  go_wp2_with fail
  refine (c12 7 lI A2 c2 _ RA23.out (by decide)).mono ?_
  rintro e w4 ⟨v, rfl, hb0⟩
  obtain ⟨AB, cB, rfl, hr, hb⟩ := hb0.form
  clear hb0
  have RAA4 := Lib.hid (RAA3.out.next hb)
  clear RAA3
  have RA24 := Lib.hid (RA23.out.next hb)
  clear RA23
  have B4 := Lib.hid (next_ B3.out hb)
  clear B3
  have RAB4 := Lib.hid (show RT w4 AB lB from hr)
  clear hr hb
  go_wp2_with fail
  clear RA24
  refine (c21 lA lB AA AB cA cB _ RAA4.out RAB4.out).mono ?_
  rintro e w5 ⟨r, v, rfl, hm, hb, h1, h2⟩
  obtain rfl := meet_AB hm
  obtain ⟨AM, cM, rfl⟩ := own_form (h1 _ rfl)
  have hr := Reads.of_own (h1 _ rfl)
  have RAA5 := Lib.hid (RAA4.out.next hb)
  clear RAA4
  have RAB5 := Lib.hid (RAB4.out.next hb)
  clear RAB4
  have B5 := Lib.hid (next_ B4.out hb)
  clear B4
  have RAM5 := Lib.hid (show RT w5 AM lB from hr)
  clear hr
  clear hm hb h1 h2
  simp only [Option.isSome_some, Option.isSome_none]
  go_wp2_with fail
  refine (c17 1 0 _).mono ?_
  rintro e w6 ⟨v, rfl, hb0⟩
  obtain ⟨A2, c2, rfl, hr, hb⟩ := hb0.form
  clear hb0
  have RAA6 := Lib.hid (RAA5.out.next hb)
  clear RAA5
  have RAB6 := Lib.hid (RAB5.out.next hb)
  clear RAB5
  have RAM6 := Lib.hid (RAM5.out.next hb)
  clear RAM5
  have B6 := Lib.hid (next_ B5.out hb)
  clear B5
  have RA26 := Lib.hid (show RT w6 A2 lI from hr)
  clear hr hb
  go_wp2_with fail
  refine (c21 lI lB A2 AB c2 cB _ RA26.out RAB6.out).mono ?_
  rintro e w7 ⟨r, v, rfl, hm, hb, h1, h2⟩
  obtain rfl := meet_IB hm
  obtain rfl := h2 rfl
  have RAA7 := Lib.hid (RAA6.out.next hb)
  clear RAA6
  have RAB7 := Lib.hid (RAB6.out.next hb)
  clear RAB6
  have RAM7 := Lib.hid (RAM6.out.next hb)
  clear RAM6
  have RA27 := Lib.hid (RA26.out.next hb)
  clear RA26
  have B7 := Lib.hid (next_ B6.out hb)
  clear B6
  clear hm hb h1 h2
  simp only [Option.isSome_some, Option.isSome_none]
  go_wp2_with fail
  clear RA27
  refine (c17 11 3 _).mono ?_
  rintro e w8 ⟨v, rfl, hb0⟩
  obtain ⟨A3, c3, rfl, hr, hb⟩ := hb0.form
  clear hb0
  have RAA8 := Lib.hid (RAA7.out.next hb)
  clear RAA7
  have RAB8 := Lib.hid (RAB7.out.next hb)
  clear RAB7
  have RAM8 := Lib.hid (RAM7.out.next hb)
  clear RAM7
  have B8 := Lib.hid (next_ B7.out hb)
  clear B7
  have RA38 := Lib.hid (show RT w8 A3 (lV 3) from hr)
  clear hr hb
  go_wp2_with fail
  refine (c17 11 3 _).mono ?_
  rintro e w9 ⟨v, rfl, hb0⟩
  obtain ⟨A4, c4, rfl, hr, hb⟩ := hb0.form
  clear hb0
  have RAA9 := Lib.hid (RAA8.out.next hb)
  clear RAA8
  have RAB9 := Lib.hid (RAB8.out.next hb)
  clear RAB8
  have RAM9 := Lib.hid (RAM8.out.next hb)
  clear RAM8
  have RA39 := Lib.hid (RA38.out.next hb)
  clear RA38
  have B9 := Lib.hid (next_ B8.out hb)
  clear B8
  have RA49 := Lib.hid (show RT w9 A4 (lV 3) from hr)
  clear hr hb
  go_wp2_with fail
  refine (c17 11 1 _).mono ?_
  rintro e w10 ⟨v, rfl, hb0⟩
  obtain ⟨A5, c5, rfl, hr, hb⟩ := hb0.form
  clear hb0
  have RAA10 := Lib.hid (RAA9.out.next hb)
  clear RAA9
  have RAB10 := Lib.hid (RAB9.out.next hb)
  clear RAB9
  have RAM10 := Lib.hid (RAM9.out.next hb)
  clear RAM9
  have RA310 := Lib.hid (RA39.out.next hb)
  clear RA39
  have RA410 := Lib.hid (RA49.out.next hb)
  clear RA49
  have B10 := Lib.hid (next_ B9.out hb)
  clear B9
  have RA510 := Lib.hid (show RT w10 A5 (lV 1) from hr)
  clear hr hb
  go_wp2_with fail
  refine (c11 6 (lV 3) (lV 1) A4 A5 c4 c5 _ RA410.out RA510.out (by decide) (by decide) (fun p hp => by obtain rfl := List.mem_singleton.1 hp; decide)).mono ?_
  rintro e w11 ⟨v, rfl, hb0⟩
  obtain ⟨A6, c6, rfl, hr, hb⟩ := hb0.form
  clear hb0
  have RAA11 := Lib.hid (RAA10.out.next hb)
  clear RAA10
  have RAB11 := Lib.hid (RAB10.out.next hb)
  clear RAB10
  have RAM11 := Lib.hid (RAM10.out.next hb)
  clear RAM10
  have RA311 := Lib.hid (RA310.out.next hb)
  clear RA310
  have RA411 := Lib.hid (RA410.out.next hb)
  clear RA410
  have RA511 := Lib.hid (RA510.out.next hb)
  clear RA510
  have B11 := Lib.hid (next_ B10.out hb)
  clear B10
  have RA611 := Lib.hid (show RT w11 A6 lP from hr)
  clear hr hb
  go_wp2_with fail
  refine (c11 8 (lV 3) lP A3 A6 c3 c6 _ RA311.out RA611.out (by decide) (by decide) lP_near).mono ?_
  rintro e w12 ⟨v, rfl, hb0⟩
  obtain ⟨AF, cF, rfl, hr, hb⟩ := hb0.form
  have hcap : (2 : Int) ≤ (cF : Int) := by have : 5 ≤ cF := (own_cap hb0.1).1; omega
  clear hb0
  have RAA12 := Lib.hid (RAA11.out.next hb)
  clear RAA11
  have RAB12 := Lib.hid (RAB11.out.next hb)
  clear RAB11
  have RAM12 := Lib.hid (RAM11.out.next hb)
  clear RAM11
  have RA312 := Lib.hid (RA311.out.next hb)
  clear RA311
  have RA412 := Lib.hid (RA411.out.next hb)
  clear RA411
  have RA512 := Lib.hid (RA511.out.next hb)
  clear RA511
  have RA612 := Lib.hid (RA611.out.next hb)
  clear RA611
  have B12 := Lib.hid (next_ B11.out hb)
  clear B11
  have RAF12 := Lib.hid (show RT w12 AF lF from hr)
  clear hr hb
  go_wp2_with fail
  clear RA312
  clear RA412
  clear RA512
  clear RA612
  refine (c20 lF AF cF _ RAF12.out).mono ?_
  rintro e w13 ⟨v, rfl, hb, h1, h2⟩
  have h1 := h1 lF_good
  rw [lF_norm] at h1
  obtain ⟨AN, cN, rfl⟩ := own_form h1
  obtain ⟨g, cap, hv, _, _⟩ := h1.form (by decide)
  obtain rfl : AN = some ⟨g, 0, none⟩ := by injection hv
  clear hv
  have hr := Reads.of_own h1
  have RAA13 := Lib.hid (RAA12.out.next hb)
  clear RAA12
  have RAB13 := Lib.hid (RAB12.out.next hb)
  clear RAB12
  have RAM13 := Lib.hid (RAM12.out.next hb)
  clear RAM12
  have RAF13 := Lib.hid (RAF12.out.next hb)
  clear RAF12
  have B13 := Lib.hid (next_ B12.out hb)
  clear B12
  have RAN13 := Lib.hid (show RT w13 (some ⟨g, 0, none⟩) lN from hr)
  clear hr h1 h2 hb
  rw [lF_good]
  go_wp2_with fail
  refine (c18 lB lB AM AB cM cB _ RAM13.out RAB13.out (by decide)).mono ?_
  rintro e w14 ⟨rfl, hb⟩
  have RAA14 := Lib.hid (RAA13.out.next hb)
  clear RAA13
  have RAB14 := Lib.hid (RAB13.out.next hb)
  clear RAB13
  have RAM14 := Lib.hid (RAM13.out.next hb)
  clear RAM13
  have RAF14 := Lib.hid (RAF13.out.next hb)
  clear RAF13
  have RAN14 := Lib.hid (RAN13.out.next hb)
  clear RAN13
  have B14 := Lib.hid (next_ B13.out hb)
  clear B13
  clear hb
  rw [decide_eq_true (rfl : lB = lB)]
  clear RAM14
  have eF : lF.length = 5 := rfl
  have eF' : (twoL 8 (lV 3) lP).length = 5 := rfl
  have eN : lN.length = 5 := rfl
  simp only [eF, eF']
  obtain ⟨ad, e, _, a0, a1, a2, a3, a4⟩ := Reads.partN RAN14.out (k := 0) (p := ⟨11, 0, 0, 0, []⟩) rfl
  obtain ⟨ad', e', _, b0, b1, b2, b3, b4⟩ := Reads.partN RAN14.out (k := 2) (p := ⟨11, 0, 0, 1, []⟩) rfl
  obtain rfl : (⟨g, 0, none⟩ : Addr) = ad := by injection e
  obtain rfl : (⟨g, 0, none⟩ : Addr) = ad' := by injection e'
  replace a3 : w14.cell? ⟨g, 3, none⟩ = some (.int .i64 0) := a3
  replace b3 : w14.cell? ⟨g, 13, none⟩ = some (.int .i64 1) := b3
  clear a0 a1 a2 a4 b0 b1 b2 b4 e e'
  go_wp2_with fail
  have HTw := Lib.hid (HT.out.next B14.out)
  refine (c15 lF AF cF _ RAF14.out lF_tame HTw.out).mono ?_
  rintro e w15 ⟨s, rfl, hb, _, hs⟩
  obtain rfl := hs tF tF_wf lF_good (lF_norm.trans lN_enc)
  have RAA15 := Lib.hid (RAA14.out.next hb)
  clear RAA14
  have RAB15 := Lib.hid (RAB14.out.next hb)
  clear RAB14
  have RAF15 := Lib.hid (RAF14.out.next hb)
  clear RAF14
  have RAN15 := Lib.hid (RAN14.out.next hb)
  clear RAN14
  have B15 := Lib.hid (next_ B14.out hb)
  clear B14
  rw [tF_str]
  clear hb hs HTw a3 b3
  go_wp2_with fail
  refine (c16 lA lB AA AB cA cB _ RAA15.out RAB15.out).mono ?_
  rintro e w16 ⟨r, rfl, hm, hb⟩
  obtain rfl : r = true := hm.2 inst_AB
  have RAA16 := Lib.hid (RAA15.out.next hb)
  clear RAA15
  have RAB16 := Lib.hid (RAB15.out.next hb)
  clear RAB15
  have RAF16 := Lib.hid (RAF15.out.next hb)
  clear RAF15
  have RAN16 := Lib.hid (RAN15.out.next hb)
  clear RAN15
  have B16 := Lib.hid (next_ B15.out hb)
  clear B15
  clear hm hb
  go_wp2_with fail
  refine (c16 lB lA AB AA cB cA _ RAB16.out RAA16.out).mono ?_
  rintro e w17 ⟨r, rfl, hm, hb⟩
  obtain rfl : r = false := Bool.eq_false_iff.2 fun h => not_BA (hm.1 h)
  have RAA17 := Lib.hid (RAA16.out.next hb)
  clear RAA16
  have RAB17 := Lib.hid (RAB16.out.next hb)
  clear RAB16
  have RAF17 := Lib.hid (RAF16.out.next hb)
  clear RAF16
  have RAN17 := Lib.hid (RAN16.out.next hb)
  clear RAN16
  have B17 := Lib.hid (next_ B16.out hb)
  clear B16
  clear hm hb
  go_wp2_with fail
  refine (c14 lB AB cB _ RAB17.out (by decide)).mono ?_
  rintro e w18 ⟨rfl, hb⟩
  have RAA18 := Lib.hid (RAA17.out.next hb)
  clear RAA17
  have RAB18 := Lib.hid (RAB17.out.next hb)
  clear RAB17
  have RAF18 := Lib.hid (RAF17.out.next hb)
  clear RAF17
  have RAN18 := Lib.hid (RAN17.out.next hb)
  clear RAN17
  have B18 := Lib.hid (next_ B17.out hb)
  clear B17
  clear hb
  rw [lB_send]
  go_wp2_with fail
  refine (c14 lA AA cA _ RAA18.out (by decide)).mono ?_
  rintro e w19 ⟨rfl, hb⟩
  have RAA19 := Lib.hid (RAA18.out.next hb)
  clear RAA18
  have RAB19 := Lib.hid (RAB18.out.next hb)
  clear RAB18
  have RAF19 := Lib.hid (RAF18.out.next hb)
  clear RAF18
  have RAN19 := Lib.hid (RAN18.out.next hb)
  clear RAN18
  have B19 := Lib.hid (next_ B18.out hb)
  clear B18
  clear hb
  rw [lA_send]
  go_wp2_with fail
  refine (c13 lF AF cF _ _ RAF19.out (Nat.le_refl _)).mono ?_
  rintro e w20 ⟨rfl, hb⟩
  have RAA20 := Lib.hid (RAA19.out.next hb)
  clear RAA19
  have RAB20 := Lib.hid (RAB19.out.next hb)
  clear RAB19
  have RAF20 := Lib.hid (RAF19.out.next hb)
  clear RAF19
  have RAN20 := Lib.hid (RAN19.out.next hb)
  clear RAN19
  have B20 := Lib.hid (next_ B19.out hb)
  clear B19
  clear hb
  rw [lF_good]
  go_wp2_with fail
  refine (c13 (lF.take 2) AF cF _ _ (reads_pre RAF20.out (by decide)) (Nat.le_refl _)).mono ?_
  rintro e w21 ⟨rfl, hb⟩
  have B21 := Lib.hid (next_ B20.out hb)
  rw [lF2_good]
  go_wp2_with fail
  go_ret
  exact ⟨rfl, B21.out⟩
end Go.Proofs.YtcilodgpbdafeaaDoor
