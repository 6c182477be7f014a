/- The document's reader: expressions. -/
import Derived.Test.YtphojigdapaaiaaDoorZBd
import Derived.Test.YtphojigdapaaiaaDoorSHp
namespace Go.Proofs.YtphojigdapaaiaaDoor
open Go.ChangeShapes Go.WideShapes Go.ChangeAt Go.RowKit
set_option linter.unusedVariables false
set_option linter.unusedSimpArgs false
section
variable {ex : Rd → Option (Rd × Int)}
set_option maxRecDepth 100000 in
set_option maxHeartbeats 8000000 in
theorem c70 (hE : Spec 46 ex) (hA : Spec 76 (setF ex)) : Spec 70 (exprOfF ex) := by
  intro B AL cL g S S' r R w h hf
  simp only [exprOfF, Option.bind_eq_bind, Option.bind_eq_some_iff, Prod.exists, ifo, req_some, and2, notf, some2] at hf
  have HE := Lib.hid hE
  have HA := Lib.hid hA
  have HS0 := Lib.hid h
  have HT0 := Lib.hid (To.refl g R w)
  clear h hE hA
  dsimp only [ptr]
  rcases hf with ⟨b1, S1, _, f1, b2, S2, _, f2, S3, t, f3, S4, u, f4, S5, _, f5, S6, a, f6, S7, _, f7, S8, b, f8, f9⟩ | ⟨b1, ⟨b2, S1, _, f1, b3, S2, t, f2, S3, _, f3, S4, a, f4, f5⟩ | ⟨b2, b3, S1, k, f1, b4, rfl, rfl⟩⟩
  · have B1 := Lib.hid b1
    have B2 := Lib.hid b2
    have F1 := Lib.hid f1
    have F2 := Lib.hid f2
    have F3 := Lib.hid f3
    have F4 := Lib.hid f4
    have F5 := Lib.hid f5
    have F6 := Lib.hid f6
    have F7 := Lib.hid f7
    have F8 := Lib.hid f8
    have F9 := Lib.hid f9
    clear b1 b2 f1 f2 f3 f4 f5 f6 f7 f8 f9
    go_enter Tryd.func70, Tryd.ntmps70
    go_wp2_with fail
    refine (c48 HS0.out).mono ?_
    rintro e w1 ⟨rfl, hb⟩
    have HS1 := Lib.hid (HS0.out.below hb)
    have HT1 := Lib.hid (HT0.out.below hb)
    clear hb HS0 HT0 
    go_wp2_with fail
    have hbn := below_new w1 (.cells #[.int .i64 0, .string ⟨#[]⟩, .string ⟨#[]⟩, .int .i64 0, .int .i64 0, .int .i64 0, .int .i64 0, .int .i64 (hereF S)] 30)
    have HN2 := Lib.hid (HS1.out.new 30 #[.int .i64 0, .string ⟨#[]⟩, .string ⟨#[]⟩, .int .i64 0, .int .i64 0, .int .i64 0, .int .i64 0, .int .i64 (hereF S)])
    have HS2 := Lib.hid (HS1.out.below hbn)
    have HT2 := Lib.hid (HT1.out.below hbn)
    have HL := Lib.hid HT1.out.size
    clear hbn HS1 HT1
    go_upto_region 9 with fail
    generalize w1.alloc (.cells #[.int .i64 0, .string ⟨#[]⟩, .string ⟨#[]⟩, .int .i64 0, .int .i64 0, .int .i64 0, .int .i64 0, .int .i64 (hereF S)] 30) = w2 at HS2 HT2 HN2 ⊢
    generalize w1.heap.size = xb at HN2 HL ⊢
    go_wp2_with fail
    refine (c44 sLet HS2.out).mono ?_
    rintro e w3 ⟨rfl, hb⟩
    rw [B1.out]
    have HS3 := Lib.hid (HS2.out.below hb)
    have HT3 := Lib.hid (HT2.out.below hb)
    have HN3 := Lib.hid (HN2.out.next hb)
    clear hb HS2 HT2 HN2
    go_wp2_with fail
    refine (c65 HS3.out F1.out).mono ?_
    rintro e w4 ⟨rfl, R4, hS, hT⟩
    have HS4 := Lib.hid (hS)
    have HT4 := Lib.hid (HT3.out.trans hT)
    have HN4 := Lib.hid (HN3.out.to hT)
    clear hS hT HS3 HT3 HN3
    have x0 : w4.cell? ⟨xb, 0, none⟩ = some (.int .i64 0) := HN4.out.blk.cell 0
    have y0 := HN4.out.blk.frozen 0
    go_wp2_with fail
    clear x0 y0
    have hn := HN4.out.set 0 (.int .i64 12)
    simp only [sLA, sL0, sL1] at hn
    have HN5 := Lib.hid hn
    have HS5 := Lib.hid (HS4.out.far HN4.out 0 (.int .i64 12))
    have HT5 := Lib.hid (HT4.out.set (p := ⟨xb, 0, none⟩) (.inr HL.out) (.int .i64 12))
    clear hn HN4 HS4 HT4
    generalize w4.setCell ⟨xb, 0, none⟩ (.int .i64 12) = w5 at HS5 HT5 HN5 ⊢
    refine (c44 sRec HS5.out).mono ?_
    rintro e w6 ⟨rfl, hb⟩
    rw [B2.out]
    have HS6 := Lib.hid (HS5.out.below hb)
    have HT6 := Lib.hid (HT5.out.below hb)
    have HN6 := Lib.hid (HN5.out.next hb)
    clear hb HS5 HT5 HN5
    go_wp2_with fail
    refine (c65 HS6.out F2.out).mono ?_
    rintro e w7 ⟨rfl, R7, hS, hT⟩
    have HS7 := Lib.hid (hS)
    have HT7 := Lib.hid (HT6.out.trans hT)
    have HN7 := Lib.hid (HN6.out.to hT)
    clear hS hT HS6 HT6 HN6
    have x0 : w7.cell? ⟨xb, 0, none⟩ = some (.int .i64 12) := HN7.out.blk.cell 0
    have y0 := HN7.out.blk.frozen 0
    go_wp2_with fail
    clear x0 y0
    have hn := HN7.out.set 0 (.int .i64 13)
    simp only [sLA, sL0, sL1] at hn
    have HN8 := Lib.hid hn
    have HS8 := Lib.hid (HS7.out.far HN7.out 0 (.int .i64 13))
    have HT8 := Lib.hid (HT7.out.set (p := ⟨xb, 0, none⟩) (.inr HL.out) (.int .i64 13))
    clear hn HN7 HS7 HT7
    generalize w7.setCell ⟨xb, 0, none⟩ (.int .i64 13) = w8 at HS8 HT8 HN8 ⊢
    refine (c65 HS8.out F3.out).mono ?_
    rintro e w9 ⟨rfl, R9, hS, hT⟩
    have HS9 := Lib.hid (hS)
    have HT9 := Lib.hid (HT8.out.trans hT)
    have HN9 := Lib.hid (HN8.out.to hT)
    clear hS hT HS8 HT8 HN8
    have hfd := run_text109 t.k t.at_ t.s
    have x1 : w9.cell? ⟨xb, 1, none⟩ = some (.string ⟨#[]⟩) := HN9.out.blk.cell 1
    have y1 := HN9.out.blk.frozen 1
    go_wp2_with fail
    clear x1 y1
    have hn := HN9.out.set 1 (.string t.s)
    simp only [sLA, sL0, sL1] at hn
    have HN10 := Lib.hid hn
    have HS10 := Lib.hid (HS9.out.far HN9.out 1 (.string t.s))
    have HT10 := Lib.hid (HT9.out.set (p := ⟨xb, 1, none⟩) (.inr HL.out) (.string t.s))
    clear hn HN9 HS9 HT9
    generalize w9.setCell ⟨xb, 1, none⟩ (.string t.s) = w10 at HS10 HT10 HN10 ⊢
    clear hfd
    refine (c65 HS10.out F4.out).mono ?_
    rintro e w11 ⟨rfl, R11, hS, hT⟩
    have HS11 := Lib.hid (hS)
    have HT11 := Lib.hid (HT10.out.trans hT)
    have HN11 := Lib.hid (HN10.out.to hT)
    clear hS hT HS10 HT10 HN10
    have hfd := run_text109 u.k u.at_ u.s
    have x2 : w11.cell? ⟨xb, 2, none⟩ = some (.string ⟨#[]⟩) := HN11.out.blk.cell 2
    have y2 := HN11.out.blk.frozen 2
    go_wp2_with fail
    clear x2 y2
    have hn := HN11.out.set 2 (.string u.s)
    simp only [sLA, sL0, sL1] at hn
    have HN12 := Lib.hid hn
    have HS12 := Lib.hid (HS11.out.far HN11.out 2 (.string u.s))
    have HT12 := Lib.hid (HT11.out.set (p := ⟨xb, 2, none⟩) (.inr HL.out) (.string u.s))
    clear hn HN11 HS11 HT11
    generalize w11.setCell ⟨xb, 2, none⟩ (.string u.s) = w12 at HS12 HT12 HN12 ⊢
    clear hfd
    refine (c65 HS12.out F5.out).mono ?_
    rintro e w13 ⟨rfl, R13, hS, hT⟩
    have HS13 := Lib.hid (hS)
    have HT13 := Lib.hid (HT12.out.trans hT)
    have HN13 := Lib.hid (HN12.out.to hT)
    clear hS hT HS12 HT12 HN12
    go_wp2_with fail
    refine (HE.out _ _ _ _ _ _ _ _ _ HS13.out F6.out).mono ?_
    rintro e w14 ⟨rfl, R14, hS, hT⟩
    have HS14 := Lib.hid (hS)
    have HT14 := Lib.hid (HT13.out.trans hT)
    have HN14 := Lib.hid (HN13.out.to hT)
    clear hS hT HS13 HT13 HN13
    have x4 : w14.cell? ⟨xb, 4, none⟩ = some (.int .i64 0) := HN14.out.blk.cell 4
    have y4 := HN14.out.blk.frozen 4
    go_wp2_with fail
    clear x4 y4
    have hn := HN14.out.set 4 (.int .i64 a)
    simp only [sLA, sL0, sL1] at hn
    have HN15 := Lib.hid hn
    have HS15 := Lib.hid (HS14.out.far HN14.out 4 (.int .i64 a))
    have HT15 := Lib.hid (HT14.out.set (p := ⟨xb, 4, none⟩) (.inr HL.out) (.int .i64 a))
    clear hn HN14 HS14 HT14
    generalize w14.setCell ⟨xb, 4, none⟩ (.int .i64 a) = w15 at HS15 HT15 HN15 ⊢
    refine (c65 HS15.out F7.out).mono ?_
    rintro e w16 ⟨rfl, R16, hS, hT⟩
    have HS16 := Lib.hid (hS)
    have HT16 := Lib.hid (HT15.out.trans hT)
    have HN16 := Lib.hid (HN15.out.to hT)
    clear hS hT HS15 HT15 HN15
    go_wp2_with fail
    refine (HE.out _ _ _ _ _ _ _ _ _ HS16.out F8.out).mono ?_
    rintro e w17 ⟨rfl, R17, hS, hT⟩
    have HS17 := Lib.hid (hS)
    have HT17 := Lib.hid (HT16.out.trans hT)
    have HN17 := Lib.hid (HN16.out.to hT)
    clear hS hT HS16 HT16 HN16
    have x5 : w17.cell? ⟨xb, 5, none⟩ = some (.int .i64 0) := HN17.out.blk.cell 5
    have y5 := HN17.out.blk.frozen 5
    go_upto_region 35 with fail
    clear x5 y5
    have hn := HN17.out.set 5 (.int .i64 b)
    simp only [sLA, sL0, sL1] at hn
    have HN18 := Lib.hid hn
    have HS18 := Lib.hid (HS17.out.far HN17.out 5 (.int .i64 b))
    have HT18 := Lib.hid (HT17.out.set (p := ⟨xb, 5, none⟩) (.inr HL.out) (.int .i64 b))
    clear hn HN17 HS17 HT17
    generalize w17.setCell ⟨xb, 5, none⟩ (.int .i64 b) = w18 at HS18 HT18 HN18 ⊢
    have x0 : w18.cell? ⟨xb, 0, none⟩ = some (.int .i64 13) := HN18.out.blk.cell 0
    have y0 := HN18.out.blk.frozen 0
    have x1 : w18.cell? ⟨xb, 1, none⟩ = some (.string t.s) := HN18.out.blk.cell 1
    have y1 := HN18.out.blk.frozen 1
    have x2 : w18.cell? ⟨xb, 2, none⟩ = some (.string u.s) := HN18.out.blk.cell 2
    have y2 := HN18.out.blk.frozen 2
    have x3 : w18.cell? ⟨xb, 3, none⟩ = some (.int .i64 0) := HN18.out.blk.cell 3
    have y3 := HN18.out.blk.frozen 3
    have x4 : w18.cell? ⟨xb, 4, none⟩ = some (.int .i64 a) := HN18.out.blk.cell 4
    have y4 := HN18.out.blk.frozen 4
    have x5 : w18.cell? ⟨xb, 5, none⟩ = some (.int .i64 b) := HN18.out.blk.cell 5
    have y5 := HN18.out.blk.frozen 5
    have x6 : w18.cell? ⟨xb, 6, none⟩ = some (.int .i64 0) := HN18.out.blk.cell 6
    have y6 := HN18.out.blk.frozen 6
    have x7 : w18.cell? ⟨xb, 7, none⟩ = some (.int .i64 (hereF S)) := HN18.out.blk.cell 7
    have y7 := HN18.out.blk.frozen 7
    go_wp2_with fail
    clear x0 y0 x1 y1 x2 y2 x3 y3 x4 y4 x5 y5 x6 y6 x7 y7
    refine (c68 HS18.out F9.out).mono ?_
    rintro e w19 ⟨rfl, R19, hS, hT⟩
    have HS19 := Lib.hid (hS)
    have HT19 := Lib.hid (HT18.out.trans hT)
    have HN19 := Lib.hid (HN18.out.to hT)
    clear hS hT HS18 HT18 HN18
    go_wp2_with fail
    go_ret
    exact ⟨rfl, _, HS19.out, HT19.out⟩
  · have B1 := Lib.hid b1
    have B2 := Lib.hid b2
    have B3 := Lib.hid b3
    have F1 := Lib.hid f1
    have F2 := Lib.hid f2
    have F3 := Lib.hid f3
    have F4 := Lib.hid f4
    have F5 := Lib.hid f5
    clear b1 b2 b3 f1 f2 f3 f4 f5
    go_enter Tryd.func70, Tryd.ntmps70
    go_wp2_with fail
    refine (c48 HS0.out).mono ?_
    rintro e w1 ⟨rfl, hb⟩
    have HS1 := Lib.hid (HS0.out.below hb)
    have HT1 := Lib.hid (HT0.out.below hb)
    clear hb HS0 HT0 
    go_wp2_with fail
    have hbn := below_new w1 (.cells #[.int .i64 0, .string ⟨#[]⟩, .string ⟨#[]⟩, .int .i64 0, .int .i64 0, .int .i64 0, .int .i64 0, .int .i64 (hereF S)] 30)
    have HN2 := Lib.hid (HS1.out.new 30 #[.int .i64 0, .string ⟨#[]⟩, .string ⟨#[]⟩, .int .i64 0, .int .i64 0, .int .i64 0, .int .i64 0, .int .i64 (hereF S)])
    have HS2 := Lib.hid (HS1.out.below hbn)
    have HT2 := Lib.hid (HT1.out.below hbn)
    have HL := Lib.hid HT1.out.size
    clear hbn HS1 HT1
    go_upto_region 9 with fail
    generalize w1.alloc (.cells #[.int .i64 0, .string ⟨#[]⟩, .string ⟨#[]⟩, .int .i64 0, .int .i64 0, .int .i64 0, .int .i64 0, .int .i64 (hereF S)] 30) = w2 at HS2 HT2 HN2 ⊢
    generalize w1.heap.size = xb at HN2 HL ⊢
    go_wp2_with fail
    refine (c44 sLet HS2.out).mono ?_
    rintro e w3 ⟨rfl, hb⟩
    rw [B1.out]
    have HS3 := Lib.hid (HS2.out.below hb)
    have HT3 := Lib.hid (HT2.out.below hb)
    have HN3 := Lib.hid (HN2.out.next hb)
    clear hb HS2 HT2 HN2
    go_wp2_with fail
    refine (c44 sFun HS3.out).mono ?_
    rintro e w4 ⟨rfl, hb⟩
    rw [B2.out]
    have HS4 := Lib.hid (HS3.out.below hb)
    have HT4 := Lib.hid (HT3.out.below hb)
    have HN4 := Lib.hid (HN3.out.next hb)
    clear hb HS3 HT3 HN3
    go_wp2_with fail
    refine (c65 HS4.out F1.out).mono ?_
    rintro e w5 ⟨rfl, R5, hS, hT⟩
    have HS5 := Lib.hid (hS)
    have HT5 := Lib.hid (HT4.out.trans hT)
    have HN5 := Lib.hid (HN4.out.to hT)
    clear hS hT HS4 HT4 HN4
    go_wp2_with fail
    refine (c75 HS5.out B3.out F2.out).mono ?_
    rintro e w6 ⟨rfl, R6, hS, hT⟩
    have HS6 := Lib.hid (hS)
    have HT6 := Lib.hid (HT5.out.trans hT)
    have HN6 := Lib.hid (HN5.out.to hT)
    clear hS hT HS5 HT5 HN5
    have x0 : w6.cell? ⟨xb, 0, none⟩ = some (.int .i64 0) := HN6.out.blk.cell 0
    have y0 := HN6.out.blk.frozen 0
    have x1 : w6.cell? ⟨xb, 1, none⟩ = some (.string ⟨#[]⟩) := HN6.out.blk.cell 1
    have y1 := HN6.out.blk.frozen 1
    go_wp2_with fail
    clear x0 y0 x1 y1
    have hn := HN6.out.set 0 (.int .i64 10)
    simp only [sLA, sL0, sL1] at hn
    have HN7 := Lib.hid hn
    have HS7 := Lib.hid (HS6.out.far HN6.out 0 (.int .i64 10))
    have HT7 := Lib.hid (HT6.out.set (p := ⟨xb, 0, none⟩) (.inr HL.out) (.int .i64 10))
    clear hn HN6 HS6 HT6
    generalize w6.setCell ⟨xb, 0, none⟩ (.int .i64 10) = w7 at HS7 HT7 HN7 ⊢
    have hn := HN7.out.set 1 (.string t.s)
    simp only [sLA, sL0, sL1] at hn
    have HN8 := Lib.hid hn
    have HS8 := Lib.hid (HS7.out.far HN7.out 1 (.string t.s))
    have HT8 := Lib.hid (HT7.out.set (p := ⟨xb, 1, none⟩) (.inr HL.out) (.string t.s))
    clear hn HN7 HS7 HT7
    generalize w7.setCell ⟨xb, 1, none⟩ (.string t.s) = w8 at HS8 HT8 HN8 ⊢
    refine (c65 HS8.out F3.out).mono ?_
    rintro e w9 ⟨rfl, R9, hS, hT⟩
    have HS9 := Lib.hid (hS)
    have HT9 := Lib.hid (HT8.out.trans hT)
    have HN9 := Lib.hid (HN8.out.to hT)
    clear hS hT HS8 HT8 HN8
    go_wp2_with fail
    refine (HE.out _ _ _ _ _ _ _ _ _ HS9.out F4.out).mono ?_
    rintro e w10 ⟨rfl, R10, hS, hT⟩
    have HS10 := Lib.hid (hS)
    have HT10 := Lib.hid (HT9.out.trans hT)
    have HN10 := Lib.hid (HN9.out.to hT)
    clear hS hT HS9 HT9 HN9
    have x4 : w10.cell? ⟨xb, 4, none⟩ = some (.int .i64 0) := HN10.out.blk.cell 4
    have y4 := HN10.out.blk.frozen 4
    go_upto_region 35 with fail
    clear x4 y4
    have hn := HN10.out.set 4 (.int .i64 a)
    simp only [sLA, sL0, sL1] at hn
    have HN11 := Lib.hid hn
    have HS11 := Lib.hid (HS10.out.far HN10.out 4 (.int .i64 a))
    have HT11 := Lib.hid (HT10.out.set (p := ⟨xb, 4, none⟩) (.inr HL.out) (.int .i64 a))
    clear hn HN10 HS10 HT10
    generalize w10.setCell ⟨xb, 4, none⟩ (.int .i64 a) = w11 at HS11 HT11 HN11 ⊢
    have x0 : w11.cell? ⟨xb, 0, none⟩ = some (.int .i64 10) := HN11.out.blk.cell 0
    have y0 := HN11.out.blk.frozen 0
    have x1 : w11.cell? ⟨xb, 1, none⟩ = some (.string t.s) := HN11.out.blk.cell 1
    have y1 := HN11.out.blk.frozen 1
    have x2 : w11.cell? ⟨xb, 2, none⟩ = some (.string ⟨#[]⟩) := HN11.out.blk.cell 2
    have y2 := HN11.out.blk.frozen 2
    have x3 : w11.cell? ⟨xb, 3, none⟩ = some (.int .i64 0) := HN11.out.blk.cell 3
    have y3 := HN11.out.blk.frozen 3
    have x4 : w11.cell? ⟨xb, 4, none⟩ = some (.int .i64 a) := HN11.out.blk.cell 4
    have y4 := HN11.out.blk.frozen 4
    have x5 : w11.cell? ⟨xb, 5, none⟩ = some (.int .i64 0) := HN11.out.blk.cell 5
    have y5 := HN11.out.blk.frozen 5
    have x6 : w11.cell? ⟨xb, 6, none⟩ = some (.int .i64 0) := HN11.out.blk.cell 6
    have y6 := HN11.out.blk.frozen 6
    have x7 : w11.cell? ⟨xb, 7, none⟩ = some (.int .i64 (hereF S)) := HN11.out.blk.cell 7
    have y7 := HN11.out.blk.frozen 7
    go_wp2_with fail
    clear x0 y0 x1 y1 x2 y2 x3 y3 x4 y4 x5 y5 x6 y6 x7 y7
    refine (c68 HS11.out F5.out).mono ?_
    rintro e w12 ⟨rfl, R12, hS, hT⟩
    have HS12 := Lib.hid (hS)
    have HT12 := Lib.hid (HT11.out.trans hT)
    have HN12 := Lib.hid (HN11.out.to hT)
    clear hS hT HS11 HT11 HN11
    go_wp2_with fail
    go_ret
    exact ⟨rfl, _, HS12.out, HT12.out⟩
  · have B1 := Lib.hid b1
    have B2 := Lib.hid b2
    have B3 := Lib.hid b3
    have B4 := Lib.hid b4
    have F1 := Lib.hid f1
    clear b1 b2 b3 b4 f1
    go_enter Tryd.func70, Tryd.ntmps70
    go_wp2_with fail
    refine (c48 HS0.out).mono ?_
    rintro e w1 ⟨rfl, hb⟩
    have HS1 := Lib.hid (HS0.out.below hb)
    have HT1 := Lib.hid (HT0.out.below hb)
    clear hb HS0 HT0 
    go_wp2_with fail
    have hbn := below_new w1 (.cells #[.int .i64 0, .string ⟨#[]⟩, .string ⟨#[]⟩, .int .i64 0, .int .i64 0, .int .i64 0, .int .i64 0, .int .i64 (hereF S)] 30)
    have HN2 := Lib.hid (HS1.out.new 30 #[.int .i64 0, .string ⟨#[]⟩, .string ⟨#[]⟩, .int .i64 0, .int .i64 0, .int .i64 0, .int .i64 0, .int .i64 (hereF S)])
    have HS2 := Lib.hid (HS1.out.below hbn)
    have HT2 := Lib.hid (HT1.out.below hbn)
    have HL := Lib.hid HT1.out.size
    clear hbn HS1 HT1
    go_upto_region 9 with fail
    generalize w1.alloc (.cells #[.int .i64 0, .string ⟨#[]⟩, .string ⟨#[]⟩, .int .i64 0, .int .i64 0, .int .i64 0, .int .i64 0, .int .i64 (hereF S)] 30) = w2 at HS2 HT2 HN2 ⊢
    generalize w1.heap.size = xb at HN2 HL ⊢
    go_wp2_with fail
    refine (c44 sLet HS2.out).mono ?_
    rintro e w3 ⟨rfl, hb⟩
    rw [B1.out]
    have HS3 := Lib.hid (HS2.out.below hb)
    have HT3 := Lib.hid (HT2.out.below hb)
    have HN3 := Lib.hid (HN2.out.next hb)
    clear hb HS2 HT2 HN2
    go_wp2_with fail
    refine (c44 sFun HS3.out).mono ?_
    rintro e w4 ⟨rfl, hb⟩
    rw [B2.out]
    have HS4 := Lib.hid (HS3.out.below hb)
    have HT4 := Lib.hid (HT3.out.below hb)
    have HN4 := Lib.hid (HN3.out.next hb)
    clear hb HS3 HT3 HN3
    go_wp2_with fail
    refine (c44 sIf HS4.out).mono ?_
    rintro e w5 ⟨rfl, hb⟩
    rw [B3.out]
    have HS5 := Lib.hid (HS4.out.below hb)
    have HT5 := Lib.hid (HT4.out.below hb)
    have HN5 := Lib.hid (HN4.out.next hb)
    clear hb HS4 HT4 HN4
    go_wp2_with fail
    refine (HA.out _ _ _ _ _ _ _ _ _ HS5.out F1.out).mono ?_
    rintro e w6 ⟨rfl, R6, hS, hT⟩
    have HS6 := Lib.hid (hS)
    have HT6 := Lib.hid (HT5.out.trans hT)
    have HN6 := Lib.hid (HN5.out.to hT)
    clear hS hT HS5 HT5 HN5
    go_wp2_with fail
    refine (c67 sSemi HS6.out).mono ?_
    rintro e w7 ⟨rfl, hb⟩
    rw [B4.out]
    have HS7 := Lib.hid (HS6.out.below hb)
    have HT7 := Lib.hid (HT6.out.below hb)
    have HN7 := Lib.hid (HN6.out.next hb)
    clear hb HS6 HT6 HN6
    go_wp2_with fail
    go_ret
    exact ⟨rfl, _, HS7.out, HT7.out⟩
end
set_option maxRecDepth 100000 in
set_option maxHeartbeats 8000000 in
theorem c61one (w : World) : Calls Tryd.prog 61 #[.string sOne] w fun e w' => e = .returned (.agg #[.int .i64 1, .bool true]) ∧ Below w.heap.size w w' := by
  have hR := Blk.new w 112 #[.int .i64 0, .bool false]
  have hB := below_new w (.cells #[.int .i64 0, .bool false] 112)
  go_enter Tryd.func61, Tryd.ntmps61
  go_upto_region 1 with fail
  generalize w.alloc (.cells #[.int .i64 0, .bool false] 112) = w1 at hR hB ⊢
  have HR := Lib.hid hR
  have HB := Lib.hid hB
  generalize hrb : w.heap.size = rb at HR ⊢
  have HLE := Lib.hid (show w.heap.size ≤ rb by omega)
  clear hR hB hrb
  have r0 : w1.cell? ⟨rb, 0, none⟩ = some (.int .i64 0) := HR.out.cell 0
  have r1 : w1.cell? ⟨rb, 1, none⟩ = some (.bool false) := HR.out.cell 1
  have f0 := HR.out.frozen 0
  have f1 := HR.out.frozen 1
  go_wp2_with fail
  refine wp_loop_rounds 2 ?_
  rw [rounds_succ]
  go_wp2_with fail
  rw [rounds_succ]
  go_wp2_with fail
  exact bodyPost_ret (results_cell_row rfl _ _ _ 112 _ (0, 0) _ rfl (row2 HR.out) Tryd.underlying112 rfl (by kernel_rfl)) rfl ⟨rfl, low2 HLE.out HB.out⟩
theorem run_val112 (v : Int) (r : Bool) (w : World) : (Instr.field 112 (.agg #[.int .i64 v, .bool r]) 0).run Tryd.prog w = .ok (.int .i64 v) w := by
  kernel_rfl
section
variable {ex : Rd → Option (Rd × Int)}
set_option maxRecDepth 100000 in
set_option maxHeartbeats 8000000 in
theorem c99 (hM : Spec 100 (matchF ex)) : Spec 99 (atomOfF ex) := by
  intro B AL cL g S S' r R w h hf
  simp only [atomOfF, Option.bind_eq_bind, Option.bind_eq_some_iff, Prod.exists, ifo, req_some, and2, notf, some2] at hf
  have HM := Lib.hid hM
  have HS0 := Lib.hid h
  have HT0 := Lib.hid (To.refl g R w)
  clear h hM
  dsimp only [ptr]
  rcases hf with ⟨b1, f1⟩ | ⟨b1, b2, ⟨b3, S1, t, f1, b4, f2⟩ | ⟨b3, ⟨⟨b4, b5⟩, b6⟩, ⟨b7, S1, t, f1, f2⟩ | ⟨b7, ⟨⟨b8, b9⟩, b10⟩, S1, t, f1, f2⟩⟩⟩
  · have B1 := Lib.hid b1
    have F1 := Lib.hid f1
    clear b1 f1
    go_enter Tryd.func99, Tryd.ntmps99
    go_wp2_with fail
    refine (c48 HS0.out).mono ?_
    rintro e w1 ⟨rfl, hb⟩
    have HS1 := Lib.hid (HS0.out.below hb)
    have HT1 := Lib.hid (HT0.out.below hb)
    clear hb HS0 HT0 
    go_wp2_with fail
    have hbn := below_new w1 (.cells #[.int .i64 0, .string ⟨#[]⟩, .string ⟨#[]⟩, .int .i64 0, .int .i64 0, .int .i64 0, .int .i64 0, .int .i64 (hereF S)] 30)
    have HN2 := Lib.hid (HS1.out.new 30 #[.int .i64 0, .string ⟨#[]⟩, .string ⟨#[]⟩, .int .i64 0, .int .i64 0, .int .i64 0, .int .i64 0, .int .i64 (hereF S)])
    have HS2 := Lib.hid (HS1.out.below hbn)
    have HT2 := Lib.hid (HT1.out.below hbn)
    have HL := Lib.hid HT1.out.size
    clear hbn HS1 HT1
    go_upto_region 4 with fail
    generalize w1.alloc (.cells #[.int .i64 0, .string ⟨#[]⟩, .string ⟨#[]⟩, .int .i64 0, .int .i64 0, .int .i64 0, .int .i64 0, .int .i64 (hereF S)] 30) = w2 at HS2 HT2 HN2 ⊢
    generalize w1.heap.size = xb at HN2 HL ⊢
    go_wp2_with fail
    refine (c44 sMatch HS2.out).mono ?_
    rintro e w3 ⟨rfl, hb⟩
    rw [B1.out]
    have HS3 := Lib.hid (HS2.out.below hb)
    have HT3 := Lib.hid (HT2.out.below hb)
    have HN3 := Lib.hid (HN2.out.next hb)
    clear hb HS2 HT2 HN2
    go_wp2_with fail
    refine (HM.out _ _ _ _ _ _ _ _ _ HS3.out F1.out).mono ?_
    rintro e w4 ⟨rfl, R4, hS, hT⟩
    have HS4 := Lib.hid (hS)
    have HT4 := Lib.hid (HT3.out.trans hT)
    have HN4 := Lib.hid (HN3.out.to hT)
    clear hS hT HS3 HT3 HN3
    go_wp2_with fail
    go_ret
    exact ⟨rfl, _, HS4.out, HT4.out⟩
  · obtain ⟨tk, ts, ta⟩ := t
    obtain rfl : ts = sOne := beq_bytes.1 b4
    clear b4
    have B1 := Lib.hid b1
    have B2 := Lib.hid b2
    have B3 := Lib.hid b3
    have F1 := Lib.hid f1
    have F2 := Lib.hid f2
    clear b1 b2 b3 f1 f2
    go_enter Tryd.func99, Tryd.ntmps99
    go_wp2_with fail
    refine (c48 HS0.out).mono ?_
    rintro e w1 ⟨rfl, hb⟩
    have HS1 := Lib.hid (HS0.out.below hb)
    have HT1 := Lib.hid (HT0.out.below hb)
    clear hb HS0 HT0 
    go_wp2_with fail
    have hbn := below_new w1 (.cells #[.int .i64 0, .string ⟨#[]⟩, .string ⟨#[]⟩, .int .i64 0, .int .i64 0, .int .i64 0, .int .i64 0, .int .i64 (hereF S)] 30)
    have HN2 := Lib.hid (HS1.out.new 30 #[.int .i64 0, .string ⟨#[]⟩, .string ⟨#[]⟩, .int .i64 0, .int .i64 0, .int .i64 0, .int .i64 0, .int .i64 (hereF S)])
    have HS2 := Lib.hid (HS1.out.below hbn)
    have HT2 := Lib.hid (HT1.out.below hbn)
    have HL := Lib.hid HT1.out.size
    clear hbn HS1 HT1
    go_upto_region 4 with fail
    generalize w1.alloc (.cells #[.int .i64 0, .string ⟨#[]⟩, .string ⟨#[]⟩, .int .i64 0, .int .i64 0, .int .i64 0, .int .i64 0, .int .i64 (hereF S)] 30) = w2 at HS2 HT2 HN2 ⊢
    generalize w1.heap.size = xb at HN2 HL ⊢
    go_wp2_with fail
    refine (c44 sMatch HS2.out).mono ?_
    rintro e w3 ⟨rfl, hb⟩
    rw [B1.out]
    have HS3 := Lib.hid (HS2.out.below hb)
    have HT3 := Lib.hid (HT2.out.below hb)
    have HN3 := Lib.hid (HN2.out.next hb)
    clear hb HS2 HT2 HN2
    go_wp2_with fail
    refine (c44 sTry HS3.out).mono ?_
    rintro e w4 ⟨rfl, hb⟩
    rw [B2.out]
    have HS4 := Lib.hid (HS3.out.below hb)
    have HT4 := Lib.hid (HT3.out.below hb)
    have HN4 := Lib.hid (HN3.out.next hb)
    clear hb HS3 HT3 HN3
    go_wp2_with fail
    refine (c64 3 sE HS4.out).mono ?_
    rintro e w5 ⟨rfl, hb⟩
    rw [B3.out]
    have HS5 := Lib.hid (HS4.out.below hb)
    have HT5 := Lib.hid (HT4.out.below hb)
    have HN5 := Lib.hid (HN4.out.next hb)
    clear hb HS4 HT4 HN4
    go_wp2_with fail
    refine (c65 HS5.out F1.out).mono ?_
    rintro e w6 ⟨rfl, R6, hS, hT⟩
    have HS6 := Lib.hid (hS)
    have HT6 := Lib.hid (HT5.out.trans hT)
    have HN6 := Lib.hid (HN5.out.to hT)
    clear hS hT HS5 HT5 HN5
    have hfd := run_text109 tk ta sOne
    go_wp2_with fail
    have hfe := run_val112 1 true
    refine (c61one w6).mono ?_
    rintro e w7 ⟨rfl, hb⟩
    have HS7 := Lib.hid (HS6.out.below hb)
    have HT7 := Lib.hid (HT6.out.below hb)
    have HN7 := Lib.hid (HN6.out.next hb)
    clear hb HS6 HT6 HN6
    have x0 : w7.cell? ⟨xb, 0, none⟩ = some (.int .i64 0) := HN7.out.blk.cell 0
    have y0 := HN7.out.blk.frozen 0
    have x3 : w7.cell? ⟨xb, 3, none⟩ = some (.int .i64 0) := HN7.out.blk.cell 3
    have y3 := HN7.out.blk.frozen 3
    go_upto_region 48 with fail
    clear x0 y0 x3 y3
    have hn := HN7.out.set 0 (.int .i64 1)
    simp only [sLA, sL0, sL1] at hn
    have HN8 := Lib.hid hn
    have HS8 := Lib.hid (HS7.out.far HN7.out 0 (.int .i64 1))
    have HT8 := Lib.hid (HT7.out.set (p := ⟨xb, 0, none⟩) (.inr HL.out) (.int .i64 1))
    clear hn HN7 HS7 HT7
    generalize w7.setCell ⟨xb, 0, none⟩ (.int .i64 1) = w8 at HS8 HT8 HN8 ⊢
    have hn := HN8.out.set 3 (.int .i64 1)
    simp only [sLA, sL0, sL1] at hn
    have HN9 := Lib.hid hn
    have HS9 := Lib.hid (HS8.out.far HN8.out 3 (.int .i64 1))
    have HT9 := Lib.hid (HT8.out.set (p := ⟨xb, 3, none⟩) (.inr HL.out) (.int .i64 1))
    clear hn HN8 HS8 HT8
    generalize w8.setCell ⟨xb, 3, none⟩ (.int .i64 1) = w9 at HS9 HT9 HN9 ⊢
    clear hfd hfe
    have x0 : w9.cell? ⟨xb, 0, none⟩ = some (.int .i64 1) := HN9.out.blk.cell 0
    have y0 := HN9.out.blk.frozen 0
    have x1 : w9.cell? ⟨xb, 1, none⟩ = some (.string ⟨#[]⟩) := HN9.out.blk.cell 1
    have y1 := HN9.out.blk.frozen 1
    have x2 : w9.cell? ⟨xb, 2, none⟩ = some (.string ⟨#[]⟩) := HN9.out.blk.cell 2
    have y2 := HN9.out.blk.frozen 2
    have x3 : w9.cell? ⟨xb, 3, none⟩ = some (.int .i64 1) := HN9.out.blk.cell 3
    have y3 := HN9.out.blk.frozen 3
    have x4 : w9.cell? ⟨xb, 4, none⟩ = some (.int .i64 0) := HN9.out.blk.cell 4
    have y4 := HN9.out.blk.frozen 4
    have x5 : w9.cell? ⟨xb, 5, none⟩ = some (.int .i64 0) := HN9.out.blk.cell 5
    have y5 := HN9.out.blk.frozen 5
    have x6 : w9.cell? ⟨xb, 6, none⟩ = some (.int .i64 0) := HN9.out.blk.cell 6
    have y6 := HN9.out.blk.frozen 6
    have x7 : w9.cell? ⟨xb, 7, none⟩ = some (.int .i64 (hereF S)) := HN9.out.blk.cell 7
    have y7 := HN9.out.blk.frozen 7
    go_wp2_with fail
    clear x0 y0 x1 y1 x2 y2 x3 y3 x4 y4 x5 y5 x6 y6 x7 y7
    refine (c68 HS9.out F2.out).mono ?_
    rintro e w10 ⟨rfl, R10, hS, hT⟩
    have HS10 := Lib.hid (hS)
    have HT10 := Lib.hid (HT9.out.trans hT)
    have HN10 := Lib.hid (HN9.out.to hT)
    clear hS hT HS9 HT9 HN9
    go_wp2_with fail
    go_ret
    exact ⟨rfl, _, HS10.out, HT10.out⟩
  · have B1 := Lib.hid b1
    have B2 := Lib.hid b2
    have B3 := Lib.hid b3
    have B4 := Lib.hid b4
    have B5 := Lib.hid b5
    have B6 := Lib.hid b6
    have B7 := Lib.hid b7
    have F1 := Lib.hid f1
    have F2 := Lib.hid f2
    clear b1 b2 b3 b4 b5 b6 b7 f1 f2
    go_enter Tryd.func99, Tryd.ntmps99
    go_wp2_with fail
    refine (c48 HS0.out).mono ?_
    rintro e w1 ⟨rfl, hb⟩
    have HS1 := Lib.hid (HS0.out.below hb)
    have HT1 := Lib.hid (HT0.out.below hb)
    clear hb HS0 HT0 
    go_wp2_with fail
    have hbn := below_new w1 (.cells #[.int .i64 0, .string ⟨#[]⟩, .string ⟨#[]⟩, .int .i64 0, .int .i64 0, .int .i64 0, .int .i64 0, .int .i64 (hereF S)] 30)
    have HN2 := Lib.hid (HS1.out.new 30 #[.int .i64 0, .string ⟨#[]⟩, .string ⟨#[]⟩, .int .i64 0, .int .i64 0, .int .i64 0, .int .i64 0, .int .i64 (hereF S)])
    have HS2 := Lib.hid (HS1.out.below hbn)
    have HT2 := Lib.hid (HT1.out.below hbn)
    have HL := Lib.hid HT1.out.size
    clear hbn HS1 HT1
    go_upto_region 4 with fail
    generalize w1.alloc (.cells #[.int .i64 0, .string ⟨#[]⟩, .string ⟨#[]⟩, .int .i64 0, .int .i64 0, .int .i64 0, .int .i64 0, .int .i64 (hereF S)] 30) = w2 at HS2 HT2 HN2 ⊢
    generalize w1.heap.size = xb at HN2 HL ⊢
    go_wp2_with fail
    refine (c44 sMatch HS2.out).mono ?_
    rintro e w3 ⟨rfl, hb⟩
    rw [B1.out]
    have HS3 := Lib.hid (HS2.out.below hb)
    have HT3 := Lib.hid (HT2.out.below hb)
    have HN3 := Lib.hid (HN2.out.next hb)
    clear hb HS2 HT2 HN2
    go_wp2_with fail
    refine (c44 sTry HS3.out).mono ?_
    rintro e w4 ⟨rfl, hb⟩
    rw [B2.out]
    have HS4 := Lib.hid (HS3.out.below hb)
    have HT4 := Lib.hid (HT3.out.below hb)
    have HN4 := Lib.hid (HN3.out.next hb)
    clear hb HS3 HT3 HN3
    go_wp2_with fail
    refine (c64 3 sE HS4.out).mono ?_
    rintro e w5 ⟨rfl, hb⟩
    rw [B3.out]
    have HS5 := Lib.hid (HS4.out.below hb)
    have HT5 := Lib.hid (HT4.out.below hb)
    have HN5 := Lib.hid (HN4.out.next hb)
    clear hb HS4 HT4 HN4
    go_wp2_with fail
    refine (c64 4 sE HS5.out).mono ?_
    rintro e w6 ⟨rfl, hb⟩
    rw [B4.out]
    have HS6 := Lib.hid (HS5.out.below hb)
    have HT6 := Lib.hid (HT5.out.below hb)
    have HN6 := Lib.hid (HN5.out.next hb)
    clear hb HS5 HT5 HN5
    go_wp2_with fail
    refine (c44 sTrue HS6.out).mono ?_
    rintro e w7 ⟨rfl, hb⟩
    rw [B5.out]
    have HS7 := Lib.hid (HS6.out.below hb)
    have HT7 := Lib.hid (HT6.out.below hb)
    have HN7 := Lib.hid (HN6.out.next hb)
    clear hb HS6 HT6 HN6
    go_wp2_with fail
    refine (c44 sFalse HS7.out).mono ?_
    rintro e w8 ⟨rfl, hb⟩
    rw [B6.out]
    have HS8 := Lib.hid (HS7.out.below hb)
    have HT8 := Lib.hid (HT7.out.below hb)
    have HN8 := Lib.hid (HN7.out.next hb)
    clear hb HS7 HT7 HN7
    go_wp2_with fail
    refine (c64 2 sE HS8.out).mono ?_
    rintro e w9 ⟨rfl, hb⟩
    rw [B7.out]
    have HS9 := Lib.hid (HS8.out.below hb)
    have HT9 := Lib.hid (HT8.out.below hb)
    have HN9 := Lib.hid (HN8.out.next hb)
    clear hb HS8 HT8 HN8
    go_wp2_with fail
    refine (c65 HS9.out F1.out).mono ?_
    rintro e w10 ⟨rfl, R10, hS, hT⟩
    have HS10 := Lib.hid (hS)
    have HT10 := Lib.hid (HT9.out.trans hT)
    have HN10 := Lib.hid (HN9.out.to hT)
    clear hS hT HS9 HT9 HN9
    have hfd := run_text109 t.k t.at_ t.s
    have x0 : w10.cell? ⟨xb, 0, none⟩ = some (.int .i64 0) := HN10.out.blk.cell 0
    have y0 := HN10.out.blk.frozen 0
    have x1 : w10.cell? ⟨xb, 1, none⟩ = some (.string ⟨#[]⟩) := HN10.out.blk.cell 1
    have y1 := HN10.out.blk.frozen 1
    have x4 : w10.cell? ⟨xb, 4, none⟩ = some (.int .i64 0) := HN10.out.blk.cell 4
    have y4 := HN10.out.blk.frozen 4
    go_upto_region 48 with fail
    clear x0 y0 x1 y1 x4 y4
    have hn := HN10.out.set 0 (.int .i64 6)
    simp only [sLA, sL0, sL1] at hn
    have HN11 := Lib.hid hn
    have HS11 := Lib.hid (HS10.out.far HN10.out 0 (.int .i64 6))
    have HT11 := Lib.hid (HT10.out.set (p := ⟨xb, 0, none⟩) (.inr HL.out) (.int .i64 6))
    clear hn HN10 HS10 HT10
    generalize w10.setCell ⟨xb, 0, none⟩ (.int .i64 6) = w11 at HS11 HT11 HN11 ⊢
    have hn := HN11.out.set 1 (.string t.s)
    simp only [sLA, sL0, sL1] at hn
    have HN12 := Lib.hid hn
    have HS12 := Lib.hid (HS11.out.far HN11.out 1 (.string t.s))
    have HT12 := Lib.hid (HT11.out.set (p := ⟨xb, 1, none⟩) (.inr HL.out) (.string t.s))
    clear hn HN11 HS11 HT11
    generalize w11.setCell ⟨xb, 1, none⟩ (.string t.s) = w12 at HS12 HT12 HN12 ⊢
    have hn := HN12.out.set 4 (.int .i64 (-1))
    simp only [sLA, sL0, sL1] at hn
    have HN13 := Lib.hid hn
    have HS13 := Lib.hid (HS12.out.far HN12.out 4 (.int .i64 (-1)))
    have HT13 := Lib.hid (HT12.out.set (p := ⟨xb, 4, none⟩) (.inr HL.out) (.int .i64 (-1)))
    clear hn HN12 HS12 HT12
    generalize w12.setCell ⟨xb, 4, none⟩ (.int .i64 (-1)) = w13 at HS13 HT13 HN13 ⊢
    clear hfd
    have x0 : w13.cell? ⟨xb, 0, none⟩ = some (.int .i64 6) := HN13.out.blk.cell 0
    have y0 := HN13.out.blk.frozen 0
    have x1 : w13.cell? ⟨xb, 1, none⟩ = some (.string t.s) := HN13.out.blk.cell 1
    have y1 := HN13.out.blk.frozen 1
    have x2 : w13.cell? ⟨xb, 2, none⟩ = some (.string ⟨#[]⟩) := HN13.out.blk.cell 2
    have y2 := HN13.out.blk.frozen 2
    have x3 : w13.cell? ⟨xb, 3, none⟩ = some (.int .i64 0) := HN13.out.blk.cell 3
    have y3 := HN13.out.blk.frozen 3
    have x4 : w13.cell? ⟨xb, 4, none⟩ = some (.int .i64 (-1)) := HN13.out.blk.cell 4
    have y4 := HN13.out.blk.frozen 4
    have x5 : w13.cell? ⟨xb, 5, none⟩ = some (.int .i64 0) := HN13.out.blk.cell 5
    have y5 := HN13.out.blk.frozen 5
    have x6 : w13.cell? ⟨xb, 6, none⟩ = some (.int .i64 0) := HN13.out.blk.cell 6
    have y6 := HN13.out.blk.frozen 6
    have x7 : w13.cell? ⟨xb, 7, none⟩ = some (.int .i64 (hereF S)) := HN13.out.blk.cell 7
    have y7 := HN13.out.blk.frozen 7
    go_wp2_with fail
    clear x0 y0 x1 y1 x2 y2 x3 y3 x4 y4 x5 y5 x6 y6 x7 y7
    refine (c68 HS13.out F2.out).mono ?_
    rintro e w14 ⟨rfl, R14, hS, hT⟩
    have HS14 := Lib.hid (hS)
    have HT14 := Lib.hid (HT13.out.trans hT)
    have HN14 := Lib.hid (HN13.out.to hT)
    clear hS hT HS13 HT13 HN13
    go_wp2_with fail
    go_ret
    exact ⟨rfl, _, HS14.out, HT14.out⟩
  · have B1 := Lib.hid b1
    have B2 := Lib.hid b2
    have B3 := Lib.hid b3
    have B4 := Lib.hid b4
    have B5 := Lib.hid b5
    have B6 := Lib.hid b6
    have B7 := Lib.hid b7
    have B8 := Lib.hid b8
    have B9 := Lib.hid b9
    have B10 := Lib.hid b10
    have F1 := Lib.hid f1
    have F2 := Lib.hid f2
    clear b1 b2 b3 b4 b5 b6 b7 b8 b9 b10 f1 f2
    go_enter Tryd.func99, Tryd.ntmps99
    go_wp2_with fail
    refine (c48 HS0.out).mono ?_
    rintro e w1 ⟨rfl, hb⟩
    have HS1 := Lib.hid (HS0.out.below hb)
    have HT1 := Lib.hid (HT0.out.below hb)
    clear hb HS0 HT0 
    go_wp2_with fail
    have hbn := below_new w1 (.cells #[.int .i64 0, .string ⟨#[]⟩, .string ⟨#[]⟩, .int .i64 0, .int .i64 0, .int .i64 0, .int .i64 0, .int .i64 (hereF S)] 30)
    have HN2 := Lib.hid (HS1.out.new 30 #[.int .i64 0, .string ⟨#[]⟩, .string ⟨#[]⟩, .int .i64 0, .int .i64 0, .int .i64 0, .int .i64 0, .int .i64 (hereF S)])
    have HS2 := Lib.hid (HS1.out.below hbn)
    have HT2 := Lib.hid (HT1.out.below hbn)
    have HL := Lib.hid HT1.out.size
    clear hbn HS1 HT1
    go_upto_region 4 with fail
    generalize w1.alloc (.cells #[.int .i64 0, .string ⟨#[]⟩, .string ⟨#[]⟩, .int .i64 0, .int .i64 0, .int .i64 0, .int .i64 0, .int .i64 (hereF S)] 30) = w2 at HS2 HT2 HN2 ⊢
    generalize w1.heap.size = xb at HN2 HL ⊢
    go_wp2_with fail
    refine (c44 sMatch HS2.out).mono ?_
    rintro e w3 ⟨rfl, hb⟩
    rw [B1.out]
    have HS3 := Lib.hid (HS2.out.below hb)
    have HT3 := Lib.hid (HT2.out.below hb)
    have HN3 := Lib.hid (HN2.out.next hb)
    clear hb HS2 HT2 HN2
    go_wp2_with fail
    refine (c44 sTry HS3.out).mono ?_
    rintro e w4 ⟨rfl, hb⟩
    rw [B2.out]
    have HS4 := Lib.hid (HS3.out.below hb)
    have HT4 := Lib.hid (HT3.out.below hb)
    have HN4 := Lib.hid (HN3.out.next hb)
    clear hb HS3 HT3 HN3
    go_wp2_with fail
    refine (c64 3 sE HS4.out).mono ?_
    rintro e w5 ⟨rfl, hb⟩
    rw [B3.out]
    have HS5 := Lib.hid (HS4.out.below hb)
    have HT5 := Lib.hid (HT4.out.below hb)
    have HN5 := Lib.hid (HN4.out.next hb)
    clear hb HS4 HT4 HN4
    go_wp2_with fail
    refine (c64 4 sE HS5.out).mono ?_
    rintro e w6 ⟨rfl, hb⟩
    rw [B4.out]
    have HS6 := Lib.hid (HS5.out.below hb)
    have HT6 := Lib.hid (HT5.out.below hb)
    have HN6 := Lib.hid (HN5.out.next hb)
    clear hb HS5 HT5 HN5
    go_wp2_with fail
    refine (c44 sTrue HS6.out).mono ?_
    rintro e w7 ⟨rfl, hb⟩
    rw [B5.out]
    have HS7 := Lib.hid (HS6.out.below hb)
    have HT7 := Lib.hid (HT6.out.below hb)
    have HN7 := Lib.hid (HN6.out.next hb)
    clear hb HS6 HT6 HN6
    go_wp2_with fail
    refine (c44 sFalse HS7.out).mono ?_
    rintro e w8 ⟨rfl, hb⟩
    rw [B6.out]
    have HS8 := Lib.hid (HS7.out.below hb)
    have HT8 := Lib.hid (HT7.out.below hb)
    have HN8 := Lib.hid (HN7.out.next hb)
    clear hb HS7 HT7 HN7
    go_wp2_with fail
    refine (c64 2 sE HS8.out).mono ?_
    rintro e w9 ⟨rfl, hb⟩
    rw [B7.out]
    have HS9 := Lib.hid (HS8.out.below hb)
    have HT9 := Lib.hid (HT8.out.below hb)
    have HN9 := Lib.hid (HN8.out.next hb)
    clear hb HS8 HT8 HN8
    go_wp2_with fail
    refine (c67 sLb HS9.out).mono ?_
    rintro e w10 ⟨rfl, hb⟩
    rw [B8.out]
    have HS10 := Lib.hid (HS9.out.below hb)
    have HT10 := Lib.hid (HT9.out.below hb)
    have HN10 := Lib.hid (HN9.out.next hb)
    clear hb HS9 HT9 HN9
    go_wp2_with fail
    refine (c67 sBang HS10.out).mono ?_
    rintro e w11 ⟨rfl, hb⟩
    rw [B9.out]
    have HS11 := Lib.hid (HS10.out.below hb)
    have HT11 := Lib.hid (HT10.out.below hb)
    have HN11 := Lib.hid (HN10.out.next hb)
    clear hb HS10 HT10 HN10
    go_wp2_with fail
    refine (c67 sLp HS11.out).mono ?_
    rintro e w12 ⟨rfl, hb⟩
    rw [B10.out]
    have HS12 := Lib.hid (HS11.out.below hb)
    have HT12 := Lib.hid (HT11.out.below hb)
    have HN12 := Lib.hid (HN11.out.next hb)
    clear hb HS11 HT11 HN11
    go_wp2_with fail
    refine (c65 HS12.out F1.out).mono ?_
    rintro e w13 ⟨rfl, R13, hS, hT⟩
    have HS13 := Lib.hid (hS)
    have HT13 := Lib.hid (HT12.out.trans hT)
    have HN13 := Lib.hid (HN12.out.to hT)
    clear hS hT HS12 HT12 HN12
    have hfd := run_text109 t.k t.at_ t.s
    have x0 : w13.cell? ⟨xb, 0, none⟩ = some (.int .i64 0) := HN13.out.blk.cell 0
    have y0 := HN13.out.blk.frozen 0
    have x1 : w13.cell? ⟨xb, 1, none⟩ = some (.string ⟨#[]⟩) := HN13.out.blk.cell 1
    have y1 := HN13.out.blk.frozen 1
    go_upto_region 48 with fail
    clear x0 y0 x1 y1
    have hn := HN13.out.set 0 (.int .i64 5)
    simp only [sLA, sL0, sL1] at hn
    have HN14 := Lib.hid hn
    have HS14 := Lib.hid (HS13.out.far HN13.out 0 (.int .i64 5))
    have HT14 := Lib.hid (HT13.out.set (p := ⟨xb, 0, none⟩) (.inr HL.out) (.int .i64 5))
    clear hn HN13 HS13 HT13
    generalize w13.setCell ⟨xb, 0, none⟩ (.int .i64 5) = w14 at HS14 HT14 HN14 ⊢
    have hn := HN14.out.set 1 (.string t.s)
    simp only [sLA, sL0, sL1] at hn
    have HN15 := Lib.hid hn
    have HS15 := Lib.hid (HS14.out.far HN14.out 1 (.string t.s))
    have HT15 := Lib.hid (HT14.out.set (p := ⟨xb, 1, none⟩) (.inr HL.out) (.string t.s))
    clear hn HN14 HS14 HT14
    generalize w14.setCell ⟨xb, 1, none⟩ (.string t.s) = w15 at HS15 HT15 HN15 ⊢
    clear hfd
    have x0 : w15.cell? ⟨xb, 0, none⟩ = some (.int .i64 5) := HN15.out.blk.cell 0
    have y0 := HN15.out.blk.frozen 0
    have x1 : w15.cell? ⟨xb, 1, none⟩ = some (.string t.s) := HN15.out.blk.cell 1
    have y1 := HN15.out.blk.frozen 1
    have x2 : w15.cell? ⟨xb, 2, none⟩ = some (.string ⟨#[]⟩) := HN15.out.blk.cell 2
    have y2 := HN15.out.blk.frozen 2
    have x3 : w15.cell? ⟨xb, 3, none⟩ = some (.int .i64 0) := HN15.out.blk.cell 3
    have y3 := HN15.out.blk.frozen 3
    have x4 : w15.cell? ⟨xb, 4, none⟩ = some (.int .i64 0) := HN15.out.blk.cell 4
    have y4 := HN15.out.blk.frozen 4
    have x5 : w15.cell? ⟨xb, 5, none⟩ = some (.int .i64 0) := HN15.out.blk.cell 5
    have y5 := HN15.out.blk.frozen 5
    have x6 : w15.cell? ⟨xb, 6, none⟩ = some (.int .i64 0) := HN15.out.blk.cell 6
    have y6 := HN15.out.blk.frozen 6
    have x7 : w15.cell? ⟨xb, 7, none⟩ = some (.int .i64 (hereF S)) := HN15.out.blk.cell 7
    have y7 := HN15.out.blk.frozen 7
    go_wp2_with fail
    clear x0 y0 x1 y1 x2 y2 x3 y3 x4 y4 x5 y5 x6 y6 x7 y7
    refine (c68 HS15.out F2.out).mono ?_
    rintro e w16 ⟨rfl, R16, hS, hT⟩
    have HS16 := Lib.hid (hS)
    have HT16 := Lib.hid (HT15.out.trans hT)
    have HN16 := Lib.hid (HN15.out.to hT)
    clear hS hT HS15 HT15 HN15
    go_wp2_with fail
    go_ret
    exact ⟨rfl, _, HS16.out, HT16.out⟩
end
theorem signN_le (l : List UInt8) : signN l ≤ l.length := by
  cases l with
  | nil => exact Nat.le_refl _
  | cons c r =>
    simp only [signN]
    split
    · rename_i h
      cases r with
      | nil => unfold two nextB at h; simp at h
      | cons d r => simp
    · split <;> simp
def SignStep (s : ByteArray) (k : Nat) : Prop := ∀ n, n = signN (lis (s.extract k s.size)) → stepL (dr s k) = if n = 0 then some .err else some (.tok 6 (lis (s.extract k (k + n))) n)
theorem step_digit_err {s : ByteArray} {k j : Nat} (hW : stepL (dr s k) = if lis (s.extract k j) = [49] then (if nextB (fun x => sB x || gB x) (dr s j) then some .err else some (.tok 3 [49] 1)) else none)
    (h : lis (s.extract k j) = [49] → nextB (fun x => sB x || gB x) (dr s j) = true) : StepOk (dr s k) .err := by
  by_cases h1 : lis (s.extract k j) = [49]
  · rw [if_pos h1, if_pos (h h1)] at hW
    exact .inl hW
  · rw [if_neg h1] at hW
    exact .inr ⟨hW, fun _ _ h => by cases h⟩
theorem step_digit_ok {s : ByteArray} {k j : Nat} (hW : stepL (dr s k) = if lis (s.extract k j) = [49] then (if nextB (fun x => sB x || gB x) (dr s j) then some .err else some (.tok 3 [49] 1)) else none)
    (h : nextB (fun x => sB x || gB x) (dr s j) = false) (hl : (lis (s.extract k j)).length = j - k) : StepOk (dr s k) (.tok 3 (lis (s.extract k j)) (j - k)) := by
  by_cases h1 : lis (s.extract k j) = [49]
  · rw [if_pos h1, if_neg (by rw [h]; exact Bool.false_ne_true)] at hW
    rw [← hl, h1]
    exact .inl hW
  · rw [if_neg h1] at hW
    exact .inr ⟨hW, fun _ _ h => by cases h⟩
theorem x61 (s : ByteArray) (hs : s.size ≤ 3000) (w : World) : Calls Tryd.prog 61 #[.string s] w fun e w' => ∃ (v : Int) (r : Bool), e = .returned (.agg #[.int .i64 v, .bool r]) ∧ Below w.heap.size w w' ∧ (lis s = [49] → r = true) := by
  by_cases h : lis s = [49]
  · obtain rfl : s = sOne := bytes_inj h
    refine (c61one w).mono ?_
    rintro e w1 ⟨rfl, hb⟩
    exact ⟨1, true, rfl, hb, fun _ => rfl⟩
  · refine (c61 s hs w).mono ?_
    rintro e w1 ⟨v, r, rfl, hb⟩
    exact ⟨v, r, rfl, hb, fun h1 => absurd h1 h⟩
end Go.Proofs.YtphojigdapaaiaaDoor
