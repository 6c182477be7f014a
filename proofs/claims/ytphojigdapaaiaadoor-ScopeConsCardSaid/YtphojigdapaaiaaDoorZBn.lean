/- The document's reader: patterns. -/
import Derived.Test.YtphojigdapaaiaaDoorZBm
import Derived.Test.YtphojigdapaaiaaDoorZBi
import Derived.Test.YtphojigdapaaiaaDoorZBg
import Derived.Test.YtphojigdapaaiaaDoorSHp
namespace Go.Proofs.YtphojigdapaaiaaDoor
open Go.ChangeShapes Go.WideShapes Go.ChangeAt Go.RowKit
set_option linter.unusedVariables false
set_option linter.unusedSimpArgs false
section
variable {ex : Rd → Option (Rd × Int)}
set_option maxRecDepth 100000 in
set_option maxHeartbeats 8000000 in
theorem c102 (hA : Spec 103 ex) : Spec 102 (inPatF ex) := by
  intro B AL cL g S S' r R w h hf
  simp only [inPatF, Option.bind_eq_bind, Option.bind_eq_some_iff, Prod.exists, ifo, req_some, and2, notf, some2] at hf
  obtain ⟨S1, f1, S2, k, f2, b0, S3, f3, rfl, rfl⟩ := hf
  have HA := Lib.hid hA
  have HS0 := Lib.hid h
  have HT0 := Lib.hid (To.refl g R w)
  clear hA h
  have F1 := Lib.hid f1
  have F2 := Lib.hid f2
  have F3 := Lib.hid f3
  have B0 := Lib.hid b0
  clear f1 f2 f3 b0
  dsimp only [ptr]
  go_enter Tryd.func102, Tryd.ntmps102
  go_wp2_with fail
  refine (c69 HS0.out F1.out).mono ?_
  rintro e w1 ⟨rfl, R1, hS, hT⟩
  have HS1 := Lib.hid (hS)
  have HT1 := Lib.hid (HT0.out.trans hT)
  clear hS hT HS0 HT0 
  go_wp2_with fail
  refine (c48 HS1.out).mono ?_
  rintro e w2 ⟨rfl, hb⟩
  have HS2 := Lib.hid (HS1.out.below hb)
  have HT2 := Lib.hid (HT1.out.below hb)
  clear hb HS1 HT1 
  go_wp2_with fail
  refine (HA.out _ _ _ _ _ _ _ _ _ HS2.out F2.out).mono ?_
  rintro e w3 ⟨rfl, R3, hS, hT⟩
  have HS3 := Lib.hid (hS)
  have HT3 := Lib.hid (HT2.out.trans hT)
  clear hS hT HS2 HT2 
  go_wp2_with fail
  refine (c67 sCc HS3.out).mono ?_
  rintro e w4 ⟨rfl, hb⟩
  rw [B0.out]
  have HS4 := Lib.hid (HS3.out.below hb)
  have HT4 := Lib.hid (HT3.out.below hb)
  clear hb HS3 HT3 
  go_wp2_with fail
  refine (c71 HS4.out F3.out).mono ?_
  rintro e w5 ⟨rfl, R5, hS, hT⟩
  have HS5 := Lib.hid (hS)
  have HT5 := Lib.hid (HT4.out.trans hT)
  clear hS hT HS4 HT4 
  go_wp2_with fail
  go_ret
  exact ⟨rfl, _, HS5.out, HT5.out⟩
end
set_option maxRecDepth 100000 in
set_option maxHeartbeats 8000000 in
theorem c103 : ∀ n, Spec 103 (patomF n)
  | 0 => fun _ _ _ _ _ _ _ _ _ _ hf => by cases hf
  | n + 1 => by
    intro B AL cL g S S' r R w h hf
    have HA := Lib.hid (c103 n)
    have HB := Lib.hid (c102 (c103 n))
    simp only [patomF, Option.bind_eq_bind, Option.bind_eq_some_iff, Prod.exists, ifo, req_some, and2, notf, some2] at hf
    have HS0 := Lib.hid h
    have HT0 := Lib.hid (To.refl g R w)
    clear h
    dsimp only [ptr]
    obtain ⟨S1, f1, ⟨⟨⟨⟨b1, b2⟩, b3⟩, b4⟩, b5⟩, hf⟩ := hf
    have F1 := Lib.hid f1
    have B1 := Lib.hid b1
    have B2 := Lib.hid b2
    have B3 := Lib.hid b3
    have B4 := Lib.hid b4
    have B5 := Lib.hid b5
    clear f1 b1 b2 b3 b4 b5
    rcases hf with ⟨b6, S2, t, f2, S3, a, f3, S4, k, f4, S5, f5, rfl, rfl⟩ | ⟨b6, b7, ⟨b8, S2, _, f2, b9, S3, a, f3, b10, S4, _, f4, S5, b, f5, S6, _, f6, S7, k, f7, S8, f8, rfl, rfl⟩ | ⟨b8, S2, t, f2, S3, k, f3, S4, f4, rfl, rfl⟩⟩
    · unfold argF at f3
      rw [ifo] at f3
      rcases f3 with ⟨b7, f3⟩ | ⟨b7, f3⟩
      · have B6 := Lib.hid b6
        have B7 := Lib.hid b7
        have F2 := Lib.hid f2
        have F3 := Lib.hid f3
        have F4 := Lib.hid f4
        have F5 := Lib.hid f5
        clear b6 b7 f2 f3 f4 f5
        go_enter Tryd.func103, Tryd.ntmps103
        go_wp2_with fail
        refine (c69 HS0.out F1.out).mono ?_
        rintro e w1 ⟨rfl, R1, hS, hT⟩
        have HS1 := Lib.hid (hS)
        have HT1 := Lib.hid (HT0.out.trans hT)
        clear hS hT HS0 HT0 
        go_wp2_with fail
        refine (c48 HS1.out).mono ?_
        rintro e w2 ⟨rfl, hb⟩
        have HS2 := Lib.hid (HS1.out.below hb)
        have HT2 := Lib.hid (HT1.out.below hb)
        clear hb HS1 HT1 
        go_wp2_with fail
        have hbn := below_new w2 (.cells #[.int .i64 0, .string ⟨#[]⟩, .string ⟨#[]⟩, .int .i64 0, .int .i64 0, .int .i64 0, .int .i64 0, .int .i64 (hereF S1)] 30)
        have HN3 := Lib.hid (HS2.out.new 30 #[.int .i64 0, .string ⟨#[]⟩, .string ⟨#[]⟩, .int .i64 0, .int .i64 0, .int .i64 0, .int .i64 0, .int .i64 (hereF S1)])
        have HS3 := Lib.hid (HS2.out.below hbn)
        have HT3 := Lib.hid (HT2.out.below hbn)
        have HL := Lib.hid HT2.out.size
        clear hbn HS2 HT2
        go_upto_region 6 with fail
        generalize w2.alloc (.cells #[.int .i64 0, .string ⟨#[]⟩, .string ⟨#[]⟩, .int .i64 0, .int .i64 0, .int .i64 0, .int .i64 0, .int .i64 (hereF S1)] 30) = w3 at HS3 HT3 HN3 ⊢
        generalize w2.heap.size = xb at HN3 HL ⊢
        go_wp2_with fail
        refine (c67 sUnd HS3.out).mono ?_
        rintro e w4 ⟨rfl, hb⟩
        rw [B1.out]
        have HS4 := Lib.hid (HS3.out.below hb)
        have HT4 := Lib.hid (HT3.out.below hb)
        have HN4 := Lib.hid (HN3.out.next hb)
        clear hb HS3 HT3 HN3
        go_wp2_with fail
        refine (c64 3 sE HS4.out).mono ?_
        rintro e w5 ⟨rfl, hb⟩
        rw [B2.out]
        have HS5 := Lib.hid (HS4.out.below hb)
        have HT5 := Lib.hid (HT4.out.below hb)
        have HN5 := Lib.hid (HN4.out.next hb)
        clear hb HS4 HT4 HN4
        go_wp2_with fail
        refine (c67 sMinus HS5.out).mono ?_
        rintro e w6 ⟨rfl, hb⟩
        rw [B3.out]
        have HS6 := Lib.hid (HS5.out.below hb)
        have HT6 := Lib.hid (HT5.out.below hb)
        have HN6 := Lib.hid (HN5.out.next hb)
        clear hb HS5 HT5 HN5
        go_wp2_with fail
        refine (c44 sTrue HS6.out).mono ?_
        rintro e w7 ⟨rfl, hb⟩
        rw [B4.out]
        have HS7 := Lib.hid (HS6.out.below hb)
        have HT7 := Lib.hid (HT6.out.below hb)
        have HN7 := Lib.hid (HN6.out.next hb)
        clear hb HS6 HT6 HN6
        go_wp2_with fail
        refine (c44 sFalse HS7.out).mono ?_
        rintro e w8 ⟨rfl, hb⟩
        rw [B5.out]
        have HS8 := Lib.hid (HS7.out.below hb)
        have HT8 := Lib.hid (HT7.out.below hb)
        have HN8 := Lib.hid (HN7.out.next hb)
        clear hb HS7 HT7 HN7
        go_wp2_with fail
        refine (c64 2 sE HS8.out).mono ?_
        rintro e w9 ⟨rfl, hb⟩
        rw [B6.out]
        have HS9 := Lib.hid (HS8.out.below hb)
        have HT9 := Lib.hid (HT8.out.below hb)
        have HN9 := Lib.hid (HN8.out.next hb)
        clear hb HS8 HT8 HN8
        have x0 : w9.cell? ⟨xb, 0, none⟩ = some (.int .i64 0) := HN9.out.blk.cell 0
        have y0 := HN9.out.blk.frozen 0
        have x4 : w9.cell? ⟨xb, 4, none⟩ = some (.int .i64 0) := HN9.out.blk.cell 4
        have y4 := HN9.out.blk.frozen 4
        go_wp2_with fail
        clear x0 y0 x4 y4
        have hn := HN9.out.set 0 (.int .i64 34)
        simp only [sLA, sL0, sL1] at hn
        have HN10 := Lib.hid hn
        have HS10 := Lib.hid (HS9.out.far HN9.out 0 (.int .i64 34))
        have HT10 := Lib.hid (HT9.out.set (p := ⟨xb, 0, none⟩) (.inr HL.out) (.int .i64 34))
        clear hn HN9 HS9 HT9
        generalize w9.setCell ⟨xb, 0, none⟩ (.int .i64 34) = w10 at HS10 HT10 HN10 ⊢
        have hn := HN10.out.set 4 (.int .i64 (-1))
        simp only [sLA, sL0, sL1] at hn
        have HN11 := Lib.hid hn
        have HS11 := Lib.hid (HS10.out.far HN10.out 4 (.int .i64 (-1)))
        have HT11 := Lib.hid (HT10.out.set (p := ⟨xb, 4, none⟩) (.inr HL.out) (.int .i64 (-1)))
        clear hn HN10 HS10 HT10
        generalize w10.setCell ⟨xb, 4, none⟩ (.int .i64 (-1)) = w11 at HS11 HT11 HN11 ⊢
        refine (c65 HS11.out F2.out).mono ?_
        rintro e w12 ⟨rfl, R12, hS, hT⟩
        have HS12 := Lib.hid (hS)
        have HT12 := Lib.hid (HT11.out.trans hT)
        have HN12 := Lib.hid (HN11.out.to hT)
        clear hS hT HS11 HT11 HN11
        have hfd := run_text109 t.k t.at_ t.s
        have x1 : w12.cell? ⟨xb, 1, none⟩ = some (.string ⟨#[]⟩) := HN12.out.blk.cell 1
        have y1 := HN12.out.blk.frozen 1
        go_wp2_with fail
        clear x1 y1
        have hn := HN12.out.set 1 (.string t.s)
        simp only [sLA, sL0, sL1] at hn
        have HN13 := Lib.hid hn
        have HS13 := Lib.hid (HS12.out.far HN12.out 1 (.string t.s))
        have HT13 := Lib.hid (HT12.out.set (p := ⟨xb, 1, none⟩) (.inr HL.out) (.string t.s))
        clear hn HN12 HS12 HT12
        generalize w12.setCell ⟨xb, 1, none⟩ (.string t.s) = w13 at HS13 HT13 HN13 ⊢
        clear hfd
        refine (c104 HS13.out).mono ?_
        rintro e w14 ⟨rfl, hb⟩
        rw [B7.out]
        have HS14 := Lib.hid (HS13.out.below hb)
        have HT14 := Lib.hid (HT13.out.below hb)
        have HN14 := Lib.hid (HN13.out.next hb)
        clear hb HS13 HT13 HN13
        go_wp2_with fail
        refine (HA.out _ _ _ _ _ _ _ _ _ HS14.out F3.out).mono ?_
        rintro e w15 ⟨rfl, R15, hS, hT⟩
        have HS15 := Lib.hid (hS)
        have HT15 := Lib.hid (HT14.out.trans hT)
        have HN15 := Lib.hid (HN14.out.to hT)
        clear hS hT HS14 HT14 HN14
        have x4 : w15.cell? ⟨xb, 4, none⟩ = some (.int .i64 (-1)) := HN15.out.blk.cell 4
        have y4 := HN15.out.blk.frozen 4
        go_upto_region 40 with fail
        clear x4 y4
        have hn := HN15.out.set 4 (.int .i64 a)
        simp only [sLA, sL0, sL1] at hn
        have HN16 := Lib.hid hn
        have HS16 := Lib.hid (HS15.out.far HN15.out 4 (.int .i64 a))
        have HT16 := Lib.hid (HT15.out.set (p := ⟨xb, 4, none⟩) (.inr HL.out) (.int .i64 a))
        clear hn HN15 HS15 HT15
        generalize w15.setCell ⟨xb, 4, none⟩ (.int .i64 a) = w16 at HS16 HT16 HN16 ⊢
        have x0 : w16.cell? ⟨xb, 0, none⟩ = some (.int .i64 34) := HN16.out.blk.cell 0
        have y0 := HN16.out.blk.frozen 0
        have x1 : w16.cell? ⟨xb, 1, none⟩ = some (.string t.s) := HN16.out.blk.cell 1
        have y1 := HN16.out.blk.frozen 1
        have x2 : w16.cell? ⟨xb, 2, none⟩ = some (.string ⟨#[]⟩) := HN16.out.blk.cell 2
        have y2 := HN16.out.blk.frozen 2
        have x3 : w16.cell? ⟨xb, 3, none⟩ = some (.int .i64 0) := HN16.out.blk.cell 3
        have y3 := HN16.out.blk.frozen 3
        have x4 : w16.cell? ⟨xb, 4, none⟩ = some (.int .i64 a) := HN16.out.blk.cell 4
        have y4 := HN16.out.blk.frozen 4
        have x5 : w16.cell? ⟨xb, 5, none⟩ = some (.int .i64 0) := HN16.out.blk.cell 5
        have y5 := HN16.out.blk.frozen 5
        have x6 : w16.cell? ⟨xb, 6, none⟩ = some (.int .i64 0) := HN16.out.blk.cell 6
        have y6 := HN16.out.blk.frozen 6
        have x7 : w16.cell? ⟨xb, 7, none⟩ = some (.int .i64 (hereF S1)) := HN16.out.blk.cell 7
        have y7 := HN16.out.blk.frozen 7
        go_wp2_with fail
        clear x0 y0 x1 y1 x2 y2 x3 y3 x4 y4 x5 y5 x6 y6 x7 y7
        refine (c68 HS16.out F4.out).mono ?_
        rintro e w17 ⟨rfl, R17, hS, hT⟩
        have HS17 := Lib.hid (hS)
        have HT17 := Lib.hid (HT16.out.trans hT)
        have HN17 := Lib.hid (HN16.out.to hT)
        clear hS hT HS16 HT16 HN16
        go_wp2_with fail
        refine (c71 HS17.out F5.out).mono ?_
        rintro e w18 ⟨rfl, R18, hS, hT⟩
        have HS18 := Lib.hid (hS)
        have HT18 := Lib.hid (HT17.out.trans hT)
        have HN18 := Lib.hid (HN17.out.to hT)
        clear hS hT HS17 HT17 HN17
        go_wp2_with fail
        go_ret
        exact ⟨rfl, _, HS18.out, HT18.out⟩
      · obtain ⟨rfl, rfl⟩ := some2.1 f3
        clear f3
        have B6 := Lib.hid b6
        have B7 := Lib.hid b7
        have F2 := Lib.hid f2
        have F4 := Lib.hid f4
        have F5 := Lib.hid f5
        clear b6 b7 f2 f4 f5
        go_enter Tryd.func103, Tryd.ntmps103
        go_wp2_with fail
        refine (c69 HS0.out F1.out).mono ?_
        rintro e w1 ⟨rfl, R1, hS, hT⟩
        have HS1 := Lib.hid (hS)
        have HT1 := Lib.hid (HT0.out.trans hT)
        clear hS hT HS0 HT0 
        go_wp2_with fail
        refine (c48 HS1.out).mono ?_
        rintro e w2 ⟨rfl, hb⟩
        have HS2 := Lib.hid (HS1.out.below hb)
        have HT2 := Lib.hid (HT1.out.below hb)
        clear hb HS1 HT1 
        go_wp2_with fail
        have hbn := below_new w2 (.cells #[.int .i64 0, .string ⟨#[]⟩, .string ⟨#[]⟩, .int .i64 0, .int .i64 0, .int .i64 0, .int .i64 0, .int .i64 (hereF S1)] 30)
        have HN3 := Lib.hid (HS2.out.new 30 #[.int .i64 0, .string ⟨#[]⟩, .string ⟨#[]⟩, .int .i64 0, .int .i64 0, .int .i64 0, .int .i64 0, .int .i64 (hereF S1)])
        have HS3 := Lib.hid (HS2.out.below hbn)
        have HT3 := Lib.hid (HT2.out.below hbn)
        have HL := Lib.hid HT2.out.size
        clear hbn HS2 HT2
        go_upto_region 6 with fail
        generalize w2.alloc (.cells #[.int .i64 0, .string ⟨#[]⟩, .string ⟨#[]⟩, .int .i64 0, .int .i64 0, .int .i64 0, .int .i64 0, .int .i64 (hereF S1)] 30) = w3 at HS3 HT3 HN3 ⊢
        generalize w2.heap.size = xb at HN3 HL ⊢
        go_wp2_with fail
        refine (c67 sUnd HS3.out).mono ?_
        rintro e w4 ⟨rfl, hb⟩
        rw [B1.out]
        have HS4 := Lib.hid (HS3.out.below hb)
        have HT4 := Lib.hid (HT3.out.below hb)
        have HN4 := Lib.hid (HN3.out.next hb)
        clear hb HS3 HT3 HN3
        go_wp2_with fail
        refine (c64 3 sE HS4.out).mono ?_
        rintro e w5 ⟨rfl, hb⟩
        rw [B2.out]
        have HS5 := Lib.hid (HS4.out.below hb)
        have HT5 := Lib.hid (HT4.out.below hb)
        have HN5 := Lib.hid (HN4.out.next hb)
        clear hb HS4 HT4 HN4
        go_wp2_with fail
        refine (c67 sMinus HS5.out).mono ?_
        rintro e w6 ⟨rfl, hb⟩
        rw [B3.out]
        have HS6 := Lib.hid (HS5.out.below hb)
        have HT6 := Lib.hid (HT5.out.below hb)
        have HN6 := Lib.hid (HN5.out.next hb)
        clear hb HS5 HT5 HN5
        go_wp2_with fail
        refine (c44 sTrue HS6.out).mono ?_
        rintro e w7 ⟨rfl, hb⟩
        rw [B4.out]
        have HS7 := Lib.hid (HS6.out.below hb)
        have HT7 := Lib.hid (HT6.out.below hb)
        have HN7 := Lib.hid (HN6.out.next hb)
        clear hb HS6 HT6 HN6
        go_wp2_with fail
        refine (c44 sFalse HS7.out).mono ?_
        rintro e w8 ⟨rfl, hb⟩
        rw [B5.out]
        have HS8 := Lib.hid (HS7.out.below hb)
        have HT8 := Lib.hid (HT7.out.below hb)
        have HN8 := Lib.hid (HN7.out.next hb)
        clear hb HS7 HT7 HN7
        go_wp2_with fail
        refine (c64 2 sE HS8.out).mono ?_
        rintro e w9 ⟨rfl, hb⟩
        rw [B6.out]
        have HS9 := Lib.hid (HS8.out.below hb)
        have HT9 := Lib.hid (HT8.out.below hb)
        have HN9 := Lib.hid (HN8.out.next hb)
        clear hb HS8 HT8 HN8
        have x0 : w9.cell? ⟨xb, 0, none⟩ = some (.int .i64 0) := HN9.out.blk.cell 0
        have y0 := HN9.out.blk.frozen 0
        have x4 : w9.cell? ⟨xb, 4, none⟩ = some (.int .i64 0) := HN9.out.blk.cell 4
        have y4 := HN9.out.blk.frozen 4
        go_wp2_with fail
        clear x0 y0 x4 y4
        have hn := HN9.out.set 0 (.int .i64 34)
        simp only [sLA, sL0, sL1] at hn
        have HN10 := Lib.hid hn
        have HS10 := Lib.hid (HS9.out.far HN9.out 0 (.int .i64 34))
        have HT10 := Lib.hid (HT9.out.set (p := ⟨xb, 0, none⟩) (.inr HL.out) (.int .i64 34))
        clear hn HN9 HS9 HT9
        generalize w9.setCell ⟨xb, 0, none⟩ (.int .i64 34) = w10 at HS10 HT10 HN10 ⊢
        have hn := HN10.out.set 4 (.int .i64 (-1))
        simp only [sLA, sL0, sL1] at hn
        have HN11 := Lib.hid hn
        have HS11 := Lib.hid (HS10.out.far HN10.out 4 (.int .i64 (-1)))
        have HT11 := Lib.hid (HT10.out.set (p := ⟨xb, 4, none⟩) (.inr HL.out) (.int .i64 (-1)))
        clear hn HN10 HS10 HT10
        generalize w10.setCell ⟨xb, 4, none⟩ (.int .i64 (-1)) = w11 at HS11 HT11 HN11 ⊢
        refine (c65 HS11.out F2.out).mono ?_
        rintro e w12 ⟨rfl, R12, hS, hT⟩
        have HS12 := Lib.hid (hS)
        have HT12 := Lib.hid (HT11.out.trans hT)
        have HN12 := Lib.hid (HN11.out.to hT)
        clear hS hT HS11 HT11 HN11
        have hfd := run_text109 t.k t.at_ t.s
        have x1 : w12.cell? ⟨xb, 1, none⟩ = some (.string ⟨#[]⟩) := HN12.out.blk.cell 1
        have y1 := HN12.out.blk.frozen 1
        go_wp2_with fail
        clear x1 y1
        have hn := HN12.out.set 1 (.string t.s)
        simp only [sLA, sL0, sL1] at hn
        have HN13 := Lib.hid hn
        have HS13 := Lib.hid (HS12.out.far HN12.out 1 (.string t.s))
        have HT13 := Lib.hid (HT12.out.set (p := ⟨xb, 1, none⟩) (.inr HL.out) (.string t.s))
        clear hn HN12 HS12 HT12
        generalize w12.setCell ⟨xb, 1, none⟩ (.string t.s) = w13 at HS13 HT13 HN13 ⊢
        clear hfd
        refine (c104 HS13.out).mono ?_
        rintro e w14 ⟨rfl, hb⟩
        rw [B7.out]
        have HS14 := Lib.hid (HS13.out.below hb)
        have HT14 := Lib.hid (HT13.out.below hb)
        have HN14 := Lib.hid (HN13.out.next hb)
        clear hb HS13 HT13 HN13
        go_upto_region 40 with fail
        have x0 : w14.cell? ⟨xb, 0, none⟩ = some (.int .i64 34) := HN14.out.blk.cell 0
        have y0 := HN14.out.blk.frozen 0
        have x1 : w14.cell? ⟨xb, 1, none⟩ = some (.string t.s) := HN14.out.blk.cell 1
        have y1 := HN14.out.blk.frozen 1
        have x2 : w14.cell? ⟨xb, 2, none⟩ = some (.string ⟨#[]⟩) := HN14.out.blk.cell 2
        have y2 := HN14.out.blk.frozen 2
        have x3 : w14.cell? ⟨xb, 3, none⟩ = some (.int .i64 0) := HN14.out.blk.cell 3
        have y3 := HN14.out.blk.frozen 3
        have x4 : w14.cell? ⟨xb, 4, none⟩ = some (.int .i64 (-1)) := HN14.out.blk.cell 4
        have y4 := HN14.out.blk.frozen 4
        have x5 : w14.cell? ⟨xb, 5, none⟩ = some (.int .i64 0) := HN14.out.blk.cell 5
        have y5 := HN14.out.blk.frozen 5
        have x6 : w14.cell? ⟨xb, 6, none⟩ = some (.int .i64 0) := HN14.out.blk.cell 6
        have y6 := HN14.out.blk.frozen 6
        have x7 : w14.cell? ⟨xb, 7, none⟩ = some (.int .i64 (hereF S1)) := HN14.out.blk.cell 7
        have y7 := HN14.out.blk.frozen 7
        go_wp2_with fail
        clear x0 y0 x1 y1 x2 y2 x3 y3 x4 y4 x5 y5 x6 y6 x7 y7
        refine (c68 HS14.out F4.out).mono ?_
        rintro e w15 ⟨rfl, R15, hS, hT⟩
        have HS15 := Lib.hid (hS)
        have HT15 := Lib.hid (HT14.out.trans hT)
        have HN15 := Lib.hid (HN14.out.to hT)
        clear hS hT HS14 HT14 HN14
        go_wp2_with fail
        refine (c71 HS15.out F5.out).mono ?_
        rintro e w16 ⟨rfl, R16, hS, hT⟩
        have HS16 := Lib.hid (hS)
        have HT16 := Lib.hid (HT15.out.trans hT)
        have HN16 := Lib.hid (HN15.out.to hT)
        clear hS hT HS15 HT15 HN15
        go_wp2_with fail
        go_ret
        exact ⟨rfl, _, HS16.out, HT16.out⟩
    · have B6 := Lib.hid b6
      have B7 := Lib.hid b7
      have B8 := Lib.hid b8
      have B9 := Lib.hid b9
      have B10 := Lib.hid b10
      have F2 := Lib.hid f2
      have F3 := Lib.hid f3
      have F4 := Lib.hid f4
      have F5 := Lib.hid f5
      have F6 := Lib.hid f6
      have F7 := Lib.hid f7
      have F8 := Lib.hid f8
      clear b6 b7 b8 b9 b10 f2 f3 f4 f5 f6 f7 f8
      go_enter Tryd.func103, Tryd.ntmps103
      go_wp2_with fail
      refine (c69 HS0.out F1.out).mono ?_
      rintro e w1 ⟨rfl, R1, hS, hT⟩
      have HS1 := Lib.hid (hS)
      have HT1 := Lib.hid (HT0.out.trans hT)
      clear hS hT HS0 HT0 
      go_wp2_with fail
      refine (c48 HS1.out).mono ?_
      rintro e w2 ⟨rfl, hb⟩
      have HS2 := Lib.hid (HS1.out.below hb)
      have HT2 := Lib.hid (HT1.out.below hb)
      clear hb HS1 HT1 
      go_wp2_with fail
      have hbn := below_new w2 (.cells #[.int .i64 0, .string ⟨#[]⟩, .string ⟨#[]⟩, .int .i64 0, .int .i64 0, .int .i64 0, .int .i64 0, .int .i64 (hereF S1)] 30)
      have HN3 := Lib.hid (HS2.out.new 30 #[.int .i64 0, .string ⟨#[]⟩, .string ⟨#[]⟩, .int .i64 0, .int .i64 0, .int .i64 0, .int .i64 0, .int .i64 (hereF S1)])
      have HS3 := Lib.hid (HS2.out.below hbn)
      have HT3 := Lib.hid (HT2.out.below hbn)
      have HL := Lib.hid HT2.out.size
      clear hbn HS2 HT2
      go_upto_region 6 with fail
      generalize w2.alloc (.cells #[.int .i64 0, .string ⟨#[]⟩, .string ⟨#[]⟩, .int .i64 0, .int .i64 0, .int .i64 0, .int .i64 0, .int .i64 (hereF S1)] 30) = w3 at HS3 HT3 HN3 ⊢
      generalize w2.heap.size = xb at HN3 HL ⊢
      go_wp2_with fail
      refine (c67 sUnd HS3.out).mono ?_
      rintro e w4 ⟨rfl, hb⟩
      rw [B1.out]
      have HS4 := Lib.hid (HS3.out.below hb)
      have HT4 := Lib.hid (HT3.out.below hb)
      have HN4 := Lib.hid (HN3.out.next hb)
      clear hb HS3 HT3 HN3
      go_wp2_with fail
      refine (c64 3 sE HS4.out).mono ?_
      rintro e w5 ⟨rfl, hb⟩
      rw [B2.out]
      have HS5 := Lib.hid (HS4.out.below hb)
      have HT5 := Lib.hid (HT4.out.below hb)
      have HN5 := Lib.hid (HN4.out.next hb)
      clear hb HS4 HT4 HN4
      go_wp2_with fail
      refine (c67 sMinus HS5.out).mono ?_
      rintro e w6 ⟨rfl, hb⟩
      rw [B3.out]
      have HS6 := Lib.hid (HS5.out.below hb)
      have HT6 := Lib.hid (HT5.out.below hb)
      have HN6 := Lib.hid (HN5.out.next hb)
      clear hb HS5 HT5 HN5
      go_wp2_with fail
      refine (c44 sTrue HS6.out).mono ?_
      rintro e w7 ⟨rfl, hb⟩
      rw [B4.out]
      have HS7 := Lib.hid (HS6.out.below hb)
      have HT7 := Lib.hid (HT6.out.below hb)
      have HN7 := Lib.hid (HN6.out.next hb)
      clear hb HS6 HT6 HN6
      go_wp2_with fail
      refine (c44 sFalse HS7.out).mono ?_
      rintro e w8 ⟨rfl, hb⟩
      rw [B5.out]
      have HS8 := Lib.hid (HS7.out.below hb)
      have HT8 := Lib.hid (HT7.out.below hb)
      have HN8 := Lib.hid (HN7.out.next hb)
      clear hb HS7 HT7 HN7
      go_wp2_with fail
      refine (c64 2 sE HS8.out).mono ?_
      rintro e w9 ⟨rfl, hb⟩
      rw [B6.out]
      have HS9 := Lib.hid (HS8.out.below hb)
      have HT9 := Lib.hid (HT8.out.below hb)
      have HN9 := Lib.hid (HN8.out.next hb)
      clear hb HS8 HT8 HN8
      go_wp2_with fail
      refine (c67 sLb HS9.out).mono ?_
      rintro e w10 ⟨rfl, hb⟩
      rw [B7.out]
      have HS10 := Lib.hid (HS9.out.below hb)
      have HT10 := Lib.hid (HT9.out.below hb)
      have HN10 := Lib.hid (HN9.out.next hb)
      clear hb HS9 HT9 HN9
      go_wp2_with fail
      refine (c67 sLp HS10.out).mono ?_
      rintro e w11 ⟨rfl, hb⟩
      rw [B8.out]
      have HS11 := Lib.hid (HS10.out.below hb)
      have HT11 := Lib.hid (HT10.out.below hb)
      have HN11 := Lib.hid (HN10.out.next hb)
      clear hb HS10 HT10 HN10
      go_wp2_with fail
      refine (c65 HS11.out F2.out).mono ?_
      rintro e w12 ⟨rfl, R12, hS, hT⟩
      have HS12 := Lib.hid (hS)
      have HT12 := Lib.hid (HT11.out.trans hT)
      have HN12 := Lib.hid (HN11.out.to hT)
      clear hS hT HS11 HT11 HN11
      go_wp2_with fail
      refine (c67 sRp HS12.out).mono ?_
      rintro e w13 ⟨rfl, hb⟩
      rw [B9.out]
      have HS13 := Lib.hid (HS12.out.below hb)
      have HT13 := Lib.hid (HT12.out.below hb)
      have HN13 := Lib.hid (HN12.out.next hb)
      clear hb HS12 HT12 HN12
      go_wp2_with fail
      refine (HB.out _ _ _ _ _ _ _ _ _ HS13.out F3.out).mono ?_
      rintro e w14 ⟨rfl, R14, hS, hT⟩
      have HS14 := Lib.hid (hS)
      have HT14 := Lib.hid (HT13.out.trans hT)
      have HN14 := Lib.hid (HN13.out.to hT)
      clear hS hT HS13 HT13 HN13
      go_wp2_with fail
      refine (c67 sComma HS14.out).mono ?_
      rintro e w15 ⟨rfl, hb⟩
      rw [B10.out]
      have HS15 := Lib.hid (HS14.out.below hb)
      have HT15 := Lib.hid (HT14.out.below hb)
      have HN15 := Lib.hid (HN14.out.next hb)
      clear hb HS14 HT14 HN14
      go_wp2_with fail
      refine (c65 HS15.out F4.out).mono ?_
      rintro e w16 ⟨rfl, R16, hS, hT⟩
      have HS16 := Lib.hid (hS)
      have HT16 := Lib.hid (HT15.out.trans hT)
      have HN16 := Lib.hid (HN15.out.to hT)
      clear hS hT HS15 HT15 HN15
      go_wp2_with fail
      refine (HB.out _ _ _ _ _ _ _ _ _ HS16.out F5.out).mono ?_
      rintro e w17 ⟨rfl, R17, hS, hT⟩
      have HS17 := Lib.hid (hS)
      have HT17 := Lib.hid (HT16.out.trans hT)
      have HN17 := Lib.hid (HN16.out.to hT)
      clear hS hT HS16 HT16 HN16
      have x0 : w17.cell? ⟨xb, 0, none⟩ = some (.int .i64 0) := HN17.out.blk.cell 0
      have y0 := HN17.out.blk.frozen 0
      have x4 : w17.cell? ⟨xb, 4, none⟩ = some (.int .i64 0) := HN17.out.blk.cell 4
      have y4 := HN17.out.blk.frozen 4
      have x5 : w17.cell? ⟨xb, 5, none⟩ = some (.int .i64 0) := HN17.out.blk.cell 5
      have y5 := HN17.out.blk.frozen 5
      go_wp2_with fail
      clear x0 y0 x4 y4 x5 y5
      have hn := HN17.out.set 0 (.int .i64 33)
      simp only [sLA, sL0, sL1] at hn
      have HN18 := Lib.hid hn
      have HS18 := Lib.hid (HS17.out.far HN17.out 0 (.int .i64 33))
      have HT18 := Lib.hid (HT17.out.set (p := ⟨xb, 0, none⟩) (.inr HL.out) (.int .i64 33))
      clear hn HN17 HS17 HT17
      generalize w17.setCell ⟨xb, 0, none⟩ (.int .i64 33) = w18 at HS18 HT18 HN18 ⊢
      have hn := HN18.out.set 4 (.int .i64 a)
      simp only [sLA, sL0, sL1] at hn
      have HN19 := Lib.hid hn
      have HS19 := Lib.hid (HS18.out.far HN18.out 4 (.int .i64 a))
      have HT19 := Lib.hid (HT18.out.set (p := ⟨xb, 4, none⟩) (.inr HL.out) (.int .i64 a))
      clear hn HN18 HS18 HT18
      generalize w18.setCell ⟨xb, 4, none⟩ (.int .i64 a) = w19 at HS19 HT19 HN19 ⊢
      have hn := HN19.out.set 5 (.int .i64 b)
      simp only [sLA, sL0, sL1] at hn
      have HN20 := Lib.hid hn
      have HS20 := Lib.hid (HS19.out.far HN19.out 5 (.int .i64 b))
      have HT20 := Lib.hid (HT19.out.set (p := ⟨xb, 5, none⟩) (.inr HL.out) (.int .i64 b))
      clear hn HN19 HS19 HT19
      generalize w19.setCell ⟨xb, 5, none⟩ (.int .i64 b) = w20 at HS20 HT20 HN20 ⊢
      refine (c65 HS20.out F6.out).mono ?_
      rintro e w21 ⟨rfl, R21, hS, hT⟩
      have HS21 := Lib.hid (hS)
      have HT21 := Lib.hid (HT20.out.trans hT)
      have HN21 := Lib.hid (HN20.out.to hT)
      clear hS hT HS20 HT20 HN20
      have x0 : w21.cell? ⟨xb, 0, none⟩ = some (.int .i64 33) := HN21.out.blk.cell 0
      have y0 := HN21.out.blk.frozen 0
      have x1 : w21.cell? ⟨xb, 1, none⟩ = some (.string ⟨#[]⟩) := HN21.out.blk.cell 1
      have y1 := HN21.out.blk.frozen 1
      have x2 : w21.cell? ⟨xb, 2, none⟩ = some (.string ⟨#[]⟩) := HN21.out.blk.cell 2
      have y2 := HN21.out.blk.frozen 2
      have x3 : w21.cell? ⟨xb, 3, none⟩ = some (.int .i64 0) := HN21.out.blk.cell 3
      have y3 := HN21.out.blk.frozen 3
      have x4 : w21.cell? ⟨xb, 4, none⟩ = some (.int .i64 a) := HN21.out.blk.cell 4
      have y4 := HN21.out.blk.frozen 4
      have x5 : w21.cell? ⟨xb, 5, none⟩ = some (.int .i64 b) := HN21.out.blk.cell 5
      have y5 := HN21.out.blk.frozen 5
      have x6 : w21.cell? ⟨xb, 6, none⟩ = some (.int .i64 0) := HN21.out.blk.cell 6
      have y6 := HN21.out.blk.frozen 6
      have x7 : w21.cell? ⟨xb, 7, none⟩ = some (.int .i64 (hereF S1)) := HN21.out.blk.cell 7
      have y7 := HN21.out.blk.frozen 7
      go_wp2_with fail
      clear x0 y0 x1 y1 x2 y2 x3 y3 x4 y4 x5 y5 x6 y6 x7 y7
      refine (c68 HS21.out F7.out).mono ?_
      rintro e w22 ⟨rfl, R22, hS, hT⟩
      have HS22 := Lib.hid (hS)
      have HT22 := Lib.hid (HT21.out.trans hT)
      have HN22 := Lib.hid (HN21.out.to hT)
      clear hS hT HS21 HT21 HN21
      go_wp2_with fail
      refine (c71 HS22.out F8.out).mono ?_
      rintro e w23 ⟨rfl, R23, hS, hT⟩
      have HS23 := Lib.hid (hS)
      have HT23 := Lib.hid (HT22.out.trans hT)
      have HN23 := Lib.hid (HN22.out.to hT)
      clear hS hT HS22 HT22 HN22
      go_wp2_with fail
      go_ret
      exact ⟨rfl, _, HS23.out, HT23.out⟩
    · have B6 := Lib.hid b6
      have B7 := Lib.hid b7
      have B8 := Lib.hid b8
      have F2 := Lib.hid f2
      have F3 := Lib.hid f3
      have F4 := Lib.hid f4
      clear b6 b7 b8 f2 f3 f4
      go_enter Tryd.func103, Tryd.ntmps103
      go_wp2_with fail
      refine (c69 HS0.out F1.out).mono ?_
      rintro e w1 ⟨rfl, R1, hS, hT⟩
      have HS1 := Lib.hid (hS)
      have HT1 := Lib.hid (HT0.out.trans hT)
      clear hS hT HS0 HT0 
      go_wp2_with fail
      refine (c48 HS1.out).mono ?_
      rintro e w2 ⟨rfl, hb⟩
      have HS2 := Lib.hid (HS1.out.below hb)
      have HT2 := Lib.hid (HT1.out.below hb)
      clear hb HS1 HT1 
      go_wp2_with fail
      have hbn := below_new w2 (.cells #[.int .i64 0, .string ⟨#[]⟩, .string ⟨#[]⟩, .int .i64 0, .int .i64 0, .int .i64 0, .int .i64 0, .int .i64 (hereF S1)] 30)
      have HN3 := Lib.hid (HS2.out.new 30 #[.int .i64 0, .string ⟨#[]⟩, .string ⟨#[]⟩, .int .i64 0, .int .i64 0, .int .i64 0, .int .i64 0, .int .i64 (hereF S1)])
      have HS3 := Lib.hid (HS2.out.below hbn)
      have HT3 := Lib.hid (HT2.out.below hbn)
      have HL := Lib.hid HT2.out.size
      clear hbn HS2 HT2
      go_upto_region 6 with fail
      generalize w2.alloc (.cells #[.int .i64 0, .string ⟨#[]⟩, .string ⟨#[]⟩, .int .i64 0, .int .i64 0, .int .i64 0, .int .i64 0, .int .i64 (hereF S1)] 30) = w3 at HS3 HT3 HN3 ⊢
      generalize w2.heap.size = xb at HN3 HL ⊢
      go_wp2_with fail
      refine (c67 sUnd HS3.out).mono ?_
      rintro e w4 ⟨rfl, hb⟩
      rw [B1.out]
      have HS4 := Lib.hid (HS3.out.below hb)
      have HT4 := Lib.hid (HT3.out.below hb)
      have HN4 := Lib.hid (HN3.out.next hb)
      clear hb HS3 HT3 HN3
      go_wp2_with fail
      refine (c64 3 sE HS4.out).mono ?_
      rintro e w5 ⟨rfl, hb⟩
      rw [B2.out]
      have HS5 := Lib.hid (HS4.out.below hb)
      have HT5 := Lib.hid (HT4.out.below hb)
      have HN5 := Lib.hid (HN4.out.next hb)
      clear hb HS4 HT4 HN4
      go_wp2_with fail
      refine (c67 sMinus HS5.out).mono ?_
      rintro e w6 ⟨rfl, hb⟩
      rw [B3.out]
      have HS6 := Lib.hid (HS5.out.below hb)
      have HT6 := Lib.hid (HT5.out.below hb)
      have HN6 := Lib.hid (HN5.out.next hb)
      clear hb HS5 HT5 HN5
      go_wp2_with fail
      refine (c44 sTrue HS6.out).mono ?_
      rintro e w7 ⟨rfl, hb⟩
      rw [B4.out]
      have HS7 := Lib.hid (HS6.out.below hb)
      have HT7 := Lib.hid (HT6.out.below hb)
      have HN7 := Lib.hid (HN6.out.next hb)
      clear hb HS6 HT6 HN6
      go_wp2_with fail
      refine (c44 sFalse HS7.out).mono ?_
      rintro e w8 ⟨rfl, hb⟩
      rw [B5.out]
      have HS8 := Lib.hid (HS7.out.below hb)
      have HT8 := Lib.hid (HT7.out.below hb)
      have HN8 := Lib.hid (HN7.out.next hb)
      clear hb HS7 HT7 HN7
      go_wp2_with fail
      refine (c64 2 sE HS8.out).mono ?_
      rintro e w9 ⟨rfl, hb⟩
      rw [B6.out]
      have HS9 := Lib.hid (HS8.out.below hb)
      have HT9 := Lib.hid (HT8.out.below hb)
      have HN9 := Lib.hid (HN8.out.next hb)
      clear hb HS8 HT8 HN8
      go_wp2_with fail
      refine (c67 sLb HS9.out).mono ?_
      rintro e w10 ⟨rfl, hb⟩
      rw [B7.out]
      have HS10 := Lib.hid (HS9.out.below hb)
      have HT10 := Lib.hid (HT9.out.below hb)
      have HN10 := Lib.hid (HN9.out.next hb)
      clear hb HS9 HT9 HN9
      go_wp2_with fail
      refine (c67 sLp HS10.out).mono ?_
      rintro e w11 ⟨rfl, hb⟩
      rw [B8.out]
      have HS11 := Lib.hid (HS10.out.below hb)
      have HT11 := Lib.hid (HT10.out.below hb)
      have HN11 := Lib.hid (HN10.out.next hb)
      clear hb HS10 HT10 HN10
      go_wp2_with fail
      refine (c65 HS11.out F2.out).mono ?_
      rintro e w12 ⟨rfl, R12, hS, hT⟩
      have HS12 := Lib.hid (hS)
      have HT12 := Lib.hid (HT11.out.trans hT)
      have HN12 := Lib.hid (HN11.out.to hT)
      clear hS hT HS11 HT11 HN11
      have hfd := run_text109 t.k t.at_ t.s
      have x0 : w12.cell? ⟨xb, 0, none⟩ = some (.int .i64 0) := HN12.out.blk.cell 0
      have y0 := HN12.out.blk.frozen 0
      have x1 : w12.cell? ⟨xb, 1, none⟩ = some (.string ⟨#[]⟩) := HN12.out.blk.cell 1
      have y1 := HN12.out.blk.frozen 1
      go_upto_region 40 with fail
      clear x0 y0 x1 y1
      have hn := HN12.out.set 0 (.int .i64 27)
      simp only [sLA, sL0, sL1] at hn
      have HN13 := Lib.hid hn
      have HS13 := Lib.hid (HS12.out.far HN12.out 0 (.int .i64 27))
      have HT13 := Lib.hid (HT12.out.set (p := ⟨xb, 0, none⟩) (.inr HL.out) (.int .i64 27))
      clear hn HN12 HS12 HT12
      generalize w12.setCell ⟨xb, 0, none⟩ (.int .i64 27) = w13 at HS13 HT13 HN13 ⊢
      have hn := HN13.out.set 1 (.string t.s)
      simp only [sLA, sL0, sL1] at hn
      have HN14 := Lib.hid hn
      have HS14 := Lib.hid (HS13.out.far HN13.out 1 (.string t.s))
      have HT14 := Lib.hid (HT13.out.set (p := ⟨xb, 1, none⟩) (.inr HL.out) (.string t.s))
      clear hn HN13 HS13 HT13
      generalize w13.setCell ⟨xb, 1, none⟩ (.string t.s) = w14 at HS14 HT14 HN14 ⊢
      clear hfd
      have x0 : w14.cell? ⟨xb, 0, none⟩ = some (.int .i64 27) := HN14.out.blk.cell 0
      have y0 := HN14.out.blk.frozen 0
      have x1 : w14.cell? ⟨xb, 1, none⟩ = some (.string t.s) := HN14.out.blk.cell 1
      have y1 := HN14.out.blk.frozen 1
      have x2 : w14.cell? ⟨xb, 2, none⟩ = some (.string ⟨#[]⟩) := HN14.out.blk.cell 2
      have y2 := HN14.out.blk.frozen 2
      have x3 : w14.cell? ⟨xb, 3, none⟩ = some (.int .i64 0) := HN14.out.blk.cell 3
      have y3 := HN14.out.blk.frozen 3
      have x4 : w14.cell? ⟨xb, 4, none⟩ = some (.int .i64 0) := HN14.out.blk.cell 4
      have y4 := HN14.out.blk.frozen 4
      have x5 : w14.cell? ⟨xb, 5, none⟩ = some (.int .i64 0) := HN14.out.blk.cell 5
      have y5 := HN14.out.blk.frozen 5
      have x6 : w14.cell? ⟨xb, 6, none⟩ = some (.int .i64 0) := HN14.out.blk.cell 6
      have y6 := HN14.out.blk.frozen 6
      have x7 : w14.cell? ⟨xb, 7, none⟩ = some (.int .i64 (hereF S1)) := HN14.out.blk.cell 7
      have y7 := HN14.out.blk.frozen 7
      go_wp2_with fail
      clear x0 y0 x1 y1 x2 y2 x3 y3 x4 y4 x5 y5 x6 y6 x7 y7
      refine (c68 HS14.out F3.out).mono ?_
      rintro e w15 ⟨rfl, R15, hS, hT⟩
      have HS15 := Lib.hid (hS)
      have HT15 := Lib.hid (HT14.out.trans hT)
      have HN15 := Lib.hid (HN14.out.to hT)
      clear hS hT HS14 HT14 HN14
      go_wp2_with fail
      refine (c71 HS15.out F4.out).mono ?_
      rintro e w16 ⟨rfl, R16, hS, hT⟩
      have HS16 := Lib.hid (hS)
      have HT16 := Lib.hid (HT15.out.trans hT)
      have HN16 := Lib.hid (HN15.out.to hT)
      clear hS hT HS15 HT15 HN15
      go_wp2_with fail
      go_ret
      exact ⟨rfl, _, HS16.out, HT16.out⟩
def slN : Value → Nat | .slice _ n _ => n | _ => 0
section
variable {ex : Rd → Option (Rd × Int)}
set_option maxRecDepth 100000 in
set_option maxHeartbeats 8000000 in
theorem c100 (hE : Spec 46 ex) : Spec 100 (matchF ex) := by
  intro B AL cL g S S' r R w h hf
  simp only [matchF, Option.bind_eq_bind, Option.bind_eq_some_iff, Prod.exists, ifo, req_some, and2, notf, some2] at hf
  have HE := Lib.hid hE
  have HP := Lib.hid (show Spec 102 patF from c102 (c103 10))
  have HS0 := Lib.hid h
  have HT0 := Lib.hid (To.refl g R w)
  have HBB := Lib.hid h.size
  have HSL := Lib.hid h.len
  clear h hE
  obtain ⟨i30, fi30, hz0, hz1, hz2⟩ := info_parts node_info
  have H30 := Lib.hid (show i30.zero = some (.agg #[.int .i64 0, .string ⟨#[]⟩, .string ⟨#[]⟩, .int .i64 0, .int .i64 0, .int .i64 0, .int .i64 0, .int .i64 0]) ∧ i30.size = 8 ∧ i30.bytes = 80 from ⟨hz0, hz1, hz2⟩)
  clear hz0 hz1 hz2
  dsimp only [ptr]
  obtain ⟨S1, _, f1, S2, a, f2, S3, _, f3, S4, acc, f4, S5, _, f5, S6, nx, f6, f7⟩ := hf
  have F1 := Lib.hid f1
  have F2 := Lib.hid f2
  have F3 := Lib.hid f3
  have F4 := Lib.hid f4
  have F5 := Lib.hid f5
  have F6 := Lib.hid f6
  have F7 := Lib.hid f7
  clear f1 f2 f3 f4 f5 f6 f7
  go_enter Tryd.func100, Tryd.ntmps100
  go_wp2_with fail
  refine (c48 HS0.out).mono ?_
  rintro e w1 ⟨rfl, hb⟩
  have HS1 := Lib.hid (HS0.out.below hb)
  have HT1 := Lib.hid (HT0.out.below hb)
  clear hb HS0 HT0 
  go_wp2_with fail
  refine (c65 HS1.out F1.out).mono ?_
  rintro e w2 ⟨rfl, R2, hS, hT⟩
  have HS2 := Lib.hid (hS)
  have HT2 := Lib.hid (HT1.out.trans hT)
  clear hS hT HS1 HT1 
  go_wp2_with fail
  refine (HE.out _ _ _ _ _ _ _ _ _ HS2.out F2.out).mono ?_
  rintro e w3 ⟨rfl, R3, hS, hT⟩
  have HS3 := Lib.hid (hS)
  have HT3 := Lib.hid (HT2.out.trans hT)
  clear hS hT HS2 HT2 
  go_wp2_with fail
  refine (c65 HS3.out F3.out).mono ?_
  rintro e w4 ⟨rfl, R4, hS, hT⟩
  have HS4 := Lib.hid (hS)
  have HT4 := Lib.hid (HT3.out.trans hT)
  clear hS hT HS3 HT3 
  go_wp2_with fail
  go_loopw [5] (fun v wr => ∃ (n : Nat) (Si : Rd) (l : List Nod) (Ri : Rw) (A : Option Addr) (c : Nat), n + l.length = 2 ∧ v = .slice A l.length c ∧ RdSt B AL cL g Si Ri wr ∧ To g R w Ri wr ∧ Lr w.heap.size Ri wr A c l ∧ clLoopF ex n Si l = some (S4, acc)) (fun v _ => 2 - slN v)
  case atStart => exact ⟨2, _, [], _, none, 0, rfl, rfl, HS4.out, HT4.out, Lr.nil _ _ _, F4.out⟩
  case round =>
    obtain ⟨n, Si, l, Ri, A, c, hn, rfl, hS, hT, hQ, hf4⟩ := hrel
    obtain ⟨w20, rfl⟩ : ∃ z : World, z = wr := ⟨_, rfl⟩
    have HS20 := Lib.hid hS
    have HT20 := Lib.hid hT
    have HQ20 := Lib.hid hQ
    have HN := Lib.hid hn
    have HLL := Lib.hid (show l.length ≤ 2 by omega)
    clear hS hT hQ hn F4 HS4 HT4
    cases n with
    | zero => cases hf4
    | succ n =>
      simp only [clLoopF, Option.bind_eq_bind, Option.bind_eq_some_iff, Prod.exists, ifo, req_some, and2, notf, some2] at hf4
      obtain ⟨T1, a1, t1, T2, _, t2, T3, b1, t3, hf4⟩ := hf4
      have T1 := Lib.hid t1
      have T2 := Lib.hid t2
      have T3 := Lib.hid t3
      clear t1 t2 t3
      have g7 := HS20.out.g7
      go_wp2_with fail
      clear g7
      refine (c48 HS20.out).mono ?_
      rintro e w21 ⟨rfl, hb⟩
      have HS21 := Lib.hid (HS20.out.below hb)
      have HT21 := Lib.hid (HT20.out.below hb)
      have HQ21 := Lib.hid (HQ20.out.next hb)
      clear hb HS20 HT20 HQ20
      have hbn := below_new w21 (.cells #[.int .i64 19, .string ⟨#[]⟩, .string ⟨#[]⟩, .int .i64 0, .int .i64 0, .int .i64 0, .int .i64 0, .int .i64 (hereF Si)] 30)
      have HN22 := Lib.hid (HS21.out.new 30 #[.int .i64 19, .string ⟨#[]⟩, .string ⟨#[]⟩, .int .i64 0, .int .i64 0, .int .i64 0, .int .i64 0, .int .i64 (hereF Si)])
      have HS22 := Lib.hid (HS21.out.below hbn)
      have HT22 := Lib.hid (HT21.out.below hbn)
      have HQ22 := Lib.hid (HQ21.out.next hbn)
      have HF := Lib.hid (HQ21.out.fresh (Nat.le_refl _))
      have HL := Lib.hid HT21.out.size
      clear hbn HS21 HT21 HQ21
      go_upto_region 8 with fail
      generalize w21.alloc (.cells #[.int .i64 19, .string ⟨#[]⟩, .string ⟨#[]⟩, .int .i64 0, .int .i64 0, .int .i64 0, .int .i64 0, .int .i64 (hereF Si)] 30) = w22 at HS22 HT22 HN22 HQ22 ⊢
      generalize w21.heap.size = xb at HN22 HF HL ⊢
      go_wp2_with fail
      refine (HP.out _ _ _ _ _ _ _ _ _ HS22.out T1.out).mono ?_
      rintro e w23 ⟨rfl, R23, hS, hT⟩
      have HS23 := Lib.hid (hS)
      have HT23 := Lib.hid (HT22.out.trans hT)
      have HN23 := Lib.hid (HN22.out.to hT)
      have HQ23 := Lib.hid (HQ22.out.to HS22.out hT)
      clear hS hT HS22 HT22 HN22 HQ22
      have x4 : w23.cell? ⟨xb, 4, none⟩ = some (.int .i64 0) := HN23.out.blk.cell 4
      have y4 := HN23.out.blk.frozen 4
      go_upto_region 9 with fail
      clear x4 y4
      have hn := HN23.out.set 4 (.int .i64 a1)
      simp only [sLA, sL0, sL1] at hn
      have HN24 := Lib.hid hn
      have HS24 := Lib.hid (HS23.out.far HN23.out 4 (.int .i64 a1))
      have HT24 := Lib.hid (HT23.out.set (p := ⟨xb, 4, none⟩) (.inr HL.out) (.int .i64 a1))
      have HQ24 := Lib.hid (HQ23.out.set HF.out 4 (.int .i64 a1))
      clear hn HN23 HS23 HT23 HQ23
      generalize w23.setCell ⟨xb, 4, none⟩ (.int .i64 a1) = w24 at HS24 HT24 HN24 HQ24 ⊢
      go_wp2_with fail
      refine (c65 HS24.out T2.out).mono ?_
      rintro e w25 ⟨rfl, R25, hS, hT⟩
      have HS25 := Lib.hid (hS)
      have HT25 := Lib.hid (HT24.out.trans hT)
      have HN25 := Lib.hid (HN24.out.to hT)
      have HQ25 := Lib.hid (HQ24.out.to HS24.out hT)
      clear hS hT HS24 HT24 HN24 HQ24
      go_wp2_with fail
      refine (HE.out _ _ _ _ _ _ _ _ _ HS25.out T3.out).mono ?_
      rintro e w26 ⟨rfl, R26, hS, hT⟩
      have HS26 := Lib.hid (hS)
      have HT26 := Lib.hid (HT25.out.trans hT)
      have HN26 := Lib.hid (HN25.out.to hT)
      have HQ26 := Lib.hid (HQ25.out.to HS25.out hT)
      clear hS hT HS25 HT25 HN25 HQ25
      have x5 : w26.cell? ⟨xb, 5, none⟩ = some (.int .i64 0) := HN26.out.blk.cell 5
      have y5 := HN26.out.blk.frozen 5
      go_upto_region 11 with fail
      clear x5 y5
      have hn := HN26.out.set 5 (.int .i64 b1)
      simp only [sLA, sL0, sL1] at hn
      have HN27 := Lib.hid hn
      have HS27 := Lib.hid (HS26.out.far HN26.out 5 (.int .i64 b1))
      have HT27 := Lib.hid (HT26.out.set (p := ⟨xb, 5, none⟩) (.inr HL.out) (.int .i64 b1))
      have HQ27 := Lib.hid (HQ26.out.set HF.out 5 (.int .i64 b1))
      clear hn HN26 HS26 HT26 HQ26
      generalize w26.setCell ⟨xb, 5, none⟩ (.int .i64 b1) = w27 at HS27 HT27 HN27 HQ27 ⊢
      have x0 : w27.cell? ⟨xb, 0, none⟩ = some (.int .i64 19) := HN27.out.blk.cell 0
      have y0 := HN27.out.blk.frozen 0
      have x1 : w27.cell? ⟨xb, 1, none⟩ = some (.string ⟨#[]⟩) := HN27.out.blk.cell 1
      have y1 := HN27.out.blk.frozen 1
      have x2 : w27.cell? ⟨xb, 2, none⟩ = some (.string ⟨#[]⟩) := HN27.out.blk.cell 2
      have y2 := HN27.out.blk.frozen 2
      have x3 : w27.cell? ⟨xb, 3, none⟩ = some (.int .i64 0) := HN27.out.blk.cell 3
      have y3 := HN27.out.blk.frozen 3
      have x4 : w27.cell? ⟨xb, 4, none⟩ = some (.int .i64 a1) := HN27.out.blk.cell 4
      have y4 := HN27.out.blk.frozen 4
      have x5 : w27.cell? ⟨xb, 5, none⟩ = some (.int .i64 b1) := HN27.out.blk.cell 5
      have y5 := HN27.out.blk.frozen 5
      have x6 : w27.cell? ⟨xb, 6, none⟩ = some (.int .i64 0) := HN27.out.blk.cell 6
      have y6 := HN27.out.blk.frozen 6
      have x7 : w27.cell? ⟨xb, 7, none⟩ = some (.int .i64 (hereF Si)) := HN27.out.blk.cell 7
      have y7 := HN27.out.blk.frozen 7
      go_upto_region 12 with (at_builtin; refine wpList_append_any _ rfl (.tmp 33) (.tmp 35) 22 rfl w.heap.size 30 i30 _ 8 80 Tryd.underlying22 fi30 H30.out.1 H30.out.2.1 H30.out.2.2 rfl (by omega) (.slice A l.length c) l.length (l.flatMap nodC) rfl (own_next HQ27.out.own (below_new _ _)) (w27.heap.size + 1) (some ⟨w27.heap.size, 0, none⟩) 1 1 (nodC (⟨19, [], [], 0, a1, b1, 0, hereF Si⟩ : Nod)) rfl (reads_blkN (Blk.new w27 30 (nodC (⟨19, [], [], 0, a1, b1, 0, hereF Si⟩ : Nod)).toArray) rfl) (nod_one1 (⟨19, [], [], 0, a1, b1, 0, hereF Si⟩ : Nod)) (by unfold maxLen; have := HLL.out; omega) (by have := HLL.out; omega) (by rw [World.size_alloc]; have := HT27.out.size; omega) ?_; intro v1 w28 oA gA nA; obtain ⟨A1, c1, rfl, hQ, hS, hT⟩ := (HQ27.out.next (below_new w27 (.cells (nodC (⟨19, [], [], 0, a1, b1, 0, hereF Si⟩ : Nod)).toArray 30))).push (HS27.out.below (below_new w27 (.cells (nodC (⟨19, [], [], 0, a1, b1, 0, hereF Si⟩ : Nod)).toArray 30))) (HT27.out.below (below_new w27 (.cells (nodC (⟨19, [], [], 0, a1, b1, 0, hereF Si⟩ : Nod)).toArray 30))) HBB.out (Nat.le_refl _) (⟨19, [], [], 0, a1, b1, 0, hereF Si⟩ : Nod) oA gA nA; have HS28 := Lib.hid hS; have HT28 := Lib.hid hT; have HQ28 := Lib.hid hQ; clear hS hT hQ oA gA nA)
      clear x0 y0 x1 y1 x2 y2 x3 y3 x4 y4 x5 y5 x6 y6 x7 y7
      clear HS27 HT27 HQ27 HN27 HF HL
      go_wp2_with fail
      rcases hf4 with hf4 | hf4
      · obtain ⟨hb1, T4, _, t4, hf4⟩ := hf4
        have HB1 := Lib.hid hb1
        have T4 := Lib.hid t4
        have HF4 := Lib.hid hf4
        clear hb1 t4 hf4
        refine (c67 sBar HS28.out).mono ?_
        rintro e w29 ⟨rfl, hb⟩
        rw [HB1.out]
        have HS29 := Lib.hid (HS28.out.below hb)
        have HT29 := Lib.hid (HT28.out.below hb)
        have HQ29 := Lib.hid (HQ28.out.next hb)
        clear hb HS28 HT28 HQ28
        go_wp2_with fail
        refine (c65 HS29.out T4.out).mono ?_
        rintro e w30 ⟨rfl, R30, hS, hT⟩
        have HS30 := Lib.hid (hS)
        have HT30 := Lib.hid (HT29.out.trans hT)
        have HQ30 := Lib.hid (HQ29.out.to HS29.out hT)
        clear hS hT HS29 HT29 HQ29
        go_wp2_with fail
        go_roundw
        case rel => exact ⟨n, _, _, _, A1, c1, by have := HN.out; rw [List.length_append]; simp only [List.length_cons, List.length_nil]; omega, by rw [List.length_append]; rfl, HS30.out, HT30.out, HQ30.out, HF4.out⟩
        case measure => have := HN.out; simp only [slN]; omega
      · obtain ⟨hb1, rfl, rfl⟩ := hf4
        have HB1 := Lib.hid hb1
        clear hb1
        refine (c67 sBar HS28.out).mono ?_
        rintro e w29 ⟨rfl, hb⟩
        rw [HB1.out]
        have HS29 := Lib.hid (HS28.out.below hb)
        have HT29 := Lib.hid (HT28.out.below hb)
        have HQ29 := Lib.hid (HQ28.out.next hb)
        clear hb HS28 HT28 HQ28
        go_wp2_with fail
        have HQE := Lib.hid (show (l ++ [(⟨19, [], [], 0, a1, b1, 0, hereF Si⟩ : Nod)]).length = l.length + 1 by rw [List.length_append]; rfl)
        have HQL := Lib.hid (show l.length + 1 ≤ 500 by have := HLL.out; omega)
        have HAL := Lib.hid (show 0 < (l ++ [(⟨19, [], [], 0, a1, b1, 0, hereF Si⟩ : Nod)]).length by rw [HQE.out]; omega)
        have HAL2 := Lib.hid (show 0 < l.length + 1 by omega)
        have HBK := F6
        clear F6
        generalize l.length + 1 = q at HQE HQL HAL2 ⊢
        generalize hacc : l ++ [(⟨19, [], [], 0, a1, b1, 0, hereF Si⟩ : Nod)] = acc at HQE HAL HBK HQ29
        clear hacc
        refine (c65 HS29.out F5.out).mono ?_
        rintro e w30 ⟨rfl, R30, hS, hT⟩
        have HS30 := Lib.hid (hS)
        have HT30 := Lib.hid (HT29.out.trans hT)
        have HQ30 := Lib.hid (HQ29.out.to HS29.out hT)
        clear hS hT HS29 HT29 HQ29
        obtain ⟨kb, rfl⟩ := HQ30.out.addr HAL.out
        go_upto_region 17 with fail
        go_loopw [7, 8] (fun nv iv wr => ∃ (m : Nat) (Si : Rd) (l2 : List Nod) (Ri : Rw) (n2 : Int), m ≤ q ∧ nv = .int .i64 n2 ∧ iv = .int .i64 ((m : Int) - 1) ∧ l2.length = q ∧ l2.take m = acc.take m ∧ RdSt B AL cL g Si Ri wr ∧ To g R w Ri wr ∧ Lr w.heap.size Ri wr (some ⟨kb, 0, none⟩) c1 l2 ∧ backF setC (acc.take m).reverse n2 Si = some (S6, nx)) (fun _ iv _ => (intOf iv + 1).toNat)
        case atStart => exact ⟨q, _, acc, _, -1, Nat.le_refl _, rfl, by rw [show wrap64 ((q : Int) - 1) = (q : Int) - 1 by have := HQL.out; unfold wrap64; omega], HQE.out, rfl, HS30.out, HT30.out, HQ30.out, by rw [List.take_of_length_le (Nat.le_of_eq HQE.out)]; exact HBK.out⟩
        case round =>
          obtain ⟨m, Si, l2, Ri, n2, hm, rfl, rfl, hl2, htk, hS, hT, hQ, hf6⟩ := hrel
          obtain ⟨w60, rfl⟩ : ∃ z : World, z = wr := ⟨_, rfl⟩
          have HS60 := Lib.hid hS
          have HT60 := Lib.hid hT
          have HQ60 := Lib.hid hQ
          have HM := Lib.hid hm
          have HL2 := Lib.hid hl2
          have HTK := Lib.hid htk
          clear hS hT hQ hm hl2 htk HS30 HT30 HQ30
          cases m with
          | zero =>
            rw [List.take_zero] at hf6
            obtain ⟨rfl, rfl⟩ := some2.1 (show some (Si, n2) = some (S6, nx) from hf6)
            clear hf6
            have i0 : ¬ (0 : Int) ≤ -1 := by omega
            have e0 : ((0 : Nat) : Int) - 1 = -1 := rfl
            rw [e0]
            clear e0
            go_wp2_with fail
            refine (c68 HS60.out F7.out).mono ?_
            rintro e w61 ⟨rfl, R61, hS, hT⟩
            have HS61 := Lib.hid (hS)
            have HT61 := Lib.hid (HT60.out.trans hT)
            have HQ61 := Lib.hid (HQ60.out.to HS60.out hT)
            clear hS hT HS60 HT60 HQ60
            go_wp2_with fail
            go_ret
            exact ⟨rfl, _, HS61.out, HT61.out⟩
          | succ m =>
            have e0 : ((m + 1 : Nat) : Int) - 1 = (m : Int) := by omega
            rw [e0]
            clear e0
            obtain ⟨x, hx⟩ : ∃ x, acc[m]? = some x := ⟨_, List.getElem?_eq_getElem (by have := HM.out; have := HQE.out; omega)⟩
            have hx2 : l2[m]? = some x := by
              have h1 := congrArg (fun z : List Nod => z[m]?) HTK.out
              simp only [List.getElem?_take] at h1
              rw [if_pos (by omega), if_pos (by omega), hx] at h1
              exact h1
            have hrv : (acc.take (m + 1)).reverse = x :: (acc.take m).reverse := by
              rw [List.take_add_one, hx]
              simp
            rw [hrv] at hf6
            simp only [backF, Option.bind_eq_bind, Option.bind_eq_some_iff, Prod.exists, ifo, req_some, and2, notf, some2] at hf6
            obtain ⟨S7, k7, f7, f8⟩ := hf6
            have F7 := Lib.hid f7
            have F8 := Lib.hid f8
            have X2 := Lib.hid hx2
            clear f7 f8 hx2 hx hrv
            have i0 : (0 : Int) ≤ (m : Int) := by omega
            have iq : (m : Int) < (q : Int) := by have := HM.out; omega
            have g7 := HS60.out.g7
            have zf := HQ60.out.fz (by have := HL2.out; have := HAL2.out; omega) (m * 8 + 6)
            have zc := HQ60.out.at_ X2.out 6 _ rfl
            obtain ⟨hq2, hs2, ht2⟩ := HQ60.out.upd (j := 6) (y := setC x n2) (u := .int .i64 n2) HS60.out HT60.out HBB.out (Nat.le_refl _) X2.out (by decide) rfl
            have HQ61 := Lib.hid hq2
            have HS61 := Lib.hid hs2
            have HT61 := Lib.hid ht2
            clear hq2 hs2 ht2
            go_upto_region 20 with fail
            clear g7 zf zc HQ60 HS60 HT60
            generalize w60.setCell ⟨kb, m * 8 + 6, none⟩ (.int .i64 n2) = w61 at HQ61 HS61 HT61 ⊢
            have X3 := Lib.hid (show (l2.set m (setC x n2))[m]? = some (setC x n2) from by rw [List.getElem?_set_self (by have := HL2.out; have := HM.out; omega)])
            have hc := HQ61.out.at_ X3.out
            have HC := Lib.hid (show ∀ j v, (nodC (setC x n2))[j]? = some v → w61.cell? ((⟨kb, m * 8, none⟩ : Addr).add j) = some v from fun j v hj => by
              have h1 := hc j v hj
              unfold Addr.add
              split
              · rename_i h0; rw [h0] at h1; exact h1
              · exact h1)
            clear hc
            go_wp2_with (refine wpList_load_at rfl 30 (.tmp 66) rfl ⟨kb, m * 8, none⟩ rfl (nodC (setC x n2)) _ HC.out Tryd.underlying30 rfl (by kernel_rfl) ?_)
            refine (c68 HS61.out F7.out).mono ?_
            rintro e w62 ⟨rfl, R62, hS, hT⟩
            have HS62 := Lib.hid (hS)
            have HT62 := Lib.hid (HT61.out.trans hT)
            have HQ62 := Lib.hid (HQ61.out.to HS61.out hT)
            clear hS hT HS61 HT61 HQ61
            go_wp2_with fail
            go_roundw
            case rel => exact ⟨m, _, _, _, _, by have := HM.out; omega, rfl, by first | rfl | rw [show wrap64 ((m : Int) - 1) = (m : Int) - 1 by have := HM.out; have := HQL.out; unfold wrap64; omega], by rw [List.length_set]; exact HL2.out, by
              have h1 := congrArg (List.take m) HTK.out
              rw [List.take_take, List.take_take, Nat.min_eq_left (Nat.le_succ m)] at h1
              rw [List.take_set_of_le (Nat.le_refl m)]
              exact h1, HS62.out, HT62.out, HQ62.out, F8.out⟩
            case measure =>
              have := HM.out
              have := HQL.out
              simp only [intOf]
              unfold wrap64
              omega
end
set_option maxRecDepth 100000 in
set_option maxHeartbeats 8000000 in
theorem c45 {B : Nat} {AL : Option Addr} {cL g : Nat} {S S' : Rd} {R : Rw} {w : World} (h : RdSt B AL cL g S R w) (hf : typF S = some S') : Calls Tryd.prog 45 #[ptr g] w (REnd B AL cL g R w S' (.tuple #[])) := by
  simp only [typF, Option.bind_eq_bind, Option.bind_eq_some_iff, Prod.exists, ifo, req_some, and2, notf, some2] at hf
  have HS0 := Lib.hid h
  have HT0 := Lib.hid (To.refl g R w)
  have HBB := Lib.hid h.size
  have HSL := Lib.hid h.len
  clear h
  obtain ⟨i30, fi30, hz0, hz1, hz2⟩ := info_parts node_info
  have H30 := Lib.hid (show i30.zero = some (.agg #[.int .i64 0, .string ⟨#[]⟩, .string ⟨#[]⟩, .int .i64 0, .int .i64 0, .int .i64 0, .int .i64 0, .int .i64 0]) ∧ i30.size = 8 ∧ i30.bytes = 80 from ⟨hz0, hz1, hz2⟩)
  clear hz0 hz1 hz2
  obtain ⟨i3, fi3, hz0, hz1, hz2⟩ := info_parts int_info
  have H3 := Lib.hid (show i3.zero = some (.int .i64 0) ∧ i3.size = 1 ∧ i3.bytes = 8 from ⟨hz0, hz1, hz2⟩)
  clear hz0 hz1 hz2
  dsimp only [ptr]
  obtain ⟨S1, _, f1, S2, t, f2, S3, _, f3, S4, acc, f4, S5, _, f5, S6, nx, f6, S7, k9, f7, q0, f8⟩ := hf
  have f8 := Option.some.inj f8
  have F1 := Lib.hid f1
  have F2 := Lib.hid f2
  have F3 := Lib.hid f3
  have F4 := Lib.hid f4
  have F5 := Lib.hid f5
  have F6 := Lib.hid f6
  have F7 := Lib.hid f7
  have Q0 := Lib.hid q0
  have F8 := Lib.hid f8
  clear f1 f2 f3 f4 f5 f6 f7 q0 f8
  go_enter Tryd.func45, Tryd.ntmps45
  go_wp2_with fail
  refine (c48 HS0.out).mono ?_
  rintro e w1 ⟨rfl, hb⟩
  have HS1 := Lib.hid (HS0.out.below hb)
  have HT1 := Lib.hid (HT0.out.below hb)
  clear hb HS0 HT0 
  go_wp2_with fail
  refine (c65 HS1.out F1.out).mono ?_
  rintro e w2 ⟨rfl, R2, hS, hT⟩
  have HS2 := Lib.hid (hS)
  have HT2 := Lib.hid (HT1.out.trans hT)
  clear hS hT HS1 HT1 
  go_wp2_with fail
  refine (c65 HS2.out F2.out).mono ?_
  rintro e w3 ⟨rfl, R3, hS, hT⟩
  have HS3 := Lib.hid (hS)
  have HT3 := Lib.hid (HT2.out.trans hT)
  clear hS hT HS2 HT2 
  have hfd := run_text109 t.k t.at_ t.s
  go_wp2_with fail
  clear hfd
  refine (c65 HS3.out F3.out).mono ?_
  rintro e w4 ⟨rfl, R4, hS, hT⟩
  have HS4 := Lib.hid (hS)
  have HT4 := Lib.hid (HT3.out.trans hT)
  clear hS hT HS3 HT3 
  go_wp2_with fail
  go_loopw [4] (fun v wr => ∃ (n : Nat) (Si : Rd) (l : List Nod) (Ri : Rw) (A : Option Addr) (c : Nat), n + l.length = 20 ∧ v = .slice A l.length c ∧ RdSt B AL cL g Si Ri wr ∧ To g R w Ri wr ∧ Lr w.heap.size Ri wr A c l ∧ conLoopF n Si l = some (S4, acc)) (fun v _ => 20 - slN v)
  case atStart => exact ⟨20, _, [], _, none, 0, rfl, rfl, HS4.out, HT4.out, Lr.nil _ _ _, F4.out⟩
  case round =>
    obtain ⟨n, Si, l, Ri, A, c, hn, rfl, hS, hT, hQ, hf4⟩ := hrel
    obtain ⟨w20, rfl⟩ : ∃ z : World, z = wr := ⟨_, rfl⟩
    have HS20 := Lib.hid hS
    have HT20 := Lib.hid hT
    have HQ20 := Lib.hid hQ
    have HN := Lib.hid hn
    have HLL := Lib.hid (show l.length ≤ 20 by omega)
    clear hS hT hQ hn F4 HS4 HT4
    cases n with
    | zero => cases hf4
    | succ n =>
      simp only [conLoopF, Option.bind_eq_bind, Option.bind_eq_some_iff, Prod.exists, ifo, req_some, and2, notf, some2] at hf4
      obtain ⟨T1, u, t1, T2, a1, t2, hf4⟩ := hf4
      have T1 := Lib.hid t1
      clear t1
      simp only [ofTyF, Option.bind_eq_bind, Option.bind_eq_some_iff, Prod.exists, ifo, req_some, and2, notf, some2] at t2
      have g7 := HS20.out.g7
      go_wp2_with fail
      clear g7
      refine (c48 HS20.out).mono ?_
      rintro e w21 ⟨rfl, hb⟩
      have HS21 := Lib.hid (HS20.out.below hb)
      have HT21 := Lib.hid (HT20.out.below hb)
      have HQ21 := Lib.hid (HQ20.out.next hb)
      clear hb HS20 HT20 HQ20
      have hbn := below_new w21 (.cells #[.int .i64 43, .string ⟨#[]⟩, .string ⟨#[]⟩, .int .i64 0, .int .i64 (-1), .int .i64 0, .int .i64 0, .int .i64 (hereF Si)] 30)
      have HN22 := Lib.hid (HS21.out.new 30 #[.int .i64 43, .string ⟨#[]⟩, .string ⟨#[]⟩, .int .i64 0, .int .i64 (-1), .int .i64 0, .int .i64 0, .int .i64 (hereF Si)])
      have HS22 := Lib.hid (HS21.out.below hbn)
      have HT22 := Lib.hid (HT21.out.below hbn)
      have HQ22 := Lib.hid (HQ21.out.next hbn)
      have HF := Lib.hid (HQ21.out.fresh (Nat.le_refl _))
      have HL := Lib.hid HT21.out.size
      clear hbn HS21 HT21 HQ21
      go_upto_region 7 with fail
      generalize w21.alloc (.cells #[.int .i64 43, .string ⟨#[]⟩, .string ⟨#[]⟩, .int .i64 0, .int .i64 (-1), .int .i64 0, .int .i64 0, .int .i64 (hereF Si)] 30) = w22 at HS22 HT22 HN22 HQ22 ⊢
      generalize w21.heap.size = xb at HN22 HF HL ⊢
      go_wp2_with fail
      refine (c65 HS22.out T1.out).mono ?_
      rintro e w23 ⟨rfl, R23, hS, hT⟩
      have HS23 := Lib.hid (hS)
      have HT23 := Lib.hid (HT22.out.trans hT)
      have HN23 := Lib.hid (HN22.out.to hT)
      have HQ23 := Lib.hid (HQ22.out.to HS22.out hT)
      clear hS hT HS22 HT22 HN22 HQ22
      have hfd := run_text109 u.k u.at_ u.s
      have x1 : w23.cell? ⟨xb, 1, none⟩ = some (.string ⟨#[]⟩) := HN23.out.blk.cell 1
      have y1 := HN23.out.blk.frozen 1
      go_upto_region 8 with fail
      clear x1 y1
      have hn := HN23.out.set 1 (.string u.s)
      simp only [sLA, sL0, sL1] at hn
      have HN24 := Lib.hid hn
      have HS24 := Lib.hid (HS23.out.far HN23.out 1 (.string u.s))
      have HT24 := Lib.hid (HT23.out.set (p := ⟨xb, 1, none⟩) (.inr HL.out) (.string u.s))
      have HQ24 := Lib.hid (HQ23.out.set HF.out 1 (.string u.s))
      clear hn HN23 HS23 HT23 HQ23
      generalize w23.setCell ⟨xb, 1, none⟩ (.string u.s) = w24 at HS24 HT24 HN24 HQ24 ⊢
      clear hfd
      go_wp2_with fail
      rcases t2 with t2 | t2
      · obtain ⟨hb0, T1b, _, t2a, t2⟩ := t2
        have HB0 := Lib.hid hb0
        have T2A := Lib.hid t2a
        have T2 := Lib.hid t2
        clear hb0 t2a t2
        refine (c44 sOf HS24.out).mono ?_
        rintro e w25 ⟨rfl, hb⟩
        rw [HB0.out]
        have HS25 := Lib.hid (HS24.out.below hb)
        have HT25 := Lib.hid (HT24.out.below hb)
        have HN25 := Lib.hid (HN24.out.next hb)
        have HQ25 := Lib.hid (HQ24.out.next hb)
        clear hb HS24 HT24 HN24 HQ24
        go_wp2_with fail
        refine (c65 HS25.out T2A.out).mono ?_
        rintro e w26 ⟨rfl, R26, hS, hT⟩
        have HS26 := Lib.hid (hS)
        have HT26 := Lib.hid (HT25.out.trans hT)
        have HN26 := Lib.hid (HN25.out.to hT)
        have HQ26 := Lib.hid (HQ25.out.to HS25.out hT)
        clear hS hT HS25 HT25 HN25 HQ25
        go_wp2_with fail
        refine (c66 _ _ _ _ _ _ _ _ _ HS26.out T2.out).mono ?_
        rintro e w27 ⟨rfl, R27, hS, hT⟩
        have HS27 := Lib.hid (hS)
        have HT27 := Lib.hid (HT26.out.trans hT)
        have HN27 := Lib.hid (HN26.out.to hT)
        have HQ27 := Lib.hid (HQ26.out.to HS26.out hT)
        clear hS hT HS26 HT26 HN26 HQ26
        have x4 : w27.cell? ⟨xb, 4, none⟩ = some (.int .i64 (-1)) := HN27.out.blk.cell 4
        have y4 := HN27.out.blk.frozen 4
        go_upto_region 11 with fail
        clear x4 y4
        have hn := HN27.out.set 4 (.int .i64 a1)
        simp only [sLA, sL0, sL1] at hn
        have HN28 := Lib.hid hn
        have HS28 := Lib.hid (HS27.out.far HN27.out 4 (.int .i64 a1))
        have HT28 := Lib.hid (HT27.out.set (p := ⟨xb, 4, none⟩) (.inr HL.out) (.int .i64 a1))
        have HQ28 := Lib.hid (HQ27.out.set HF.out 4 (.int .i64 a1))
        clear hn HN27 HS27 HT27 HQ27
        generalize w27.setCell ⟨xb, 4, none⟩ (.int .i64 a1) = w28 at HS28 HT28 HN28 HQ28 ⊢
        have x0 : w28.cell? ⟨xb, 0, none⟩ = some (.int .i64 43) := HN28.out.blk.cell 0
        have y0 := HN28.out.blk.frozen 0
        have x1 : w28.cell? ⟨xb, 1, none⟩ = some (.string u.s) := HN28.out.blk.cell 1
        have y1 := HN28.out.blk.frozen 1
        have x2 : w28.cell? ⟨xb, 2, none⟩ = some (.string ⟨#[]⟩) := HN28.out.blk.cell 2
        have y2 := HN28.out.blk.frozen 2
        have x3 : w28.cell? ⟨xb, 3, none⟩ = some (.int .i64 0) := HN28.out.blk.cell 3
        have y3 := HN28.out.blk.frozen 3
        have x4 : w28.cell? ⟨xb, 4, none⟩ = some (.int .i64 a1) := HN28.out.blk.cell 4
        have y4 := HN28.out.blk.frozen 4
        have x5 : w28.cell? ⟨xb, 5, none⟩ = some (.int .i64 0) := HN28.out.blk.cell 5
        have y5 := HN28.out.blk.frozen 5
        have x6 : w28.cell? ⟨xb, 6, none⟩ = some (.int .i64 0) := HN28.out.blk.cell 6
        have y6 := HN28.out.blk.frozen 6
        have x7 : w28.cell? ⟨xb, 7, none⟩ = some (.int .i64 (hereF Si)) := HN28.out.blk.cell 7
        have y7 := HN28.out.blk.frozen 7
        go_upto_region 12 with (at_builtin; refine wpList_append_any _ rfl (.tmp 37) (.tmp 39) 22 rfl w.heap.size 30 i30 _ 8 80 Tryd.underlying22 fi30 H30.out.1 H30.out.2.1 H30.out.2.2 rfl (by omega) (.slice A l.length c) l.length (l.flatMap nodC) rfl (own_next HQ28.out.own (below_new _ _)) (w28.heap.size + 1) (some ⟨w28.heap.size, 0, none⟩) 1 1 (nodC (⟨43, lis u.s, [], 0, a1, 0, 0, hereF Si⟩ : Nod)) rfl (reads_blkN (Blk.new w28 30 (nodC (⟨43, lis u.s, [], 0, a1, 0, 0, hereF Si⟩ : Nod)).toArray) rfl) (nod_one1 (⟨43, lis u.s, [], 0, a1, 0, 0, hereF Si⟩ : Nod)) (by unfold maxLen; have := HLL.out; omega) (by have := HLL.out; omega) (by rw [World.size_alloc]; have := HT28.out.size; omega) ?_; intro v1 w29 oA gA nA; obtain ⟨A1, c1, rfl, hQ, hS, hT⟩ := (HQ28.out.next (below_new w28 (.cells (nodC (⟨43, lis u.s, [], 0, a1, 0, 0, hereF Si⟩ : Nod)).toArray 30))).push (HS28.out.below (below_new w28 (.cells (nodC (⟨43, lis u.s, [], 0, a1, 0, 0, hereF Si⟩ : Nod)).toArray 30))) (HT28.out.below (below_new w28 (.cells (nodC (⟨43, lis u.s, [], 0, a1, 0, 0, hereF Si⟩ : Nod)).toArray 30))) HBB.out (Nat.le_refl _) (⟨43, lis u.s, [], 0, a1, 0, 0, hereF Si⟩ : Nod) oA gA nA; have HS29 := Lib.hid hS; have HT29 := Lib.hid hT; have HQ29 := Lib.hid hQ; clear hS hT hQ oA gA nA)
        clear x0 y0 x1 y1 x2 y2 x3 y3 x4 y4 x5 y5 x6 y6 x7 y7
        clear HS28 HT28 HQ28 HN28 HF HL
        go_wp2_with fail
        rcases hf4 with hf4 | hf4
        · obtain ⟨hb1, T4, _, t4, hf4⟩ := hf4
          have HB1 := Lib.hid hb1
          have T4 := Lib.hid t4
          have HF4 := Lib.hid hf4
          clear hb1 t4 hf4
          refine (c67 sBar HS29.out).mono ?_
          rintro e w30 ⟨rfl, hb⟩
          rw [HB1.out]
          have HS30 := Lib.hid (HS29.out.below hb)
          have HT30 := Lib.hid (HT29.out.below hb)
          have HQ30 := Lib.hid (HQ29.out.next hb)
          clear hb HS29 HT29 HQ29
          go_wp2_with fail
          refine (c65 HS30.out T4.out).mono ?_
          rintro e w31 ⟨rfl, R31, hS, hT⟩
          have HS31 := Lib.hid (hS)
          have HT31 := Lib.hid (HT30.out.trans hT)
          have HQ31 := Lib.hid (HQ30.out.to HS30.out hT)
          clear hS hT HS30 HT30 HQ30
          go_wp2_with fail
          go_roundw
          case rel => exact ⟨n, _, _, _, A1, c1, by have := HN.out; rw [List.length_append]; simp only [List.length_cons, List.length_nil]; omega, by rw [List.length_append]; rfl, HS31.out, HT31.out, HQ31.out, HF4.out⟩
          case measure => have := HN.out; simp only [slN]; omega
        · obtain ⟨hb1, rfl, rfl⟩ := hf4
          have HB1 := Lib.hid hb1
          clear hb1
          refine (c67 sBar HS29.out).mono ?_
          rintro e w30 ⟨rfl, hb⟩
          rw [HB1.out]
          have HS30 := Lib.hid (HS29.out.below hb)
          have HT30 := Lib.hid (HT29.out.below hb)
          have HQ30 := Lib.hid (HQ29.out.next hb)
          clear hb HS29 HT29 HQ29
          go_wp2_with fail
          have HQE := Lib.hid (show (l ++ [(⟨43, lis u.s, [], 0, a1, 0, 0, hereF Si⟩ : Nod)]).length = l.length + 1 by rw [List.length_append]; rfl)
          have HQL := Lib.hid (show l.length + 1 ≤ 500 by have := HLL.out; omega)
          have HAL := Lib.hid (show 0 < (l ++ [(⟨43, lis u.s, [], 0, a1, 0, 0, hereF Si⟩ : Nod)]).length by rw [HQE.out]; omega)
          have HAL2 := Lib.hid (show 0 < l.length + 1 by omega)
          have HBK := F6
          clear F6
          generalize l.length + 1 = q at HQE HQL HAL2 ⊢
          generalize hacc : l ++ [(⟨43, lis u.s, [], 0, a1, 0, 0, hereF Si⟩ : Nod)] = acc at HQE HAL HBK HQ30
          clear hacc
          refine (c65 HS30.out F5.out).mono ?_
          rintro e w31 ⟨rfl, R31, hS, hT⟩
          have HS31 := Lib.hid (hS)
          have HT31 := Lib.hid (HT30.out.trans hT)
          have HQ31 := Lib.hid (HQ30.out.to HS30.out hT)
          clear hS hT HS30 HT30 HQ30
          obtain ⟨kb, rfl⟩ := HQ31.out.addr HAL.out
          go_upto_region 17 with fail
          go_loopw [6, 7] (fun nv iv wr => ∃ (m : Nat) (Si : Rd) (l2 : List Nod) (Ri : Rw) (n2 : Int), m ≤ q ∧ nv = .int .i64 n2 ∧ iv = .int .i64 ((m : Int) - 1) ∧ l2.length = q ∧ l2.take m = acc.take m ∧ RdSt B AL cL g Si Ri wr ∧ To g R w Ri wr ∧ Lr w.heap.size Ri wr (some ⟨kb, 0, none⟩) c1 l2 ∧ backF setB (acc.take m).reverse n2 Si = some (S6, nx)) (fun _ iv _ => (intOf iv + 1).toNat)
          case atStart => exact ⟨q, _, acc, _, -1, Nat.le_refl _, rfl, by rw [show wrap64 ((q : Int) - 1) = (q : Int) - 1 by have := HQL.out; unfold wrap64; omega], HQE.out, rfl, HS31.out, HT31.out, HQ31.out, by rw [List.take_of_length_le (Nat.le_of_eq HQE.out)]; exact HBK.out⟩
          case round =>
            obtain ⟨m, Si, l2, Ri, n2, hm, rfl, rfl, hl2, htk, hS, hT, hQ, hf6⟩ := hrel
            obtain ⟨w60, rfl⟩ : ∃ z : World, z = wr := ⟨_, rfl⟩
            have HS60 := Lib.hid hS
            have HT60 := Lib.hid hT
            have HQ60 := Lib.hid hQ
            have HM := Lib.hid hm
            have HL2 := Lib.hid hl2
            have HTK := Lib.hid htk
            clear hS hT hQ hm hl2 htk HS31 HT31 HQ31
            cases m with
            | zero =>
              rw [List.take_zero] at hf6
              obtain ⟨rfl, rfl⟩ := some2.1 (show some (Si, n2) = some (S6, nx) from hf6)
              clear hf6
              have i0 : ¬ (0 : Int) ≤ -1 := by omega
              have e0 : ((0 : Nat) : Int) - 1 = -1 := rfl
              rw [e0]
              clear e0
              go_wp2_with fail
              refine (c68 HS60.out F7.out).mono ?_
              rintro e w61 ⟨rfl, R61, hS, hT⟩
              have HS61 := Lib.hid (hS)
              have HT61 := Lib.hid (HT60.out.trans hT)
              have HQ61 := Lib.hid (HQ60.out.to HS60.out hT)
              clear hS hT HS60 HT60 HQ60
              have g4 := HS61.out.g4
              have QT := Lib.hid (of_decide_eq_true Q0.out)
              go_wp2_with (at_builtin; refine wpList_append_any _ rfl (.tmp 84) (.tmp 86) 23 rfl B 3 i3 _ 1 8 Tryd.underlying23 fi3 H3.out.1 H3.out.2.1 H3.out.2.2 rfl (by omega) (.slice R61.A' S7.types.length R61.c') S7.types.length (S7.types.map intV) rfl (own_next HS61.out.typ (below_new _ _)) (w61.heap.size + 1) (some ⟨w61.heap.size, 0, none⟩) 1 1 [intV k9] rfl (reads_blkN (Blk.new w61 3 #[intV k9]) rfl) (int_one [k9]) (by unfold maxLen; have := QT.out; omega) (by have := QT.out; omega) (by rw [World.size_alloc]; have := HS61.out.size; omega) ?_; intro v1 w62 oA gA nA; obtain ⟨A4, c4, rfl, hS, hG, hT⟩ := (HS61.out.below (below_new w61 (.cells #[intV k9] 3))).pushT k9 oA gA nA; have HSE := Lib.hid hS; have HTE := Lib.hid ((HT61.out.below (below_new w61 (.cells #[intV k9] 3))).trans hT); have y4 := hG.cell 4; have yf4 := hG.frozen 4; clear g4 oA gA nA hS hT hG)
              go_end0
              exact ⟨rfl, _, by rw [← F8.out]; exact HSE.out, HTE.out⟩
            | succ m =>
              have e0 : ((m + 1 : Nat) : Int) - 1 = (m : Int) := by omega
              rw [e0]
              clear e0
              obtain ⟨x, hx⟩ : ∃ x, acc[m]? = some x := ⟨_, List.getElem?_eq_getElem (by have := HM.out; have := HQE.out; omega)⟩
              have hx2 : l2[m]? = some x := by
                have h1 := congrArg (fun z : List Nod => z[m]?) HTK.out
                simp only [List.getElem?_take] at h1
                rw [if_pos (by omega), if_pos (by omega), hx] at h1
                exact h1
              have hrv : (acc.take (m + 1)).reverse = x :: (acc.take m).reverse := by
                rw [List.take_add_one, hx]
                simp
              rw [hrv] at hf6
              simp only [backF, Option.bind_eq_bind, Option.bind_eq_some_iff, Prod.exists, ifo, req_some, and2, notf, some2] at hf6
              obtain ⟨S7, k7, f7, f8⟩ := hf6
              have F7 := Lib.hid f7
              have F8 := Lib.hid f8
              have X2 := Lib.hid hx2
              clear f7 f8 hx2 hx hrv
              have i0 : (0 : Int) ≤ (m : Int) := by omega
              have iq : (m : Int) < (q : Int) := by have := HM.out; omega
              have g7 := HS60.out.g7
              have zf := HQ60.out.fz (by have := HL2.out; have := HAL2.out; omega) (m * 8 + 5)
              have zc := HQ60.out.at_ X2.out 5 _ rfl
              obtain ⟨hq2, hs2, ht2⟩ := HQ60.out.upd (j := 5) (y := setB x n2) (u := .int .i64 n2) HS60.out HT60.out HBB.out (Nat.le_refl _) X2.out (by decide) rfl
              have HQ61 := Lib.hid hq2
              have HS61 := Lib.hid hs2
              have HT61 := Lib.hid ht2
              clear hq2 hs2 ht2
              go_upto_region 20 with fail
              clear g7 zf zc HQ60 HS60 HT60
              generalize w60.setCell ⟨kb, m * 8 + 5, none⟩ (.int .i64 n2) = w61 at HQ61 HS61 HT61 ⊢
              have X3 := Lib.hid (show (l2.set m (setB x n2))[m]? = some (setB x n2) from by rw [List.getElem?_set_self (by have := HL2.out; have := HM.out; omega)])
              have hc := HQ61.out.at_ X3.out
              have HC := Lib.hid (show ∀ j v, (nodC (setB x n2))[j]? = some v → w61.cell? ((⟨kb, m * 8, none⟩ : Addr).add j) = some v from fun j v hj => by
                have h1 := hc j v hj
                unfold Addr.add
                split
                · rename_i h0; rw [h0] at h1; exact h1
                · exact h1)
              clear hc
              go_wp2_with (refine wpList_load_at rfl 30 (.tmp 70) rfl ⟨kb, m * 8, none⟩ rfl (nodC (setB x n2)) _ HC.out Tryd.underlying30 rfl (by kernel_rfl) ?_)
              refine (c68 HS61.out F7.out).mono ?_
              rintro e w62 ⟨rfl, R62, hS, hT⟩
              have HS62 := Lib.hid (hS)
              have HT62 := Lib.hid (HT61.out.trans hT)
              have HQ62 := Lib.hid (HQ61.out.to HS61.out hT)
              clear hS hT HS61 HT61 HQ61
              go_wp2_with fail
              go_roundw
              case rel => exact ⟨m, _, _, _, _, by have := HM.out; omega, rfl, by first | rfl | rw [show wrap64 ((m : Int) - 1) = (m : Int) - 1 by have := HM.out; have := HQL.out; unfold wrap64; omega], by rw [List.length_set]; exact HL2.out, by
                have h1 := congrArg (List.take m) HTK.out
                rw [List.take_take, List.take_take, Nat.min_eq_left (Nat.le_succ m)] at h1
                rw [List.take_set_of_le (Nat.le_refl m)]
                exact h1, HS62.out, HT62.out, HQ62.out, F8.out⟩
              case measure =>
                have := HM.out
                have := HQL.out
                simp only [intOf]
                unfold wrap64
                omega
      · obtain ⟨hb0, rfl, rfl⟩ := t2
        have HB0 := Lib.hid hb0
        clear hb0
        refine (c44 sOf HS24.out).mono ?_
        rintro e w25 ⟨rfl, hb⟩
        rw [HB0.out]
        have HS25 := Lib.hid (HS24.out.below hb)
        have HT25 := Lib.hid (HT24.out.below hb)
        have HN25 := Lib.hid (HN24.out.next hb)
        have HQ25 := Lib.hid (HQ24.out.next hb)
        clear hb HS24 HT24 HN24 HQ24
        go_upto_region 11 with fail
        have x0 : w25.cell? ⟨xb, 0, none⟩ = some (.int .i64 43) := HN25.out.blk.cell 0
        have y0 := HN25.out.blk.frozen 0
        have x1 : w25.cell? ⟨xb, 1, none⟩ = some (.string u.s) := HN25.out.blk.cell 1
        have y1 := HN25.out.blk.frozen 1
        have x2 : w25.cell? ⟨xb, 2, none⟩ = some (.string ⟨#[]⟩) := HN25.out.blk.cell 2
        have y2 := HN25.out.blk.frozen 2
        have x3 : w25.cell? ⟨xb, 3, none⟩ = some (.int .i64 0) := HN25.out.blk.cell 3
        have y3 := HN25.out.blk.frozen 3
        have x4 : w25.cell? ⟨xb, 4, none⟩ = some (.int .i64 (-1)) := HN25.out.blk.cell 4
        have y4 := HN25.out.blk.frozen 4
        have x5 : w25.cell? ⟨xb, 5, none⟩ = some (.int .i64 0) := HN25.out.blk.cell 5
        have y5 := HN25.out.blk.frozen 5
        have x6 : w25.cell? ⟨xb, 6, none⟩ = some (.int .i64 0) := HN25.out.blk.cell 6
        have y6 := HN25.out.blk.frozen 6
        have x7 : w25.cell? ⟨xb, 7, none⟩ = some (.int .i64 (hereF Si)) := HN25.out.blk.cell 7
        have y7 := HN25.out.blk.frozen 7
        go_upto_region 12 with (at_builtin; refine wpList_append_any _ rfl (.tmp 37) (.tmp 39) 22 rfl w.heap.size 30 i30 _ 8 80 Tryd.underlying22 fi30 H30.out.1 H30.out.2.1 H30.out.2.2 rfl (by omega) (.slice A l.length c) l.length (l.flatMap nodC) rfl (own_next HQ25.out.own (below_new _ _)) (w25.heap.size + 1) (some ⟨w25.heap.size, 0, none⟩) 1 1 (nodC (⟨43, lis u.s, [], 0, -1, 0, 0, hereF Si⟩ : Nod)) rfl (reads_blkN (Blk.new w25 30 (nodC (⟨43, lis u.s, [], 0, -1, 0, 0, hereF Si⟩ : Nod)).toArray) rfl) (nod_one1 (⟨43, lis u.s, [], 0, -1, 0, 0, hereF Si⟩ : Nod)) (by unfold maxLen; have := HLL.out; omega) (by have := HLL.out; omega) (by rw [World.size_alloc]; have := HT25.out.size; omega) ?_; intro v1 w26 oA gA nA; obtain ⟨A1, c1, rfl, hQ, hS, hT⟩ := (HQ25.out.next (below_new w25 (.cells (nodC (⟨43, lis u.s, [], 0, -1, 0, 0, hereF Si⟩ : Nod)).toArray 30))).push (HS25.out.below (below_new w25 (.cells (nodC (⟨43, lis u.s, [], 0, -1, 0, 0, hereF Si⟩ : Nod)).toArray 30))) (HT25.out.below (below_new w25 (.cells (nodC (⟨43, lis u.s, [], 0, -1, 0, 0, hereF Si⟩ : Nod)).toArray 30))) HBB.out (Nat.le_refl _) (⟨43, lis u.s, [], 0, -1, 0, 0, hereF Si⟩ : Nod) oA gA nA; have HS26 := Lib.hid hS; have HT26 := Lib.hid hT; have HQ26 := Lib.hid hQ; clear hS hT hQ oA gA nA)
        clear x0 y0 x1 y1 x2 y2 x3 y3 x4 y4 x5 y5 x6 y6 x7 y7
        clear HS25 HT25 HQ25 HN25 HF HL
        go_wp2_with fail
        rcases hf4 with hf4 | hf4
        · obtain ⟨hb1, T4, _, t4, hf4⟩ := hf4
          have HB1 := Lib.hid hb1
          have T4 := Lib.hid t4
          have HF4 := Lib.hid hf4
          clear hb1 t4 hf4
          refine (c67 sBar HS26.out).mono ?_
          rintro e w27 ⟨rfl, hb⟩
          rw [HB1.out]
          have HS27 := Lib.hid (HS26.out.below hb)
          have HT27 := Lib.hid (HT26.out.below hb)
          have HQ27 := Lib.hid (HQ26.out.next hb)
          clear hb HS26 HT26 HQ26
          go_wp2_with fail
          refine (c65 HS27.out T4.out).mono ?_
          rintro e w28 ⟨rfl, R28, hS, hT⟩
          have HS28 := Lib.hid (hS)
          have HT28 := Lib.hid (HT27.out.trans hT)
          have HQ28 := Lib.hid (HQ27.out.to HS27.out hT)
          clear hS hT HS27 HT27 HQ27
          go_wp2_with fail
          go_roundw
          case rel => exact ⟨n, _, _, _, A1, c1, by have := HN.out; rw [List.length_append]; simp only [List.length_cons, List.length_nil]; omega, by rw [List.length_append]; rfl, HS28.out, HT28.out, HQ28.out, HF4.out⟩
          case measure => have := HN.out; simp only [slN]; omega
        · obtain ⟨hb1, rfl, rfl⟩ := hf4
          have HB1 := Lib.hid hb1
          clear hb1
          refine (c67 sBar HS26.out).mono ?_
          rintro e w27 ⟨rfl, hb⟩
          rw [HB1.out]
          have HS27 := Lib.hid (HS26.out.below hb)
          have HT27 := Lib.hid (HT26.out.below hb)
          have HQ27 := Lib.hid (HQ26.out.next hb)
          clear hb HS26 HT26 HQ26
          go_wp2_with fail
          have HQE := Lib.hid (show (l ++ [(⟨43, lis u.s, [], 0, -1, 0, 0, hereF Si⟩ : Nod)]).length = l.length + 1 by rw [List.length_append]; rfl)
          have HQL := Lib.hid (show l.length + 1 ≤ 500 by have := HLL.out; omega)
          have HAL := Lib.hid (show 0 < (l ++ [(⟨43, lis u.s, [], 0, -1, 0, 0, hereF Si⟩ : Nod)]).length by rw [HQE.out]; omega)
          have HAL2 := Lib.hid (show 0 < l.length + 1 by omega)
          have HBK := F6
          clear F6
          generalize l.length + 1 = q at HQE HQL HAL2 ⊢
          generalize hacc : l ++ [(⟨43, lis u.s, [], 0, -1, 0, 0, hereF Si⟩ : Nod)] = acc at HQE HAL HBK HQ27
          clear hacc
          refine (c65 HS27.out F5.out).mono ?_
          rintro e w28 ⟨rfl, R28, hS, hT⟩
          have HS28 := Lib.hid (hS)
          have HT28 := Lib.hid (HT27.out.trans hT)
          have HQ28 := Lib.hid (HQ27.out.to HS27.out hT)
          clear hS hT HS27 HT27 HQ27
          obtain ⟨kb, rfl⟩ := HQ28.out.addr HAL.out
          go_upto_region 17 with fail
          go_loopw [6, 7] (fun nv iv wr => ∃ (m : Nat) (Si : Rd) (l2 : List Nod) (Ri : Rw) (n2 : Int), m ≤ q ∧ nv = .int .i64 n2 ∧ iv = .int .i64 ((m : Int) - 1) ∧ l2.length = q ∧ l2.take m = acc.take m ∧ RdSt B AL cL g Si Ri wr ∧ To g R w Ri wr ∧ Lr w.heap.size Ri wr (some ⟨kb, 0, none⟩) c1 l2 ∧ backF setB (acc.take m).reverse n2 Si = some (S6, nx)) (fun _ iv _ => (intOf iv + 1).toNat)
          case atStart => exact ⟨q, _, acc, _, -1, Nat.le_refl _, rfl, by rw [show wrap64 ((q : Int) - 1) = (q : Int) - 1 by have := HQL.out; unfold wrap64; omega], HQE.out, rfl, HS28.out, HT28.out, HQ28.out, by rw [List.take_of_length_le (Nat.le_of_eq HQE.out)]; exact HBK.out⟩
          case round =>
            obtain ⟨m, Si, l2, Ri, n2, hm, rfl, rfl, hl2, htk, hS, hT, hQ, hf6⟩ := hrel
            obtain ⟨w60, rfl⟩ : ∃ z : World, z = wr := ⟨_, rfl⟩
            have HS60 := Lib.hid hS
            have HT60 := Lib.hid hT
            have HQ60 := Lib.hid hQ
            have HM := Lib.hid hm
            have HL2 := Lib.hid hl2
            have HTK := Lib.hid htk
            clear hS hT hQ hm hl2 htk HS28 HT28 HQ28
            cases m with
            | zero =>
              rw [List.take_zero] at hf6
              obtain ⟨rfl, rfl⟩ := some2.1 (show some (Si, n2) = some (S6, nx) from hf6)
              clear hf6
              have i0 : ¬ (0 : Int) ≤ -1 := by omega
              have e0 : ((0 : Nat) : Int) - 1 = -1 := rfl
              rw [e0]
              clear e0
              go_wp2_with fail
              refine (c68 HS60.out F7.out).mono ?_
              rintro e w61 ⟨rfl, R61, hS, hT⟩
              have HS61 := Lib.hid (hS)
              have HT61 := Lib.hid (HT60.out.trans hT)
              have HQ61 := Lib.hid (HQ60.out.to HS60.out hT)
              clear hS hT HS60 HT60 HQ60
              have g4 := HS61.out.g4
              have QT := Lib.hid (of_decide_eq_true Q0.out)
              go_wp2_with (at_builtin; refine wpList_append_any _ rfl (.tmp 84) (.tmp 86) 23 rfl B 3 i3 _ 1 8 Tryd.underlying23 fi3 H3.out.1 H3.out.2.1 H3.out.2.2 rfl (by omega) (.slice R61.A' S7.types.length R61.c') S7.types.length (S7.types.map intV) rfl (own_next HS61.out.typ (below_new _ _)) (w61.heap.size + 1) (some ⟨w61.heap.size, 0, none⟩) 1 1 [intV k9] rfl (reads_blkN (Blk.new w61 3 #[intV k9]) rfl) (int_one [k9]) (by unfold maxLen; have := QT.out; omega) (by have := QT.out; omega) (by rw [World.size_alloc]; have := HS61.out.size; omega) ?_; intro v1 w62 oA gA nA; obtain ⟨A4, c4, rfl, hS, hG, hT⟩ := (HS61.out.below (below_new w61 (.cells #[intV k9] 3))).pushT k9 oA gA nA; have HSE := Lib.hid hS; have HTE := Lib.hid ((HT61.out.below (below_new w61 (.cells #[intV k9] 3))).trans hT); have y4 := hG.cell 4; have yf4 := hG.frozen 4; clear g4 oA gA nA hS hT hG)
              go_end0
              exact ⟨rfl, _, by rw [← F8.out]; exact HSE.out, HTE.out⟩
            | succ m =>
              have e0 : ((m + 1 : Nat) : Int) - 1 = (m : Int) := by omega
              rw [e0]
              clear e0
              obtain ⟨x, hx⟩ : ∃ x, acc[m]? = some x := ⟨_, List.getElem?_eq_getElem (by have := HM.out; have := HQE.out; omega)⟩
              have hx2 : l2[m]? = some x := by
                have h1 := congrArg (fun z : List Nod => z[m]?) HTK.out
                simp only [List.getElem?_take] at h1
                rw [if_pos (by omega), if_pos (by omega), hx] at h1
                exact h1
              have hrv : (acc.take (m + 1)).reverse = x :: (acc.take m).reverse := by
                rw [List.take_add_one, hx]
                simp
              rw [hrv] at hf6
              simp only [backF, Option.bind_eq_bind, Option.bind_eq_some_iff, Prod.exists, ifo, req_some, and2, notf, some2] at hf6
              obtain ⟨S7, k7, f7, f8⟩ := hf6
              have F7 := Lib.hid f7
              have F8 := Lib.hid f8
              have X2 := Lib.hid hx2
              clear f7 f8 hx2 hx hrv
              have i0 : (0 : Int) ≤ (m : Int) := by omega
              have iq : (m : Int) < (q : Int) := by have := HM.out; omega
              have g7 := HS60.out.g7
              have zf := HQ60.out.fz (by have := HL2.out; have := HAL2.out; omega) (m * 8 + 5)
              have zc := HQ60.out.at_ X2.out 5 _ rfl
              obtain ⟨hq2, hs2, ht2⟩ := HQ60.out.upd (j := 5) (y := setB x n2) (u := .int .i64 n2) HS60.out HT60.out HBB.out (Nat.le_refl _) X2.out (by decide) rfl
              have HQ61 := Lib.hid hq2
              have HS61 := Lib.hid hs2
              have HT61 := Lib.hid ht2
              clear hq2 hs2 ht2
              go_upto_region 20 with fail
              clear g7 zf zc HQ60 HS60 HT60
              generalize w60.setCell ⟨kb, m * 8 + 5, none⟩ (.int .i64 n2) = w61 at HQ61 HS61 HT61 ⊢
              have X3 := Lib.hid (show (l2.set m (setB x n2))[m]? = some (setB x n2) from by rw [List.getElem?_set_self (by have := HL2.out; have := HM.out; omega)])
              have hc := HQ61.out.at_ X3.out
              have HC := Lib.hid (show ∀ j v, (nodC (setB x n2))[j]? = some v → w61.cell? ((⟨kb, m * 8, none⟩ : Addr).add j) = some v from fun j v hj => by
                have h1 := hc j v hj
                unfold Addr.add
                split
                · rename_i h0; rw [h0] at h1; exact h1
                · exact h1)
              clear hc
              go_wp2_with (refine wpList_load_at rfl 30 (.tmp 70) rfl ⟨kb, m * 8, none⟩ rfl (nodC (setB x n2)) _ HC.out Tryd.underlying30 rfl (by kernel_rfl) ?_)
              refine (c68 HS61.out F7.out).mono ?_
              rintro e w62 ⟨rfl, R62, hS, hT⟩
              have HS62 := Lib.hid (hS)
              have HT62 := Lib.hid (HT61.out.trans hT)
              have HQ62 := Lib.hid (HQ61.out.to HS61.out hT)
              clear hS hT HS61 HT61 HQ61
              go_wp2_with fail
              go_roundw
              case rel => exact ⟨m, _, _, _, _, by have := HM.out; omega, rfl, by first | rfl | rw [show wrap64 ((m : Int) - 1) = (m : Int) - 1 by have := HM.out; have := HQL.out; unfold wrap64; omega], by rw [List.length_set]; exact HL2.out, by
                have h1 := congrArg (List.take m) HTK.out
                rw [List.take_take, List.take_take, Nat.min_eq_left (Nat.le_succ m)] at h1
                rw [List.take_set_of_le (Nat.le_refl m)]
                exact h1, HS62.out, HT62.out, HQ62.out, F8.out⟩
              case measure =>
                have := HM.out
                have := HQL.out
                simp only [intOf]
                unfold wrap64
                omega
set_option maxRecDepth 100000 in
set_option maxHeartbeats 8000000 in
theorem c46 : ∀ n, Spec 46 (exprF n)
  | 0 => fun _ _ _ _ _ _ _ _ _ _ hf => by cases hf
  | n + 1 => by
    intro B AL cL g S S' r R w h hf
    have HE := Lib.hid (c46 n)
    have HA := Lib.hid (c70 HE.out (c76 (c81 (c88 (c91 (c93 (c94 (c96 (c99 (c100 HE.out))))))))))
    simp only [exprF, Option.bind_eq_bind, Option.bind_eq_some_iff, Prod.exists, ifo, req_some, and2, notf, some2] at hf
    have HS0 := Lib.hid h
    have HT0 := Lib.hid (To.refl g R w)
    clear h HE
    dsimp only [ptr]
    obtain ⟨S1, f1, S2, k, f2, S3, f3, rfl, rfl⟩ := hf
    have F1 := Lib.hid f1
    have F2 := Lib.hid f2
    have F3 := Lib.hid f3
    clear f1 f2 f3
    go_enter Tryd.func46, Tryd.ntmps46
    go_wp2_with fail
    refine (c69 HS0.out F1.out).mono ?_
    rintro e w1 ⟨rfl, R1, hS, hT⟩
    have HS1 := Lib.hid (hS)
    have HT1 := Lib.hid (HT0.out.trans hT)
    clear hS hT HS0 HT0 
    go_wp2_with fail
    refine (HA.out _ _ _ _ _ _ _ _ _ HS1.out F2.out).mono ?_
    rintro e w2 ⟨rfl, R2, hS, hT⟩
    have HS2 := Lib.hid (hS)
    have HT2 := Lib.hid (HT1.out.trans hT)
    clear hS hT HS1 HT1 
    go_wp2_with fail
    refine (c71 HS2.out F3.out).mono ?_
    rintro e w3 ⟨rfl, R3, hS, hT⟩
    have HS3 := Lib.hid (hS)
    have HT3 := Lib.hid (HT2.out.trans hT)
    clear hS hT HS2 HT2 
    go_wp2_with fail
    go_ret
    exact ⟨rfl, _, HS3.out, HT3.out⟩
def treeG (L : List Tok) (en : Int) : Option Tre := do
  let S1 ← typesF 3 ⟨L, en, 0, [], [], 0⟩
  let (S2, k) ← exprF 30 S1
  req (S2.at_ == S2.L.length) (some ⟨S2.nodes, S2.types, k⟩)
theorem own_mono {w : World} {base base' : Nat} {e : TypeId} {size n : Nat} {v : Value} {xs : List Value} (h : w.ownsRow base e size v n xs) (hb : base' ≤ base) : w.ownsRow base' e size v n xs := by
  obtain ⟨h1, h2⟩ := h
  refine ⟨h1, ?_⟩
  rcases h2 with h2 | ⟨g, cap, cur, rfl, h3, h4⟩
  · exact .inl h2
  · exact .inr ⟨g, cap, cur, rfl, Nat.le_trans hb h3, h4⟩
structure TreOwn (B : Nat) (w : World) (A A' : Option Addr) (c c' : Nat) (t : Tre) : Prop where
  nod : w.ownsRow B 30 8 (.slice A t.l.length c) t.l.length (t.l.flatMap nodC)
  typ : w.ownsRow B 3 1 (.slice A' t.y.length c') t.y.length (t.y.map intV)
theorem TreOwn.is_ {B : Nat} {w : World} {A A' : Option Addr} {c c' : Nat} {t : Tre} (h : TreOwn B w A A' c c' t) : TreIs w A A' t := ⟨Reads.of_own h.nod, Reads.of_own h.typ⟩
def SrcEnd (t : Tre) (w : World) (e : Ending) (w' : World) : Prop := ∃ (A : Option Addr) (c : Nat) (A' : Option Addr) (c' : Nat), e = .returned (.agg #[.slice A t.l.length c, .slice A' t.y.length c', .int .i64 t.r, .int .i64 0, .int .i64 0]) ∧ TreOwn w.heap.size w' A A' c c' t ∧ Below w.heap.size w w'
theorem row5 {w : World} {b : Nat} {t : TypeId} {u0 u1 u2 u3 u4 v0 v1 v2 v3 v4 : Value} (h : Blk w b t #[u0, u1, u2, u3, u4]) :
    Blk (((((w.setCell ⟨b, 0, none⟩ v0).setCell ⟨b, 1, none⟩ v1).setCell ⟨b, 2, none⟩ v2).setCell ⟨b, 3, none⟩ v3).setCell ⟨b, 4, none⟩ v4) b t #[v0, v1, v2, v3, v4] := by
  have h1 := ((((h.set_ 0 v0).set_ 1 v1).set_ 2 v2).set_ 3 v3).set_ 4 v4
  simpa only [List.setIfInBounds_toArray, List.set_cons_zero, List.set_cons_succ] using h1
theorem keep5 {P : World → Prop} {w : World} {b : Nat} {t : TypeId} {u0 u1 u2 u3 u4 v0 v1 v2 v3 v4 : Value} (h : Blk w b t #[u0, u1, u2, u3, u4]) (hp : P w) (hk : ∀ (w : World) (cs : Array Value) (i : Nat) (u : Value), Blk w b t cs → P w → P (w.setCell ⟨b, i, none⟩ u)) :
    P (((((w.setCell ⟨b, 0, none⟩ v0).setCell ⟨b, 1, none⟩ v1).setCell ⟨b, 2, none⟩ v2).setCell ⟨b, 3, none⟩ v3).setCell ⟨b, 4, none⟩ v4) := by
  have h0 := h.set_ 0 v0
  have h1 := h0.set_ 1 v1
  have h2 := h1.set_ 2 v2
  have h3 := h2.set_ 3 v3
  exact hk _ _ 4 v4 h3 (hk _ _ 3 v3 h2 (hk _ _ 2 v2 h1 (hk _ _ 1 v1 h0 (hk _ _ 0 v0 h hp))))
set_option maxRecDepth 100000 in
set_option maxHeartbeats 8000000 in
theorem c29 (s : ByteArray) (hs : s.size ≤ 2000) {n : Nat} {T : List Tok} {t : Tre} (hL : lexL n (lis s) 0 = some T) (hG : treeG T s.size = some t) (w : World) : Calls Tryd.prog 29 #[.string s] w (SrcEnd t w) := by
  simp only [treeG, Option.bind_eq_bind, Option.bind_eq_some_iff, Prod.exists, req_some, beq_iff_eq, some2, Option.some.injEq] at hG
  obtain ⟨S1, f1, S2, k, f2, f3, rfl⟩ := hG
  have F1 := Lib.hid f1
  have F2 := Lib.hid f2
  have F3 := Lib.hid f3
  have HL := Lib.hid hL
  clear f1 f2 f3 hL
  have hR := Blk.new w 70 #[.slice none 0 0, .slice none 0 0, .int .i64 0, .int .i64 0, .int .i64 0]
  have hb := below_new w (.cells #[.slice none 0 0, .slice none 0 0, .int .i64 0, .int .i64 0, .int .i64 0] 70)
  have HRL := Lib.hid (show w.heap.size < (w.alloc (.cells #[.slice none 0 0, .slice none 0 0, .int .i64 0, .int .i64 0, .int .i64 0] 70)).heap.size by rw [World.size_alloc]; omega)
  go_enter Tryd.func29, Tryd.ntmps29
  go_upto_region 1 with fail
  generalize w.alloc (.cells #[.slice none 0 0, .slice none 0 0, .int .i64 0, .int .i64 0, .int .i64 0] 70) = w1 at hR hb HRL ⊢
  have HR1 := Lib.hid hR
  have HB1 := Lib.hid hb
  clear hR hb
  generalize hrb : w.heap.size = rb at HR1 HRL ⊢
  have HRB := Lib.hid hrb
  clear hrb
  go_wp2_with fail
  refine (x43 s (by omega) w1).mono ?_
  rintro e w2 ⟨T', A, c, X, Y, rfl, hrd, hb2, hlx, _, hlen⟩
  obtain ⟨rfl, rfl, rfl⟩ := hlx hs _ _ HL.out
  clear hlx
  have HLN := Lib.hid hlen
  have hg := Blk.new w2 92 #[.slice A T'.length c, .int .i64 0, .int .i64 0]
  have hb3 := below_new w2 (.cells #[.slice A T'.length c, .int .i64 0, .int .i64 0] 92)
  have HR3 := Lib.hid ((HR1.out.next hb2).next hb3)
  have HB3 := Lib.hid (next_ HB1.out (next_ hb2 hb3))
  have HRL3 := Lib.hid (show rb < (w2.alloc (.cells #[.slice A T'.length c, .int .i64 0, .int .i64 0] 92)).heap.size from Nat.lt_of_lt_of_le HRL.out (next_ hb2 hb3).size)
  have HTK := Lib.hid ((hrd.below hb3).more hb3.size)
  clear hlen hrd hb2 hb3
  go_upto_region 2 with fail
  generalize hw3 : w2.alloc (.cells #[.slice A T'.length c, .int .i64 0, .int .i64 0] 92) = w3 at hg HR3 HB3 HRL3 HTK ⊢
  clear hw3
  generalize w2.heap.size = gb at hg ⊢
  have x0 : w3.cell? ⟨gb, 0, none⟩ = some (.slice A T'.length c) := hg.cell 0
  have x1 : w3.cell? ⟨gb, 1, none⟩ = some (.int .i64 0) := hg.cell 1
  clear hg
  have hS := Blk.new w3 96 (rdC A c ⟨T', (s.size : Int), 0, [], [], 0⟩ ⟨none, 0, none, 0⟩)
  have hb4 := below_new w3 (.cells (rdC A c ⟨T', (s.size : Int), 0, [], [], 0⟩ ⟨none, 0, none, 0⟩) 96)
  have HS4 := Lib.hid (show RdSt w3.heap.size A c w3.heap.size ⟨T', (s.size : Int), 0, [], [], 0⟩ ⟨none, 0, none, 0⟩ (w3.alloc (.cells (rdC A c ⟨T', (s.size : Int), 0, [], [], 0⟩ ⟨none, 0, none, 0⟩) 96)) from
    ⟨hS, ⟨rfl, .inl ⟨rfl, rfl⟩⟩, ⟨rfl, .inl ⟨rfl, rfl⟩⟩, HTK.out.below hb4, Nat.le_refl _, by have := HLN.out; show T'.length ≤ 3000; omega, by show 0 ≤ 160; omega⟩)
  have HR4 := Lib.hid (HR3.out.next hb4)
  have HB4 := Lib.hid (next_ HB3.out hb4)
  have HRL4 := Lib.hid (show rb ≠ w3.heap.size ∧ rb < (w3.alloc (.cells (rdC A c ⟨T', (s.size : Int), 0, [], [], 0⟩ ⟨none, 0, none, 0⟩) 96)).heap.size from ⟨by have := HRL3.out; omega, by rw [World.size_alloc]; have := HRL3.out; omega⟩)
  have HW4 := Lib.hid (show w.heap.size ≤ w3.heap.size from HB3.out.size)
  clear hS hb4 HTK HRL HR1 HB1
  go_upto_region 5 with fail
  clear x0 x1
  replace HS4 := Lib.hid (show RdSt w3.heap.size A c w3.heap.size ⟨T', (s.size : Int), 0, [], [], 0⟩ ⟨none, 0, none, 0⟩ (w3.alloc (.cells #[.slice A T'.length c, .int .i64 0, .int .i64 (s.size : Int), .slice none 0 0, .slice none 0 0, .int .i64 0, .int .i64 0, .int .i64 0, .int .i64 0] 96)) from HS4.out)
  replace HR4 := Lib.hid (show Blk (w3.alloc (.cells #[.slice A T'.length c, .int .i64 0, .int .i64 (s.size : Int), .slice none 0 0, .slice none 0 0, .int .i64 0, .int .i64 0, .int .i64 0, .int .i64 0] 96)) rb 70 #[.slice none 0 0, .slice none 0 0, .int .i64 0, .int .i64 0, .int .i64 0] from HR4.out)
  replace HB4 := Lib.hid (show Below w.heap.size w (w3.alloc (.cells #[.slice A T'.length c, .int .i64 0, .int .i64 (s.size : Int), .slice none 0 0, .slice none 0 0, .int .i64 0, .int .i64 0, .int .i64 0, .int .i64 0] 96)) from HB4.out)
  replace HRL4 := Lib.hid (show rb ≠ w3.heap.size ∧ rb < (w3.alloc (.cells #[.slice A T'.length c, .int .i64 0, .int .i64 (s.size : Int), .slice none 0 0, .slice none 0 0, .int .i64 0, .int .i64 0, .int .i64 0, .int .i64 0] 96)).heap.size from HRL4.out)
  generalize w3.alloc (.cells #[.slice A T'.length c, .int .i64 0, .int .i64 (s.size : Int), .slice none 0 0, .slice none 0 0, .int .i64 0, .int .i64 0, .int .i64 0, .int .i64 0] 96) = w4 at HS4 HR4 HB4 HRL4 ⊢
  clear HR3 HB3 HRL3
  generalize w3.heap.size = g at HS4 HRL4 HW4 ⊢
  have HT4 := Lib.hid (To.refl g ⟨none, 0, none, 0⟩ w4)
  generalize hz : (⟨T', (s.size : Int), 0, [], [], 0⟩ : Rd) = S0 at HS4 F1
  clear hz
  replace F1 := F1.out
  simp only [typesF, Option.bind_eq_bind, Option.bind_eq_some_iff, Prod.exists, ifo, req_some, and2, notf, some2, Option.some.injEq] at F1
  go_wp2_with fail
  refine wp_loop_rounds 3 ?_
  rw [rounds_succ]
  go_wp2_with fail
  rcases F1 with ⟨b1, Sa, f1, F1⟩ | ⟨b1, rfl⟩
  · have B1 := Lib.hid b1
    have FF := Lib.hid f1
    clear b1 f1
    refine (c44 sType HS4.out).mono ?_
    rintro e w5 ⟨rfl, hb⟩
    rw [B1.out]
    have HS5 := Lib.hid (HS4.out.below hb)
    have HT5 := Lib.hid (HT4.out.below hb)
    clear hb HS4 HT4 
    go_wp2_with fail
    refine (c45 HS5.out FF.out).mono ?_
    rintro e w6 ⟨rfl, R6, hS, hT⟩
    have HS6 := Lib.hid (hS)
    have HT6 := Lib.hid (HT5.out.trans hT)
    clear hS hT HS5 HT5 
    go_wp2_with fail
    clear B1 FF
    rw [rounds_succ]
    go_wp2_with fail
    rcases F1 with ⟨b1, Sa, f1, F1⟩ | ⟨b1, rfl⟩
    · have B1 := Lib.hid b1
      have FF := Lib.hid f1
      clear b1 f1
      refine (c44 sType HS6.out).mono ?_
      rintro e w7 ⟨rfl, hb⟩
      rw [B1.out]
      have HS7 := Lib.hid (HS6.out.below hb)
      have HT7 := Lib.hid (HT6.out.below hb)
      clear hb HS6 HT6 
      go_wp2_with fail
      refine (c45 HS7.out FF.out).mono ?_
      rintro e w8 ⟨rfl, R8, hS, hT⟩
      have HS8 := Lib.hid (hS)
      have HT8 := Lib.hid (HT7.out.trans hT)
      clear hS hT HS7 HT7 
      go_wp2_with fail
      clear B1 FF
      rw [rounds_succ]
      go_wp2_with fail
      rcases F1 with ⟨b1, Sa, f1, F1⟩ | ⟨b1, rfl⟩
      · have B1 := Lib.hid b1
        have FF := Lib.hid f1
        clear b1 f1
        refine (c44 sType HS8.out).mono ?_
        rintro e w9 ⟨rfl, hb⟩
        rw [B1.out]
        have HS9 := Lib.hid (HS8.out.below hb)
        have HT9 := Lib.hid (HT8.out.below hb)
        clear hb HS8 HT8 
        go_wp2_with fail
        refine (c45 HS9.out FF.out).mono ?_
        rintro e w10 ⟨rfl, R10, hS, hT⟩
        have HS10 := Lib.hid (hS)
        have HT10 := Lib.hid (HT9.out.trans hT)
        clear hS hT HS9 HT9 
        go_wp2_with fail
        clear B1 FF
        cases F1
      · have B1 := Lib.hid b1
        clear b1
        refine (c44 sType HS8.out).mono ?_
        rintro e w9 ⟨rfl, hb⟩
        rw [B1.out]
        have HS9 := Lib.hid (HS8.out.below hb)
        have HT9 := Lib.hid (HT8.out.below hb)
        clear hb HS8 HT8 
        go_wp2_with fail
        clear B1
        refine (c46 30 _ _ _ _ _ _ _ _ _ HS9.out F2.out).mono ?_
        rintro e w10 ⟨rfl, R10, hS, hT⟩
        have HS10 := Lib.hid (hS)
        have HT10 := Lib.hid (HT9.out.trans hT)
        clear hS hT HS9 HT9 
        go_upto_region 8 with fail
        have g0 := HS10.out.g0
        have g1 := HS10.out.g1
        have g7 := HS10.out.g7
        rw [F3.out] at g1
        have hnl : ¬ ((S2.L.length : Int) < (S2.L.length : Int)) := by omega
        go_quiet (fail)
        have HS11 := Lib.hid (HS10.out.drewN nq)
        have HT11 := Lib.hid (HT10.out.drewN nq)
        clear g0 g1 g7 hnl HS10 HT10
        generalize w10.drewN nq = w11 at HS11 HT11 ⊢
        clear nq
        have g7 := HS11.out.g7
        have g5 := HS11.out.g5
        have z5 := HS11.out.fz 5
        go_upto_region 13 with fail
        clear g7 g5 z5
        have HN := Lib.hid (show rb < w4.heap.size from HRL4.out.2)
        have HRX := Lib.hid (show Blk w11 rb 70 #[.slice none 0 0, .slice none 0 0, .int .i64 0, .int .i64 0, .int .i64 0] from (HT11.out.block rb HRL4.out.2 HRL4.out.1 (fun h => by cases h) (fun h => by cases h)).trans HR4.out)
        have HBX := Lib.hid (show Below w.heap.size w w11 from ⟨HT11.out.os.trans HB4.out.os, HT11.out.tape.trans HB4.out.tape, HT11.out.output.trans HB4.out.output, Nat.le_trans HB4.out.size HT11.out.size, fun i hi => (HT11.out.block i (Nat.lt_of_lt_of_le hi HB4.out.size) (by have := HW4.out; omega) (fun h => by cases h) (fun h => by cases h)).trans (HB4.out.block i hi)⟩)
        have hg := HS11.out.blk
        have HG := Lib.hid (hg.set_ 5 (.int .i64 k))
        have HNO := Lib.hid (show (w11.setCell ⟨g, 5, none⟩ (.int .i64 k)).ownsRow g 30 8 (.slice R10.A S2.nodes.length R10.c) S2.nodes.length (S2.nodes.flatMap nodC) from own_set HS11.out.nod hg (by decide))
        have HTY := Lib.hid (show (w11.setCell ⟨g, 5, none⟩ (.int .i64 k)).ownsRow g 3 1 (.slice R10.A' S2.types.length R10.c') S2.types.length (S2.types.map intV) from own_set HS11.out.typ hg (by decide))
        have HRY := Lib.hid (HRX.out.far (p := ⟨g, 5, none⟩) (fun e => HRL4.out.1 e) (.int .i64 k))
        have HBY := Lib.hid (HBX.out.setCell (p := ⟨g, 5, none⟩) HW4.out (.int .i64 k))
        clear hg HS11 HT11
        generalize w11.setCell ⟨g, 5, none⟩ (.int .i64 k) = wz at HG HNO HTY HRY HBY ⊢
        have y3 : wz.cell? ⟨g, 3, none⟩ = some (.slice R10.A S2.nodes.length R10.c) := HG.out.cell 3
        have y4 : wz.cell? ⟨g, 4, none⟩ = some (.slice R10.A' S2.types.length R10.c') := HG.out.cell 4
        have y5 : wz.cell? ⟨g, 5, none⟩ = some (.int .i64 k) := HG.out.cell 5
        have r0 : wz.cell? ⟨rb, 0, none⟩ = some (.slice none 0 0) := HRY.out.cell 0
        have r1 : wz.cell? ⟨rb, 1, none⟩ = some (.slice none 0 0) := HRY.out.cell 1
        have r2 : wz.cell? ⟨rb, 2, none⟩ = some (.int .i64 0) := HRY.out.cell 2
        have r3 : wz.cell? ⟨rb, 3, none⟩ = some (.int .i64 0) := HRY.out.cell 3
        have r4 : wz.cell? ⟨rb, 4, none⟩ = some (.int .i64 0) := HRY.out.cell 4
        have q0 := HRY.out.frozen 0
        have q1 := HRY.out.frozen 1
        have q2 := HRY.out.frozen 2
        have q3 := HRY.out.frozen 3
        have q4 := HRY.out.frozen 4
        go_wp2_with fail
        exact bodyPost_ret (results_cell_row rfl _ _ _ 70 _ (0, 0) _ rfl (row5 HRY.out) Tryd.underlying70 rfl (by kernel_rfl)) rfl ⟨_, _, _, _, rfl,
          ⟨own_mono (keep5 (P := fun w => w.ownsRow _ 30 8 (.slice R10.A S2.nodes.length R10.c) S2.nodes.length (S2.nodes.flatMap nodC)) HRY.out HNO.out (fun w cs i u hb hp => own_set hp hb (by decide))) HW4.out,
           own_mono (keep5 (P := fun w => w.ownsRow _ 3 1 (.slice R10.A' S2.types.length R10.c') S2.types.length (S2.types.map intV)) HRY.out HTY.out (fun w cs i u hb hp => own_set hp hb (by decide))) HW4.out⟩,
          keep5 (P := fun w' => Below w.heap.size w w') HRY.out HBY.out (fun w' cs i u hb hp => hp.setCell (p := ⟨rb, i, none⟩) (by rw [HRB.out]; exact Nat.le_refl _) u)⟩
    · have B1 := Lib.hid b1
      clear b1
      refine (c44 sType HS6.out).mono ?_
      rintro e w7 ⟨rfl, hb⟩
      rw [B1.out]
      have HS7 := Lib.hid (HS6.out.below hb)
      have HT7 := Lib.hid (HT6.out.below hb)
      clear hb HS6 HT6 
      go_wp2_with fail
      clear B1
      refine (c46 30 _ _ _ _ _ _ _ _ _ HS7.out F2.out).mono ?_
      rintro e w8 ⟨rfl, R8, hS, hT⟩
      have HS8 := Lib.hid (hS)
      have HT8 := Lib.hid (HT7.out.trans hT)
      clear hS hT HS7 HT7 
      go_upto_region 8 with fail
      have g0 := HS8.out.g0
      have g1 := HS8.out.g1
      have g7 := HS8.out.g7
      rw [F3.out] at g1
      have hnl : ¬ ((S2.L.length : Int) < (S2.L.length : Int)) := by omega
      go_quiet (fail)
      have HS9 := Lib.hid (HS8.out.drewN nq)
      have HT9 := Lib.hid (HT8.out.drewN nq)
      clear g0 g1 g7 hnl HS8 HT8
      generalize w8.drewN nq = w9 at HS9 HT9 ⊢
      clear nq
      have g7 := HS9.out.g7
      have g5 := HS9.out.g5
      have z5 := HS9.out.fz 5
      go_upto_region 13 with fail
      clear g7 g5 z5
      have HN := Lib.hid (show rb < w4.heap.size from HRL4.out.2)
      have HRX := Lib.hid (show Blk w9 rb 70 #[.slice none 0 0, .slice none 0 0, .int .i64 0, .int .i64 0, .int .i64 0] from (HT9.out.block rb HRL4.out.2 HRL4.out.1 (fun h => by cases h) (fun h => by cases h)).trans HR4.out)
      have HBX := Lib.hid (show Below w.heap.size w w9 from ⟨HT9.out.os.trans HB4.out.os, HT9.out.tape.trans HB4.out.tape, HT9.out.output.trans HB4.out.output, Nat.le_trans HB4.out.size HT9.out.size, fun i hi => (HT9.out.block i (Nat.lt_of_lt_of_le hi HB4.out.size) (by have := HW4.out; omega) (fun h => by cases h) (fun h => by cases h)).trans (HB4.out.block i hi)⟩)
      have hg := HS9.out.blk
      have HG := Lib.hid (hg.set_ 5 (.int .i64 k))
      have HNO := Lib.hid (show (w9.setCell ⟨g, 5, none⟩ (.int .i64 k)).ownsRow g 30 8 (.slice R8.A S2.nodes.length R8.c) S2.nodes.length (S2.nodes.flatMap nodC) from own_set HS9.out.nod hg (by decide))
      have HTY := Lib.hid (show (w9.setCell ⟨g, 5, none⟩ (.int .i64 k)).ownsRow g 3 1 (.slice R8.A' S2.types.length R8.c') S2.types.length (S2.types.map intV) from own_set HS9.out.typ hg (by decide))
      have HRY := Lib.hid (HRX.out.far (p := ⟨g, 5, none⟩) (fun e => HRL4.out.1 e) (.int .i64 k))
      have HBY := Lib.hid (HBX.out.setCell (p := ⟨g, 5, none⟩) HW4.out (.int .i64 k))
      clear hg HS9 HT9
      generalize w9.setCell ⟨g, 5, none⟩ (.int .i64 k) = wz at HG HNO HTY HRY HBY ⊢
      have y3 : wz.cell? ⟨g, 3, none⟩ = some (.slice R8.A S2.nodes.length R8.c) := HG.out.cell 3
      have y4 : wz.cell? ⟨g, 4, none⟩ = some (.slice R8.A' S2.types.length R8.c') := HG.out.cell 4
      have y5 : wz.cell? ⟨g, 5, none⟩ = some (.int .i64 k) := HG.out.cell 5
      have r0 : wz.cell? ⟨rb, 0, none⟩ = some (.slice none 0 0) := HRY.out.cell 0
      have r1 : wz.cell? ⟨rb, 1, none⟩ = some (.slice none 0 0) := HRY.out.cell 1
      have r2 : wz.cell? ⟨rb, 2, none⟩ = some (.int .i64 0) := HRY.out.cell 2
      have r3 : wz.cell? ⟨rb, 3, none⟩ = some (.int .i64 0) := HRY.out.cell 3
      have r4 : wz.cell? ⟨rb, 4, none⟩ = some (.int .i64 0) := HRY.out.cell 4
      have q0 := HRY.out.frozen 0
      have q1 := HRY.out.frozen 1
      have q2 := HRY.out.frozen 2
      have q3 := HRY.out.frozen 3
      have q4 := HRY.out.frozen 4
      go_wp2_with fail
      exact bodyPost_ret (results_cell_row rfl _ _ _ 70 _ (0, 0) _ rfl (row5 HRY.out) Tryd.underlying70 rfl (by kernel_rfl)) rfl ⟨_, _, _, _, rfl,
        ⟨own_mono (keep5 (P := fun w => w.ownsRow _ 30 8 (.slice R8.A S2.nodes.length R8.c) S2.nodes.length (S2.nodes.flatMap nodC)) HRY.out HNO.out (fun w cs i u hb hp => own_set hp hb (by decide))) HW4.out,
         own_mono (keep5 (P := fun w => w.ownsRow _ 3 1 (.slice R8.A' S2.types.length R8.c') S2.types.length (S2.types.map intV)) HRY.out HTY.out (fun w cs i u hb hp => own_set hp hb (by decide))) HW4.out⟩,
        keep5 (P := fun w' => Below w.heap.size w w') HRY.out HBY.out (fun w' cs i u hb hp => hp.setCell (p := ⟨rb, i, none⟩) (by rw [HRB.out]; exact Nat.le_refl _) u)⟩
  · have B1 := Lib.hid b1
    clear b1
    refine (c44 sType HS4.out).mono ?_
    rintro e w5 ⟨rfl, hb⟩
    rw [B1.out]
    have HS5 := Lib.hid (HS4.out.below hb)
    have HT5 := Lib.hid (HT4.out.below hb)
    clear hb HS4 HT4 
    go_wp2_with fail
    clear B1
    refine (c46 30 _ _ _ _ _ _ _ _ _ HS5.out F2.out).mono ?_
    rintro e w6 ⟨rfl, R6, hS, hT⟩
    have HS6 := Lib.hid (hS)
    have HT6 := Lib.hid (HT5.out.trans hT)
    clear hS hT HS5 HT5 
    go_upto_region 8 with fail
    have g0 := HS6.out.g0
    have g1 := HS6.out.g1
    have g7 := HS6.out.g7
    rw [F3.out] at g1
    have hnl : ¬ ((S2.L.length : Int) < (S2.L.length : Int)) := by omega
    go_quiet (fail)
    have HS7 := Lib.hid (HS6.out.drewN nq)
    have HT7 := Lib.hid (HT6.out.drewN nq)
    clear g0 g1 g7 hnl HS6 HT6
    generalize w6.drewN nq = w7 at HS7 HT7 ⊢
    clear nq
    have g7 := HS7.out.g7
    have g5 := HS7.out.g5
    have z5 := HS7.out.fz 5
    go_upto_region 13 with fail
    clear g7 g5 z5
    have HN := Lib.hid (show rb < w4.heap.size from HRL4.out.2)
    have HRX := Lib.hid (show Blk w7 rb 70 #[.slice none 0 0, .slice none 0 0, .int .i64 0, .int .i64 0, .int .i64 0] from (HT7.out.block rb HRL4.out.2 HRL4.out.1 (fun h => by cases h) (fun h => by cases h)).trans HR4.out)
    have HBX := Lib.hid (show Below w.heap.size w w7 from ⟨HT7.out.os.trans HB4.out.os, HT7.out.tape.trans HB4.out.tape, HT7.out.output.trans HB4.out.output, Nat.le_trans HB4.out.size HT7.out.size, fun i hi => (HT7.out.block i (Nat.lt_of_lt_of_le hi HB4.out.size) (by have := HW4.out; omega) (fun h => by cases h) (fun h => by cases h)).trans (HB4.out.block i hi)⟩)
    have hg := HS7.out.blk
    have HG := Lib.hid (hg.set_ 5 (.int .i64 k))
    have HNO := Lib.hid (show (w7.setCell ⟨g, 5, none⟩ (.int .i64 k)).ownsRow g 30 8 (.slice R6.A S2.nodes.length R6.c) S2.nodes.length (S2.nodes.flatMap nodC) from own_set HS7.out.nod hg (by decide))
    have HTY := Lib.hid (show (w7.setCell ⟨g, 5, none⟩ (.int .i64 k)).ownsRow g 3 1 (.slice R6.A' S2.types.length R6.c') S2.types.length (S2.types.map intV) from own_set HS7.out.typ hg (by decide))
    have HRY := Lib.hid (HRX.out.far (p := ⟨g, 5, none⟩) (fun e => HRL4.out.1 e) (.int .i64 k))
    have HBY := Lib.hid (HBX.out.setCell (p := ⟨g, 5, none⟩) HW4.out (.int .i64 k))
    clear hg HS7 HT7
    generalize w7.setCell ⟨g, 5, none⟩ (.int .i64 k) = wz at HG HNO HTY HRY HBY ⊢
    have y3 : wz.cell? ⟨g, 3, none⟩ = some (.slice R6.A S2.nodes.length R6.c) := HG.out.cell 3
    have y4 : wz.cell? ⟨g, 4, none⟩ = some (.slice R6.A' S2.types.length R6.c') := HG.out.cell 4
    have y5 : wz.cell? ⟨g, 5, none⟩ = some (.int .i64 k) := HG.out.cell 5
    have r0 : wz.cell? ⟨rb, 0, none⟩ = some (.slice none 0 0) := HRY.out.cell 0
    have r1 : wz.cell? ⟨rb, 1, none⟩ = some (.slice none 0 0) := HRY.out.cell 1
    have r2 : wz.cell? ⟨rb, 2, none⟩ = some (.int .i64 0) := HRY.out.cell 2
    have r3 : wz.cell? ⟨rb, 3, none⟩ = some (.int .i64 0) := HRY.out.cell 3
    have r4 : wz.cell? ⟨rb, 4, none⟩ = some (.int .i64 0) := HRY.out.cell 4
    have q0 := HRY.out.frozen 0
    have q1 := HRY.out.frozen 1
    have q2 := HRY.out.frozen 2
    have q3 := HRY.out.frozen 3
    have q4 := HRY.out.frozen 4
    go_wp2_with fail
    exact bodyPost_ret (results_cell_row rfl _ _ _ 70 _ (0, 0) _ rfl (row5 HRY.out) Tryd.underlying70 rfl (by kernel_rfl)) rfl ⟨_, _, _, _, rfl,
      ⟨own_mono (keep5 (P := fun w => w.ownsRow _ 30 8 (.slice R6.A S2.nodes.length R6.c) S2.nodes.length (S2.nodes.flatMap nodC)) HRY.out HNO.out (fun w cs i u hb hp => own_set hp hb (by decide))) HW4.out,
       own_mono (keep5 (P := fun w => w.ownsRow _ 3 1 (.slice R6.A' S2.types.length R6.c') S2.types.length (S2.types.map intV)) HRY.out HTY.out (fun w cs i u hb hp => own_set hp hb (by decide))) HW4.out⟩,
      keep5 (P := fun w' => Below w.heap.size w w') HRY.out HBY.out (fun w' cs i u hb hp => hp.setCell (p := ⟨rb, i, none⟩) (by rw [HRB.out]; exact Nat.le_refl _) u)⟩
def OfTEnd (t : Tre) (w : World) (e : Ending) (w' : World) : Prop := ∃ (A : Option Addr) (c : Nat) (A' : Option Addr) (c' : Nat), e = .returned (treV A c A' c' t) ∧ TreOwn w.heap.size w' A A' c c' t ∧ Below w.heap.size w w'
theorem run_tree70 (a b : Value) (r x y : Int) (w : World) (ha : a.oneCell' = true) (hb : b.oneCell' = true) : (Instr.field 70 (.agg #[a, b, .int .i64 r, .int .i64 x, .int .i64 y]) 0).run Tryd.prog w = .ok (.agg #[a, b, .int .i64 r]) w := by
  kernel_rfl
theorem keep3 {B : Nat} {w : World} {A A' : Option Addr} {c c' : Nat} {t : Tre} {b : Nat} {u0 u1 u2 v0 v1 v2 : Value} (h : Blk w b 25 #[u0, u1, u2]) (hp : TreOwn B w A A' c c' t) :
    TreOwn B (((w.setCell ⟨b, 0, none⟩ v0).setCell ⟨b, 1, none⟩ v1).setCell ⟨b, 2, none⟩ v2) A A' c c' t :=
  ⟨own_set (own_set (own_set hp.nod h (by decide)) (h.set_ 0 v0) (by decide)) ((h.set_ 0 v0).set_ 1 v1) (by decide), own_set (own_set (own_set hp.typ h (by decide)) (h.set_ 0 v0) (by decide)) ((h.set_ 0 v0).set_ 1 v1) (by decide)⟩
set_option maxRecDepth 100000 in
set_option maxHeartbeats 8000000 in
theorem c16 (s : ByteArray) (hs : s.size ≤ 2000) {n : Nat} {T : List Tok} {t : Tre} (hL : lexL n (lis s) 0 = some T) (hG : treeG T s.size = some t) (w : World) : Calls Tryd.prog 16 #[.string s] w (OfTEnd t w) := by
  have HL := Lib.hid hL
  have HG := Lib.hid hG
  clear hL hG
  have hR := Blk.new w 25 #[.slice none 0 0, .slice none 0 0, .int .i64 0]
  have hb := below_new w (.cells #[.slice none 0 0, .slice none 0 0, .int .i64 0] 25)
  go_enter Tryd.func16, Tryd.ntmps16
  go_upto_region 1 with fail
  generalize w.alloc (.cells #[.slice none 0 0, .slice none 0 0, .int .i64 0] 25) = w1 at hR hb ⊢
  generalize hrb : w.heap.size = rb at hR ⊢
  have HRB := Lib.hid hrb
  have HLE := Lib.hid (show rb ≤ w1.heap.size by rw [← hrb]; exact hb.size)
  have HR1 := Lib.hid hR
  have HB1 := Lib.hid hb
  clear hR hb hrb
  go_wp2_with fail
  refine (c29 s hs HL.out HG.out w1).mono ?_
  rintro e w2 ⟨A, c, A', c', rfl, hT, hb2⟩
  have HT := Lib.hid hT
  have HR2 := Lib.hid (HR1.out.next hb2)
  have HB2 := Lib.hid (next_ HB1.out hb2)
  clear hT hb2 HR1 HB1
  have hfd := run_tree70 (.slice A t.l.length c) (.slice A' t.y.length c') t.r 0 0 w2 rfl rfl
  have r0 : w2.cell? ⟨rb, 0, none⟩ = some (.slice none 0 0) := HR2.out.cell 0
  have r1 : w2.cell? ⟨rb, 1, none⟩ = some (.slice none 0 0) := HR2.out.cell 1
  have r2 : w2.cell? ⟨rb, 2, none⟩ = some (.int .i64 0) := HR2.out.cell 2
  have q0 := HR2.out.frozen 0
  have q1 := HR2.out.frozen 1
  have q2 := HR2.out.frozen 2
  go_wp2_with fail
  exact bodyPost_ret (results_cell_row rfl _ _ _ 25 _ (0, 0) _ rfl (row3 HR2.out) Tryd.underlying25 rfl (by kernel_rfl)) rfl ⟨A, c, A', c', rfl, keep3 HR2.out ⟨own_mono HT.out.nod (by rw [HRB.out]; have := HLE.out; omega), own_mono HT.out.typ (by rw [HRB.out]; have := HLE.out; omega)⟩, low3 (by rw [HRB.out]; exact Nat.le_refl _) HB2.out⟩
end Go.Proofs.YtphojigdapaaiaaDoor
