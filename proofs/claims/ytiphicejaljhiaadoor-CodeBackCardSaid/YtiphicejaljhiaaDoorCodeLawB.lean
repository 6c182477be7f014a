/- The walk of CodeBack: it returns true, whatever the program, the bytes and the byte are. -/
import Derived.Test.YtiphicejaljhiaaDoorCWakes
import Derived.Test.YtiphicejaljhiaaDoorKProg
import Derived.Test.YtiphicejaljhiaaDoorLarge
namespace Go.Proofs.YtiphicejaljhiaaDoor
open Go.ChangeShapes Go.WideShapes Go.ChangeAt Go.RowKit
theorem c31n {b : List UInt8} {n : Nat} (hn : b.length = n) (A : Option Addr) (c : Nat) (w : World) (ht : CodeTab w) (hr : Reads w w.heap.size 1 A n (cellsB b)) (hl : n ≤ 1099511627776) :
    Calls Tryd.prog 31 #[.slice A n c] w fun e w' => ∃ q : PrMem, e = .returned (.tuple #[q.val, .bool (dec b).isSome]) ∧ q.pr = (dec b).getD emptyPr ∧ PrOk w' w'.heap.size q ∧ Below w.heap.size w w' := by
  subst hn
  exact c31 b A c w ht hr hl
theorem reads_take {w : World} {B m : Nat} {A : Option Addr} {l : List UInt8} (h : Reads w B 1 A l.length (cellsB l)) (hm : m ≤ l.length) : Reads w B 1 A m (cellsB (l.take m)) := by
  refine ⟨by rw [cellsB_len, List.length_take]; omega, fun hn => ?_⟩
  obtain ⟨ad, e, hb, hc⟩ := h.2 (by omega)
  refine ⟨ad, e, hb, fun j u hj => hc j u ?_⟩
  unfold cellsB at hj ⊢
  rw [List.map_take, List.getElem?_take] at hj
  split at hj
  · exact hj
  · cases hj
set_option maxRecDepth 100000 in
set_option maxHeartbeats 16000000 in
theorem c8 (q : PrMem) (b : List UInt8) (Ab : Option Addr) (cb : Nat) (more : UInt8) (w : World) (ht : CodeTab w) (hq : PrOk w w.heap.size q) (hb : Reads w w.heap.size 1 Ab b.length (cellsB b)) (hbl : b.length ≤ maxLen) :
    Calls Tryd.prog 8 #[q.val, .slice Ab b.length cb, .int .u8 (more.toNat : Int)] w fun e w' => e = .returned (.bool true) ∧ Below w.heap.size w w' := by
  have HT := Lib.hid ht
  unfold maxLen at hbl
  obtain ⟨AF, cF, L, AS, cS, S, AM, cM, M⟩ := q
  simp only [PrMem.val]
  have P1 := Blk.new w 42 #[.slice AF L.length cF, .slice AS S.length cS, .slice AM M.length cM]
  have B1 := Lib.hid (below_new w (.cells #[.slice AF L.length cF, .slice AS S.length cS, .slice AM M.length cM] 42))
  have Q1 := Lib.hid (hq.next B1.out)
  have HRB := Lib.hid hb
  clear hq ht hb
  go_enter Tryd.func8, Tryd.ntmps8
  go_wp2_with fail
  refine (c25 _ _ Q1.out).mono ?_
  rintro e w2 ⟨rfl, b2⟩
  have B2 := Lib.hid (next_ B1.out b2)
  have Q2 := Lib.hid (Q1.out.next b2)
  have P2 := P1.next b2
  clear b2 P1
  have n0 := P2.cell 0
  have n1 := P2.cell 1
  have n2 := P2.cell 2
  generalize gLarge _ = big
  cases big
  case true =>
    go_wp2_with fail
    refine (c26 w2 (HT.out.next B2.out)).mono ?_
    rintro e w3 ⟨rfl, b3⟩
    go_wp2_with fail
    go_ret
    exact ⟨rfl, next_ B2.out b3⟩
  case false =>
    by_cases hb6 : 6000 < b.length
    · have f6 : decide ((6000 : Int) < (b.length : Int)) = true := decide_eq_true (by omega)
      clear hb6
      go_wp2_with fail
      refine (c26 w2 (HT.out.next B2.out)).mono ?_
      rintro e w3 ⟨rfl, b3⟩
      go_wp2_with fail
      go_ret
      exact ⟨rfl, next_ B2.out b3⟩
    have f6 : decide ((6000 : Int) < (b.length : Int)) = false := decide_eq_false (by omega)
    have HB6 := Lib.hid (show b.length ≤ 6000 by omega)
    clear hb6
    go_wp2_with fail
    refine (c28 _ w2 (HT.out.next B2.out) Q2.out).mono ?_
    rintro e w3 ⟨v3, rfl, ho3, b3⟩
    have B3 := Lib.hid (next_ B2.out b3)
    have Q3 := Lib.hid (Q2.out.next b3)
    have P3 := P2.next b3
    clear n0 n1 n2 P2 b3
    generalize hpr : (PrMem.mk AF cF L AS cS S AM cM M).pr = p at ho3
    have HP := Lib.hid hpr
    clear hpr
    cases hgp : gPr p
    · have HGP := Lib.hid hgp
      obtain ⟨a3, c3, rfl⟩ := own_form ho3
      clear hgp ho3
      go_wp2_with fail
      have RB := Lib.hid ((HRB.out.below B3.out).more B3.out.size)
      refine (c31 b Ab cb w3 (HT.out.next B3.out) RB.out (by have := HB6.out; omega)).mono ?_
      rintro e w15 ⟨q15, rfl, hq15, hok15, b15⟩
      have B15 := Lib.hid (next_ B3.out b15)
      have R15 := Lib.hid ((RB.out.below b15).more b15.size)
      have K15 := Lib.hid hok15
      have HQ15 := Lib.hid hq15
      clear b15 hok15 hq15
      obtain ⟨AF5, cF5, L5, AS5, cS5, S5, AM5, cM5, M5⟩ := q15
      simp only [PrMem.val]
      have b16 := below_new w15 (.cells #[.slice AF5 L5.length cF5, .slice AS5 S5.length cS5, .slice AM5 M5.length cM5] 42)
      have B16 := Lib.hid (next_ B15.out b16)
      have K16 := Lib.hid (K15.out.next b16)
      have R16 := Lib.hid ((R15.out.below b16).more b16.size)
      have N16 := Blk.new w15 42 #[.slice AF5 L5.length cF5, .slice AS5 S5.length cS5, .slice AM5 M5.length cM5]
      clear b16
      cases hd : dec b with
      | none =>
        have HD := Lib.hid hd
        clear hd
        have hq : (PrMem.mk AF5 cF5 L5 AS5 cS5 S5 AM5 cM5 M5).pr = emptyPr := by rw [HQ15.out, HD.out]; rfl
        have hL : L5 = [] := List.map_eq_nil_iff.1 (congrArg Pr.funcs hq)
        have hS : S5 = [] := congrArg Pr.strs hq
        have hM : M5 = [] := List.map_eq_nil_iff.1 (congrArg Pr.forms hq)
        subst hL hS hM
        clear hq
        simp only [Option.isSome_none, List.length_nil]
        simp only [List.length_nil] at N16
        have y0 := N16.cell 0
        have y1 := N16.cell 1
        have y2 := N16.cell 2
        go_wp2_with fail
        refine (c26 _ (HT.out.next B16.out)).mono ?_
        rintro e w17 ⟨rfl, b17⟩
        go_wp2_with fail
        go_ret
        exact ⟨rfl, next_ B16.out b17⟩
      | some p2 =>
        have HD := Lib.hid hd
        clear hd
        have hq : (PrMem.mk AF5 cF5 L5 AS5 cS5 S5 AM5 cM5 M5).pr = p2 := by rw [HQ15.out, HD.out]; rfl
        have HQE := Lib.hid hq
        obtain ⟨hg2, he2⟩ := (dec_iff b p2).1 HD.out
        have HG2 := Lib.hid hg2
        have HE2 := Lib.hid (show gEnc p2 = b by unfold gEnc; rw [hg2, he2]; rfl)
        clear hq hg2 he2
        simp only [Option.isSome_some]
        go_wp2_with fail
        refine (c28 (PrMem.mk AF5 cF5 L5 AS5 cS5 S5 AM5 cM5 M5) _ (HT.out.next B16.out) K16.out).mono ?_
        rintro e w17 ⟨v17, rfl, ho17, b17⟩
        rw [HQE.out, HG2.out]
        rw [HQE.out, HE2.out] at ho17
        obtain ⟨a17, c17, rfl⟩ := own_form ho17
        have B17 := Lib.hid (next_ B16.out b17)
        have K17 := Lib.hid (K16.out.next b17)
        have R17 := Lib.hid (R16.out.below b17)
        have O17 := Lib.hid (Reads.of_own ho17)
        have N17 := N16.next b17
        clear b17 ho17
        have y0 := N17.cell 0
        have y1 := N17.cell 1
        have y2 := N17.cell 2
        go_wp2_with fail
        have h34 := c34 b b a17 Ab c17 cb _ _ w17 O17.out R17.out
        rw [beq_self_eq_true b] at h34
        refine h34.mono ?_
        clear h34
        rintro e w18 ⟨rfl, rfl⟩
        go_wp2_with fail
        refine (c33 (PrMem.mk AF5 cF5 L5 AS5 cS5 S5 AM5 cM5 M5) w17 (HT.out.next B17.out).op K17.out).mono ?_
        rintro e w19 ⟨rfl, b19⟩
        rw [HQE.out, HG2.out]
        have B19 := Lib.hid (next_ B17.out b19)
        clear b19
        go_wp2_with fail
        refine (c26 w19 (HT.out.next B19.out)).mono ?_
        rintro e w20 ⟨rfl, b20⟩
        go_wp2_with fail
        go_ret
        exact ⟨rfl, next_ B19.out b20⟩
    · have HGP := Lib.hid hgp
      have heq : gEnc p = ePr p := by unfold gEnc; rw [hgp]; rfl
      rw [heq] at ho3
      obtain ⟨a3, c3, rfl⟩ := own_form ho3
      have HLEN := ePr_len hgp
      have h3 : 3 ≤ (ePr p).length := by
        obtain ⟨l, hl⟩ := enc_three p
        rw [hl]; simp
      have hcap := own_cap ho3
      have HR3 := Lib.hid (Reads.of_own ho3)
      clear hgp heq ho3
      generalize hbs : ePr p = bs at HLEN h3
      have HBS := Lib.hid hbs
      rw [hbs] at HR3 hcap
      clear hbs
      have HCAP := Lib.hid hcap
      clear hcap
      go_wp2_with fail
      have HDB := Lib.hid (show dec bs = some p by rw [← HBS.out]; exact dec_enc HGP.out)
      refine (c31 bs a3 c3 w3 (HT.out.next B3.out) HR3.out (by omega)).mono ?_
      rintro e w4 ⟨q4, rfl, hq4, hok4, b4⟩
      rw [HDB.out] at hq4 ⊢
      have B4 := Lib.hid (next_ B3.out b4)
      have Q4 := Lib.hid (Q3.out.next b4)
      have P4 := P3.next b4
      have HOK4 := Lib.hid hok4
      have HQ4 := Lib.hid hq4
      have R4 := Lib.hid ((HR3.out.below b4).more b4.size)
      clear b4 hok4 hq4 P3
      obtain ⟨AF4, cF4, L4, AS4, cS4, S4, AM4, cM4, M4⟩ := q4
      simp only [PrMem.val, Option.isSome_some]
      have b5 := below_new w4 (.cells #[.slice AF4 L4.length cF4, .slice AS4 S4.length cS4, .slice AM4 M4.length cM4] 42)
      have b6 := below_new (w4.alloc (.cells #[.slice AF4 L4.length cF4, .slice AS4 S4.length cS4, .slice AM4 M4.length cM4] 42)) (.cells #[] 5)
      have N5 := Blk.new w4 42 #[.slice AF4 L4.length cF4, .slice AS4 S4.length cS4, .slice AM4 M4.length cM4]
      have B6 := Lib.hid (next_ B4.out (next_ b5 b6))
      have C6 := Lib.hid (next_ b5 b6)
      have R6 := Lib.hid (R4.out.below C6.out)
      have o6 : ((w4.alloc (.cells #[.slice AF4 L4.length cF4, .slice AS4 S4.length cS4, .slice AM4 M4.length cM4] 42)).alloc (.cells #[] 5)).ownsRow (w4.heap.size + 1) 5 1 (.slice (some ⟨w4.heap.size + 1, 0, none⟩) 0 0) 0 [] := ⟨rfl, .inr ⟨w4.heap.size + 1, 0, #[], rfl, Nat.le_refl _, by
        have h := heap_alloc_new (w4.alloc (.cells #[.slice AF4 L4.length cF4, .slice AS4 S4.length cS4, .slice AM4 M4.length cM4] 42)) (.cells #[] 5)
        rw [World.size_alloc] at h
        exact h, Nat.le_refl _, Nat.zero_le _, rfl, rfl⟩⟩
      have O6 := Lib.hid o6
      have hs6 := C6.out.size
      have P6 := (P4.alloc (.cells #[.slice AF4 L4.length cF4, .slice AS4 S4.length cS4, .slice AM4 M4.length cM4] 42)).alloc (.cells #[] 5)
      have N6 := N5.alloc (.cells #[] 5)
      clear o6 b5 b6 N5
      obtain ⟨i0, hi0, hz0, hz1, hz2⟩ := info_parts u8_info
      go_wp2_with (first
        | (at_builtin; refine wpList_append_any _ rfl (.tmp 39) (.tmp 40) _ rfl (w4.heap.size + 1) 5 i0 _ 1 1 Tryd.underlying43 hi0 hz0 hz1 hz2 rfl (by omega) _ 0 [] rfl O6.out w4.heap.size a3 bs.length c3 (cellsB bs) rfl R6.out (by intro u hu; unfold cellsB at hu; obtain ⟨b, _, rfl⟩ := List.mem_map.1 hu; rfl) (by unfold maxLen; omega) (by omega) (by rw [World.size_alloc, World.size_alloc]; omega) ?_; intro v7 w7 hown7 hg7 hat7; rw [Nat.zero_add, List.nil_append] at hown7; obtain ⟨a7, c7, rfl⟩ := own_form hown7; have HOW7 := Lib.hid hown7)
        | (at_builtin; refine wpList_append_any _ rfl (.tmp 41) (.tmp 43) _ rfl (w4.heap.size + 1) 5 i0 _ 1 1 Tryd.underlying43 hi0 hz0 hz1 hz2 rfl (by omega) (.slice a7 bs.length c7) bs.length (cellsB bs) rfl (hown7.alloc _) (w7.heap.size + 1) (some ⟨w7.heap.size, 0, none⟩) 1 1 [byV more] rfl (reads_one (Blk.new w7 5 #[byV more])) (by simp [Value.oneCell']) (by unfold maxLen; omega) (by omega) (by rw [World.size_alloc]; have := hg7.size; omega) ?_; intro v8 w8 hown8 hg8 hat8; obtain ⟨a8, c8, rfl⟩ := own_form hown8))
      have D7 := C6.out.grown hg7 hs6 (fun j e => by have := (O6.out.lt j e).1; omega)
      have D8 := Lib.hid ((D7.alloc D7.size (.cells #[byV more] 5)).grown hg8 (by rw [World.size_alloc]; have := D7.size; omega) (fun j e => by have := (HOW7.out.lt j e).1; omega))
      have N8 := blk_row ((blk_row N6 O6.out hg7 (by decide)).alloc (.cells #[byV more] 5)) (HOW7.out.alloc (.cells #[byV more] 5)) hg8 (by decide)
      have B8 := Lib.hid (next_ B4.out D8.out)
      have Q8 := Lib.hid (Q4.out.next D8.out)
      have P8 := P4.next D8.out
      have R8 := Lib.hid ((R4.out.below D8.out).more D8.out.size)
      have K8 := Lib.hid (HOK4.out.next D8.out)
      have M8 := Lib.hid (Reads.of_own hown8)
      clear hown7 hown8 hg7 hg8 hat7 hat8 D7 N6 P6 P4
      have hrn : cellsB bs ++ [byV more] = cellsB (bs ++ [more]) := by rw [cellsB_append]; rfl
      rw [hrn] at M8
      refine (c31n (b := bs ++ [more]) (by simp) a8 c8 w8 (HT.out.next B8.out) M8.out (by omega)).mono ?_
      rintro e w9 ⟨q9, rfl, _, _, b9⟩
      have hd9 : dec (bs ++ [more]) = none := by rw [← HBS.out]; exact dec_more HGP.out more
      rw [hd9]
      clear hd9 hrn
      obtain ⟨AF9, cF9, L9, AS9, cS9, S9, AM9, cM9, M9⟩ := q9
      simp only [PrMem.val, Option.isSome_none]
      have b10 := next_ b9 (below_new w9 (.cells #[.slice AF9 L9.length cF9, .slice AS9 S9.length cS9, .slice AM9 M9.length cM9] 42))
      have B10 := Lib.hid (next_ B8.out b10)
      have Q10 := Lib.hid (Q8.out.next b10)
      have P10 := P8.next b10
      have N10 := N8.next b10
      have K10 := Lib.hid (K8.out.next b10)
      have R10 := Lib.hid ((R8.out.below b10).more b10.size)
      clear b9 b10 N8 P8
      have hcap := HCAP.out
      obtain ⟨m, hm⟩ : ∃ m, bs.length = m + 1 := ⟨bs.length - 1, by omega⟩
      rw [hm] at hcap ⊢
      have W1 : IntKind.i64.wrap (((m + 1 : Nat) : Int) - 1) = (m : Int) := (IntWalk.i64_in _ (by omega)).trans (by omega)
      have hm0 : (0 : Int) < (m : Int) := by omega
      have hmc : (m : Int) ≤ (c3 : Int) := by omega
      have HM := Lib.hid hm
      have hdl : dec (bs.take m) = none := by
        have h := dec_less HGP.out
        rw [HBS.out, hm] at h
        exact h
      have HDL := Lib.hid hdl
      have RT := Lib.hid (reads_take R10.out (m := m) (by omega))
      have hml : (bs.take m).length = m := by rw [List.length_take]; omega
      have hm40 : m ≤ 1099511627776 := by omega
      clear hdl hm
      go_wp2_with fail
      refine (c31n (b := bs.take m) hml a3 c3 _ (HT.out.next B10.out) RT.out hm40).mono ?_
      rintro e w11 ⟨q11, rfl, _, _, b11⟩
      rw [HDL.out]
      obtain ⟨AF11, cF11, L11, AS11, cS11, S11, AM11, cM11, M11⟩ := q11
      simp only [PrMem.val, Option.isSome_none]
      have b12 := next_ b11 (below_new w11 (.cells #[.slice AF11 L11.length cF11, .slice AS11 S11.length cS11, .slice AM11 M11.length cM11] 42))
      have B12 := Lib.hid (next_ B10.out b12)
      have Q12 := Lib.hid (Q10.out.next b12)
      have P12 := P10.next b12
      have N12 := N10.next b12
      have K12 := Lib.hid (K10.out.next b12)
      clear b11 b12 N10 P10 hml
      have n0 := P12.cell 0
      have n1 := P12.cell 1
      have n2 := P12.cell 2
      have x0 := N12.cell 0
      have x1 := N12.cell 1
      have x2 := N12.cell 2
      go_wp2_with fail
      refine (c35 (PrMem.mk AF4 cF4 L4 AS4 cS4 S4 AM4 cM4 M4) (PrMem.mk AF cF L AS cS S AM cM M) true (by rw [HQ4.out, HP.out]; simp) _ K12.out Q12.out).mono ?_
      rintro e w13 ⟨rfl, b13⟩
      have B13 := Lib.hid (next_ B12.out b13)
      clear b13
      go_wp2_with fail
      have RB := Lib.hid ((HRB.out.below B13.out).more B13.out.size)
      refine (c31 b Ab cb w13 (HT.out.next B13.out) RB.out (by have := HB6.out; omega)).mono ?_
      rintro e w15 ⟨q15, rfl, hq15, hok15, b15⟩
      have B15 := Lib.hid (next_ B13.out b15)
      have R15 := Lib.hid ((RB.out.below b15).more b15.size)
      have K15 := Lib.hid hok15
      have HQ15 := Lib.hid hq15
      clear b15 hok15 hq15
      obtain ⟨AF5, cF5, L5, AS5, cS5, S5, AM5, cM5, M5⟩ := q15
      simp only [PrMem.val]
      have b16 := below_new w15 (.cells #[.slice AF5 L5.length cF5, .slice AS5 S5.length cS5, .slice AM5 M5.length cM5] 42)
      have B16 := Lib.hid (next_ B15.out b16)
      have K16 := Lib.hid (K15.out.next b16)
      have R16 := Lib.hid ((R15.out.below b16).more b16.size)
      have N16 := Blk.new w15 42 #[.slice AF5 L5.length cF5, .slice AS5 S5.length cS5, .slice AM5 M5.length cM5]
      clear b16
      cases hd : dec b with
      | none =>
        have HD := Lib.hid hd
        clear hd
        have hq : (PrMem.mk AF5 cF5 L5 AS5 cS5 S5 AM5 cM5 M5).pr = emptyPr := by rw [HQ15.out, HD.out]; rfl
        have hL : L5 = [] := List.map_eq_nil_iff.1 (congrArg Pr.funcs hq)
        have hS : S5 = [] := congrArg Pr.strs hq
        have hM : M5 = [] := List.map_eq_nil_iff.1 (congrArg Pr.forms hq)
        subst hL hS hM
        clear hq
        simp only [Option.isSome_none, List.length_nil]
        simp only [List.length_nil] at N16
        have y0 := N16.cell 0
        have y1 := N16.cell 1
        have y2 := N16.cell 2
        go_wp2_with fail
        refine (c26 _ (HT.out.next B16.out)).mono ?_
        rintro e w17 ⟨rfl, b17⟩
        go_wp2_with fail
        go_ret
        exact ⟨rfl, next_ B16.out b17⟩
      | some p2 =>
        have HD := Lib.hid hd
        clear hd
        have hq : (PrMem.mk AF5 cF5 L5 AS5 cS5 S5 AM5 cM5 M5).pr = p2 := by rw [HQ15.out, HD.out]; rfl
        have HQE := Lib.hid hq
        obtain ⟨hg2, he2⟩ := (dec_iff b p2).1 HD.out
        have HG2 := Lib.hid hg2
        have HE2 := Lib.hid (show gEnc p2 = b by unfold gEnc; rw [hg2, he2]; rfl)
        clear hq hg2 he2
        simp only [Option.isSome_some]
        go_wp2_with fail
        refine (c28 (PrMem.mk AF5 cF5 L5 AS5 cS5 S5 AM5 cM5 M5) _ (HT.out.next B16.out) K16.out).mono ?_
        rintro e w17 ⟨v17, rfl, ho17, b17⟩
        rw [HQE.out, HG2.out]
        rw [HQE.out, HE2.out] at ho17
        obtain ⟨a17, c17, rfl⟩ := own_form ho17
        have B17 := Lib.hid (next_ B16.out b17)
        have K17 := Lib.hid (K16.out.next b17)
        have R17 := Lib.hid (R16.out.below b17)
        have O17 := Lib.hid (Reads.of_own ho17)
        have N17 := N16.next b17
        clear b17 ho17
        have y0 := N17.cell 0
        have y1 := N17.cell 1
        have y2 := N17.cell 2
        go_wp2_with fail
        have h34 := c34 b b a17 Ab c17 cb _ _ w17 O17.out R17.out
        rw [beq_self_eq_true b] at h34
        refine h34.mono ?_
        clear h34
        rintro e w18 ⟨rfl, rfl⟩
        go_wp2_with fail
        refine (c33 (PrMem.mk AF5 cF5 L5 AS5 cS5 S5 AM5 cM5 M5) w17 (HT.out.next B17.out).op K17.out).mono ?_
        rintro e w19 ⟨rfl, b19⟩
        rw [HQE.out, HG2.out]
        have B19 := Lib.hid (next_ B17.out b19)
        clear b19
        go_wp2_with fail
        refine (c26 w19 (HT.out.next B19.out)).mono ?_
        rintro e w20 ⟨rfl, b20⟩
        go_wp2_with fail
        go_ret
        exact ⟨rfl, next_ B19.out b20⟩
end Go.Proofs.YtiphicejaljhiaaDoor
