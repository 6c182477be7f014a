/- The walk of CodeSpoilt: it returns true, whatever the program, the place and the byte are. -/
import Derived.Test.YtiphicejaljhiaaDoorCWakes
import Derived.Test.YtiphicejaljhiaaDoorKProg
import Derived.Test.YtiphicejaljhiaaDoorLarge
import Derived.Laws.BitsAllLaws
namespace Go.Proofs.YtiphicejaljhiaaDoor
open Go.ChangeShapes Go.WideShapes Go.ChangeAt Go.RowKit
set_option maxRecDepth 100000 in
set_option maxHeartbeats 8000000 in
theorem c10 (q : PrMem) (at' v : Int) (hat : 0 ≤ at' ∧ at' ≤ 65535) (hv : 0 ≤ v ∧ v ≤ 255) (w : World) (ht : CodeTab w) (hq : PrOk w w.heap.size q) : Calls Tryd.prog 10 #[q.val, .int .u16 at', .int .u8 v] w fun e w' => e = .returned (.bool true) ∧ Below w.heap.size w w' := by
  have HT := Lib.hid ht
  obtain ⟨AF, cF, L, AS, cS, S, AM, cM, M⟩ := q
  simp only [PrMem.val]
  have P1 := Blk.new w 42 #[.slice AF L.length cF, .slice AS S.length cS, .slice AM M.length cM]
  have B1 := Lib.hid (below_new w (.cells #[.slice AF L.length cF, .slice AS S.length cS, .slice AM M.length cM] 42))
  have Q1 := Lib.hid (hq.next B1.out)
  clear hq ht
  go_enter Tryd.func10, Tryd.ntmps10
  go_wp2_with fail
  refine (c25 _ _ Q1.out).mono ?_
  rintro e w2 ⟨rfl, b2⟩
  have B2 := Lib.hid (next_ B1.out b2)
  have Q2 := Lib.hid (Q1.out.next b2)
  have P2 := P1.next b2
  clear b2 P1
  have n0 := P2.cell 0
  have n1 := P2.cell 1
  have n2 := P2.cell 2
  generalize gLarge _ = big
  cases big
  case true =>
    go_wp2_with fail
    refine (c26 w2 (HT.out.next B2.out)).mono ?_
    rintro e w3 ⟨rfl, b3⟩
    go_wp2_with fail
    go_ret
    exact ⟨rfl, next_ B2.out b3⟩
  case false =>
    go_wp2_with fail
    refine (c28 _ w2 (HT.out.next B2.out) Q2.out).mono ?_
    rintro e w3 ⟨v3, rfl, ho3, b3⟩
    have B3 := Lib.hid (next_ B2.out b3)
    have Q3 := Lib.hid (Q2.out.next b3)
    have P3 := P2.next b3
    clear n0 n1 n2 P2 b3
    generalize hpr : (PrMem.mk AF cF L AS cS S AM cM M).pr = p at ho3
    have HP := Lib.hid hpr
    clear hpr
    cases hgp : gPr p
    · have HGP := Lib.hid hgp
      have heq : gEnc p = [] := by unfold gEnc; rw [hgp]; rfl
      rw [heq] at ho3
      obtain ⟨a3, c3, rfl⟩ := own_form ho3
      clear hgp heq ho3
      go_wp2_with fail
      refine (c26 w3 (HT.out.next B3.out)).mono ?_
      rintro e w5 ⟨rfl, b5⟩
      go_wp2_with fail
      go_ret
      exact ⟨rfl, next_ B3.out b5⟩
    · have HGP := Lib.hid hgp
      have heq : gEnc p = ePr p := by unfold gEnc; rw [hgp]; rfl
      rw [heq] at ho3
      obtain ⟨a3, c3, rfl⟩ := own_form ho3
      have HLEN := ePr_len hgp
      have h3 : 3 ≤ (ePr p).length := by
        obtain ⟨l, hl⟩ := enc_three p
        rw [hl]; simp
      have HO3 := Lib.hid ho3
      have HR3 := Lib.hid (Reads.of_own ho3)
      clear hgp heq ho3
      generalize hbs : ePr p = bs at HLEN h3
      have HBS := Lib.hid hbs
      clear hbs
      rw [HBS.out] at HO3 HR3
      have fz : ((bs.length : Int) == 0) = false := beq_eq_false_iff_ne.2 (by omega)
      obtain ⟨an, rfl⟩ : ∃ an : Nat, at' = an := ⟨at'.toNat, by omega⟩
      obtain ⟨vn, rfl⟩ : ∃ vn : Nat, v = vn := ⟨v.toNat, by omega⟩
      have o0 : (w3.alloc (.cells #[] 5)).ownsRow w3.heap.size 5 1 (.slice (some ⟨w3.heap.size, 0, none⟩) 0 0) 0 [] := ⟨rfl, .inr ⟨w3.heap.size, 0, #[], rfl, Nat.le_refl _, heap_alloc_new w3 _, Nat.le_refl _, Nat.zero_le _, rfl, rfl⟩⟩
      have HO0 := Lib.hid o0
      have B4 := Lib.hid (below_new w3 (.cells #[] 5))
      clear o0
      obtain ⟨i0, hi0, hz0, hz1, hz2⟩ := info_parts u8_info
      have hnb : (bs.length : Int) ≠ 0 := by omega
      obtain ⟨k, hk⟩ : ∃ k, k = an % bs.length := ⟨_, rfl⟩
      have hkl : k < bs.length := by rw [hk]; exact Nat.mod_lt _ (by omega)
      have hkm : (an : Int) % (bs.length : Int) = (k : Int) := by rw [hk]; exact (Int.natCast_emod an bs.length).symm
      have hk0 : (0 : Int) ≤ (k : Int) := by omega
      have hkl' : (k : Int) < (bs.length : Int) := by omega
      clear hk
      have hbk : (cellsB bs)[k]? = some (byV bs[k]) := by
        unfold cellsB
        rw [List.getElem?_map, List.getElem?_eq_getElem hkl]
        rfl
      obtain ⟨y, hy⟩ : ∃ y : UInt8, y.toNat = bs[k].toNat ^^^ vn := ⟨UInt8.ofNat (bs[k].toNat ^^^ vn), by
        rw [UInt8.toNat_ofNat']
        have := Nat.xor_lt_two_pow (n := 8) (x := bs[k].toNat) (y := vn) (bs[k].toNat_lt) (by omega)
        rw [Nat.mod_eq_of_lt (by omega)]⟩
      have hxor : bits .xor .u8 ((bs[k].toNat : Nat) : Int) (vn : Int) = ((y.toNat : Nat) : Int) := by
        rw [u8_xor_nat _ _ (bs[k].toNat_lt) (by omega), hy]
      have HY0 := Lib.hid (show vn = 0 → bs.set k y = bs from fun h => by
        have e : y = bs[k] := UInt8.toNat_inj.1 (by rw [hy, h, Nat.xor_zero])
        rw [e, List.set_getElem_self])
      have HY1 := Lib.hid (show vn ≠ 0 → bs.set k y ≠ bs from fun h e => by
        have e1 : (bs.set k y)[k]? = bs[k]? := by rw [e]
        rw [List.getElem?_set_self hkl, List.getElem?_eq_getElem hkl] at e1
        have e2 : y = bs[k] := Option.some.inj e1
        rw [e2] at hy
        have e3 : bs[k].toNat ^^^ (bs[k].toNat ^^^ vn) = 0 := by rw [← hy, Nat.xor_self]
        rw [← Nat.xor_assoc, Nat.xor_self, Nat.zero_xor] at e3
        exact h e3)
      clear hy
      go_wp2_with (at_builtin; refine wpList_append_any _ rfl (.tmp 35) (.tmp 36) _ rfl w3.heap.size 5 i0 _ 1 1 Tryd.underlying43 hi0 hz0 hz1 hz2 rfl (by omega) _ 0 [] rfl HO0.out w3.heap.size a3 bs.length c3 (cellsB bs) rfl (HR3.out.below B4.out) (by intro u hu; unfold cellsB at hu; obtain ⟨b, _, rfl⟩ := List.mem_map.1 hu; rfl) (by unfold maxLen; omega) (by omega) B4.out.size ?_; intro v4 w4 hown hg hat; rw [Nat.zero_add, List.nil_append] at hown; obtain ⟨gg, cap, rfl, hgb, hgl⟩ := hown.form (by omega); have ccell := hown.cellAt k (by omega); have cfroz := hown.frozenAt k; rw [hbk] at ccell)
      have hst := hown.stored k (byV y)
      have hcs : (cellsB bs).set k (byV y) = cellsB (bs.set k y) := by unfold cellsB; rw [List.map_set]
      rw [hcs] at hst
      obtain ⟨cs, hcse⟩ : ∃ cs, cs = bs.set k y := ⟨_, rfl⟩
      rw [← hcse] at hst HY0 HY1
      have hclen : cs.length = bs.length := by rw [hcse, List.length_set]
      have B5 := Lib.hid (next_ B3.out ((B4.out.grown hg B4.out.size (fun j e => (HO0.out.lt j e).1)).setCell (p := ⟨gg, k, none⟩) hgb (byV y)))
      have C5 := Lib.hid ((B4.out.grown hg B4.out.size (fun j e => (HO0.out.lt j e).1)).setCell (p := ⟨gg, k, none⟩) hgb (byV y))
      have R5 := Lib.hid (Reads.of_own hst.1)
      have P5 := P3.next C5.out
      have Q5 := Lib.hid (Q3.out.next C5.out)
      clear hst hcs hcse ccell cfroz hown hg hat hxor hbk
      have hlc : cs.length ≤ 1099511627776 := by omega
      have h31 := c31 cs (some ⟨gg, 0, none⟩) cap _ (HT.out.next B5.out) (by rw [hclen]; exact R5.out) hlc
      rw [hclen] at h31
      refine h31.mono ?_
      clear h31
      rintro e w6 ⟨q6, rfl, hq6, hok6, b6⟩
      have B6 := Lib.hid (next_ B5.out b6)
      have R6 := Lib.hid ((R5.out.below b6).more b6.size)
      have P6 := P5.next b6
      have Q6 := Lib.hid (Q5.out.next b6)
      have HOK6 := Lib.hid hok6
      have HQ6 := Lib.hid hq6
      clear b6 hok6 hq6 P5 P3
      obtain ⟨AF6, cF6, L6, AS6, cS6, S6, AM6, cM6, M6⟩ := q6
      simp only [PrMem.val]
      have b7 := below_new w6 (.cells #[.slice AF6 L6.length cF6, .slice AS6 S6.length cS6, .slice AM6 M6.length cM6] 42)
      have N7 := Blk.new w6 42 #[.slice AF6 L6.length cF6, .slice AS6 S6.length cS6, .slice AM6 M6.length cM6]
      have P7 := P6.alloc (.cells #[.slice AF6 L6.length cF6, .slice AS6 S6.length cS6, .slice AM6 M6.length cM6] 42)
      have B7 := Lib.hid (next_ B6.out b7)
      have Q7 := Lib.hid (Q6.out.next b7)
      have K7 := Lib.hid (HOK6.out.next b7)
      have R7 := Lib.hid ((R6.out.below b7).more b7.size)
      clear b7 P6
      have n0 := P7.cell 0
      have n1 := P7.cell 1
      have n2 := P7.cell 2
      by_cases hvz : vn = 0
      · have fv : ((vn : Int) == 0) = true := beq_iff_eq.2 (by omega)
        have hd : dec cs = some p := by rw [HY0.out hvz, ← HBS.out]; exact dec_enc HGP.out
        have hq : (PrMem.mk AF6 cF6 L6 AS6 cS6 S6 AM6 cM6 M6).pr = p := by rw [HQ6.out, hd]; rfl
        have HQE := Lib.hid hq
        rw [hd]
        have HVZ := Lib.hid hvz
        clear hd hq hvz
        simp only [Option.isSome_some]
        go_wp2_with fail
        refine (c35 (PrMem.mk AF cF L AS cS S AM cM M) (PrMem.mk AF6 cF6 L6 AS6 cS6 S6 AM6 cM6 M6) true (by rw [HQE.out, HP.out]; simp) _ Q7.out K7.out).mono ?_
        rintro e w8 ⟨rfl, b8⟩
        have B8 := Lib.hid (next_ B7.out b8)
        clear b8
        go_wp2_with fail
        refine (c26 w8 (HT.out.next B8.out)).mono ?_
        rintro e w9 ⟨rfl, b9⟩
        go_wp2_with fail
        go_ret
        exact ⟨rfl, next_ B8.out b9⟩
      · have fv : ((vn : Int) == 0) = false := beq_eq_false_iff_ne.2 (by omega)
        have hne := HY1.out hvz
        have HNE := Lib.hid hne
        clear hne hvz
        cases hd : dec cs with
        | none =>
          have HD := Lib.hid hd
          clear hd
          have hq : (PrMem.mk AF6 cF6 L6 AS6 cS6 S6 AM6 cM6 M6).pr = emptyPr := by rw [HQ6.out, HD.out]; rfl
          have hL : L6 = [] := by
            have h := congrArg Pr.funcs hq
            exact List.map_eq_nil_iff.1 h
          subst hL
          clear hq
          simp only [Option.isSome_none, List.length_nil]
          simp only [List.length_nil] at N7
          have x0 := N7.cell 0
          go_wp2_with fail
          refine (c26 _ (HT.out.next B7.out)).mono ?_
          rintro e w9 ⟨rfl, b9⟩
          go_wp2_with fail
          go_ret
          exact ⟨rfl, next_ B7.out b9⟩
        | some p2 =>
          have HD := Lib.hid hd
          clear hd
          have hq : (PrMem.mk AF6 cF6 L6 AS6 cS6 S6 AM6 cM6 M6).pr = p2 := by rw [HQ6.out, HD.out]; rfl
          have HQE := Lib.hid hq
          obtain ⟨hg2, he2⟩ := (dec_iff cs p2).1 HD.out
          have HG2 := Lib.hid hg2
          have HE2 := Lib.hid (show gEnc p2 = cs by unfold gEnc; rw [hg2, he2]; rfl)
          clear hq hg2 he2
          simp only [Option.isSome_some]
          go_wp2_with fail
          refine (c28 (PrMem.mk AF6 cF6 L6 AS6 cS6 S6 AM6 cM6 M6) _ (HT.out.next B7.out) K7.out).mono ?_
          rintro e w8 ⟨v8, rfl, ho8, b8⟩
          rw [HQE.out, HG2.out]
          rw [HQE.out, HE2.out] at ho8
          obtain ⟨a8, c8, rfl⟩ := own_form ho8
          have B8 := Lib.hid (next_ B7.out b8)
          have Q8 := Lib.hid (Q7.out.next b8)
          have K8 := Lib.hid (K7.out.next b8)
          have R8 := Lib.hid ((R7.out.below b8).more b8.size)
          have O8 := Lib.hid (Reads.of_own ho8)
          have P8 := P7.next b8
          have N8 := N7.next b8
          clear b8 ho8 n0 n1 n2
          have n0 := P8.cell 0
          have n1 := P8.cell 1
          have n2 := P8.cell 2
          have x0 := N8.cell 0
          have x1 := N8.cell 1
          have x2 := N8.cell 2
          go_wp2_with fail
          refine (c35 (PrMem.mk AF cF L AS cS S AM cM M) (PrMem.mk AF6 cF6 L6 AS6 cS6 S6 AM6 cM6 M6) false (by
            rw [HQE.out, HP.out]
            constructor
            · intro h; cases h
            · intro h
              exact absurd h.symm (dec_spoilt (by rw [HBS.out]; exact HNE.out) HD.out)) _ Q8.out K8.out).mono ?_
          rintro e w9 ⟨rfl, b9⟩
          have B9 := Lib.hid (next_ B8.out b9)
          have R9 := Lib.hid (R8.out.below b9)
          have O9 := Lib.hid (O8.out.below b9)
          clear b9
          go_wp2_with fail
          have h34 := c34 cs cs a8 (some ⟨gg, 0, none⟩) c8 cap _ _ w9 O9.out (by rw [hclen]; exact R9.out)
          rw [beq_self_eq_true cs, hclen] at h34
          refine h34.mono ?_
          clear h34
          rintro e w10 ⟨rfl, rfl⟩
          go_wp2_with fail
          refine (c26 w9 (HT.out.next B9.out)).mono ?_
          rintro e w11 ⟨rfl, b11⟩
          go_wp2_with fail
          go_ret
          exact ⟨rfl, next_ B9.out b11⟩
end Go.Proofs.YtiphicejaljhiaaDoor
