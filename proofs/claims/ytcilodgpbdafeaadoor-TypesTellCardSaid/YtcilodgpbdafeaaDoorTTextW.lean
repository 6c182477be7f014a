/- types.Text: a type's text. -/
import Derived.Test.YtcilodgpbdafeaaDoorTText
import Derived.Deep.CutRange
import Derived.StillTailTactics
namespace Go.Proofs.YtcilodgpbdafeaaDoor
open Go.ChangeShapes Go.WideShapes Go.ChangeAt Go.RowKit
set_option linter.unusedVariables false
set_option linter.unusedSimpArgs false
set_option maxRecDepth 100000 in
set_option maxHeartbeats 8000000 in
theorem c15 (l : List Part) (A : Option Addr) (c : Nat) (W : World) (ha : RT W A l) (ht : ∀ p ∈ l, p.t.length ≤ 3000) (hw : WordTab W) : Calls Tryd.prog 15 #[.slice A l.length c] W (TextEnd l W) := by
  have HA := Lib.hid ha
  have HT0 := Lib.hid ht
  have HTab := Lib.hid hw
  have HC := Lib.hid (c20 l A c W ha)
  clear ha ht hw
  cases hg : gTy l with
  | false =>
    have HG := Lib.hid hg
    clear hg
    go_enter Tryd.func15, Tryd.ntmps15
    go_wp2_with fail
    refine HC.out.mono ?_
    rintro e w1 ⟨v, rfl, hb1, _, hv⟩
    have HB1 := Lib.hid hb1
    obtain rfl := hv HG.out
    rw [HG.out]
    clear hb1 hv
    go_wp2_with fail
    go_ret
    exact ⟨[], rfl, HB1.out, fun _ => rfl, fun T _ h => by rw [HG.out] at h; cases h⟩
  | true =>
    have HG := Lib.hid hg
    obtain ⟨T0, wT0, eT0, zT0⟩ := (gTy_iff l).1 hg
    have hlen : l.length ≤ 200 := by rw [eT0, enc_len]; exact zT0
    have hpos : 0 < l.length := by rw [eT0, enc_len]; exact T0.size_pos
    have HTm := Lib.hid (norm_tame hlen HT0.out)
    have HGd := Lib.hid (good_at (norm_good hg))
    have HNl := Lib.hid (norm_len l)
    obtain ⟨i9, fi9, hz0, hz1, hz2⟩ := info_parts str_info
    clear hg wT0 eT0 zT0
    go_enter Tryd.func15, Tryd.ntmps15
    go_wp2_with fail
    refine HC.out.mono ?_
    rintro e w1 ⟨v, rfl, hb1, ho, _⟩
    have HB1 := Lib.hid hb1
    have hon := ho HG.out
    rw [HG.out]
    clear hb1 ho
    generalize hmn : norm l = m at HTm HGd HNl hon
    have HM := Lib.hid hmn
    have hml : m.length = l.length := HNl.out
    rw [← hml] at hon hlen hpos
    obtain ⟨An, cn, rfl⟩ := own_form hon
    have HON := Lib.hid hon
    clear hon hmn hml
    obtain ⟨w3, hmk, ho3, hg3⟩ := run_makeSlice_full (P := Tryd.prog) w1 W.heap.size 43 9 i9 _ 1 Tryd.underlying43 fi9 hz0 hz1 .i64 .i64 m.length (by omega) (by rw [hz2]; omega) (by unfold maxLen; omega) HB1.out.size
    rw [made_strs] at ho3
    have HW3 := Lib.hid (show TxW W w3 m 0 w1.heap.size (.slice An m.length cn) (List.replicate m.length []) from ⟨HB1.out.grown hg3 HB1.out.size (fun k e => by cases e), ho3, List.length_replicate, fun i U hi => absurd hi (Nat.not_lt_zero _), HON.out.kept hg3 (by simp [Value.ownBlock] <;> cases An <;> simp)⟩)
    generalize w1.heap.size = r at hmk HW3
    clear ho3 hg3 hz0 hz1 hz2 fi9
    go_wp2_with fail
    go_loopw [19] (fun i wr => ∃ (k : Nat) (xs : List (List UInt8)), k ≤ m.length ∧ i = .int .i64 k ∧ TxW W wr m k r (.slice An m.length cn) xs) (fun i _ => m.length - (intOf i).toNat)
    case atStart => exact ⟨0, _, by omega, rfl, HW3.out⟩
    case round =>
      obtain ⟨k, xs, hk, rfl, htx⟩ := hrel
      have HW0 := Lib.hid htx
      clear htx
      by_cases hlt : k < m.length
      · have hlk : (k : Int) < (m.length : Int) := by omega
        have hk0 : (0 : Int) ≤ (k : Int) := by omega
        obtain ⟨ad, rfl, _, hcs⟩ := (Reads.of_own HW0.out.part).partAt (List.getElem?_eq_getElem hlt)
        have hpk : m[k]? = some m[k] := List.getElem?_eq_getElem hlt
        generalize m[k] = p at hcs hpk
        have HCS := Lib.hid hcs
        have HPK := Lib.hid hpk
        obtain ⟨U, hU, hAt⟩ := HGd.out k hlt
        have HU := Lib.hid hU
        have HAt := Lib.hid hAt
        obtain ⟨s0, hs0⟩ := HW0.out.some_ hlt
        have HC0 := Lib.hid (HW0.out.cell hs0)
        have HRL := Lib.hid (HW0.out.lt (by omega)).2
        have HBw := Lib.hid HW0.out.below
        clear hcs hpk hU hAt hs0
        cases U with
        | leaf pk pt =>
          obtain rfl : p = ⟨pk, 0, 0, 0, pt⟩ := (Option.some.inj (HPK.out.symm.trans HAt.out))
          have hpk := HU.out
          simp only [Ty.wf] at hpk
          rcases hpk with ⟨hp1, hp5, rfl⟩ | ⟨rfl, hpt⟩
          · obtain ⟨kk, hkk, hk1, hk5⟩ : ∃ kk : Nat, pk = kk ∧ 1 ≤ kk ∧ kk ≤ 5 := ⟨pk.toNat, by omega, by omega, by omega⟩
            subst hkk
            have c0 := fun o => (World.cell?_alloc_lt wr o ⟨0, kk, none⟩ (HTab.out.next HBw.out).1).trans ((HTab.out.next HBw.out).cell hk1 hk5)
            have g10 : ((kk : Int) == 10) = false := beq_false_of_ne (by omega)
            have g11 : ((kk : Int) == 11) = false := beq_false_of_ne (by omega)
            have g7 : ((kk : Int) == 7) = false := beq_false_of_ne (by omega)
            have g9 : ((kk : Int) == 9) = false := beq_false_of_ne (by omega)
            have g6 : ((kk : Int) == 6) = false := beq_false_of_ne (by omega)
            have g8 : ((kk : Int) == 8) = false := beq_false_of_ne (by omega)
            have i0 : (0 : Int) ≤ (kk : Int) := by omega
            have i6 : (kk : Int) < 6 := by omega
            have e0 := fun o => (World.cell?_alloc_lt wr o ⟨r, k, none⟩ HRL.out).trans HC0.out.1
            have f0 := fun o => (frozen_alloc_lt wr o ⟨r, k, none⟩ HRL.out).trans HC0.out.2
            go_wp2_with (first | (refine wpList_load_at rfl 29 (.tmp 22) rfl (ad.add (k * 5)) rfl [.int .i64 (kk : Int), .int .i64 0, .int .i64 0, .int .i64 0, strV []] _ HCS.out Tryd.underlying29 rfl (by kernel_rfl) ?_))
            go_roundw
            case rel =>
              refine ⟨k + 1, _, by omega, by go_num, (HW0.out.alloc _).put hlt (s := word (kk : Int)) ?_⟩
              intro U' wU' hU'
              rw [at_fun m U' _ k wU' HU.out hU' HAt.out]
              show word (kk : Int) = if (kk : Int) = 10 then _ else _
              rw [if_neg (by omega)]
            case measure => simp [intOf]; omega
          · have e0 := fun o => (World.cell?_alloc_lt wr o ⟨r, k, none⟩ HRL.out).trans HC0.out.1
            have f0 := fun o => (frozen_alloc_lt wr o ⟨r, k, none⟩ HRL.out).trans HC0.out.2
            go_wp2_with (first | (refine wpList_load_at rfl 29 (.tmp 22) rfl (ad.add (k * 5)) rfl [.int .i64 10, .int .i64 0, .int .i64 0, .int .i64 0, strV pt] _ HCS.out Tryd.underlying29 rfl (by kernel_rfl) ?_))
            go_roundw
            case rel =>
              refine ⟨k + 1, _, by omega, by go_num, (HW0.out.alloc _).put hlt (s := pt) ?_⟩
              intro U' wU' hU'
              rw [at_fun m U' _ k wU' HU.out hU' HAt.out]
              rfl
            case measure => simp [intOf]; omega
        | var pn =>
          obtain rfl : p = ⟨11, 0, 0, pn, []⟩ := (Option.some.inj (HPK.out.symm.trans HAt.out))
          have hpn := (HTm.out _ (List.mem_of_getElem? HPK.out)).2 rfl
          obtain ⟨q, hq, hq2⟩ : ∃ q : Nat, pn = q ∧ q < 200 := ⟨pn.toNat, by simp only at hpn; omega, by simp only at hpn; omega⟩
          subst hq
          clear hpn
          go_wp2_with (first | (refine wpList_load_at rfl 29 (.tmp 22) rfl (ad.add (k * 5)) rfl [.int .i64 11, .int .i64 0, .int .i64 0, .int .i64 (q : Int), strV []] _ HCS.out Tryd.underlying29 rfl (by kernel_rfl) ?_))
          refine (c29 q hq2 _).mono ?_
          rintro e w2 ⟨rfl, hb2⟩
          have HW2 := Lib.hid ((HW0.out.alloc _).next hb2)
          obtain ⟨s2, hs2⟩ := HW2.out.some_ hlt
          have e0 := (HW2.out.cell hs2).1
          have f0 := (HW2.out.cell hs2).2
          clear hb2 hs2
          generalize hvt : vtx (q : Int) = vt
          have HVT := Lib.hid hvt
          clear hvt
          go_wp2_with fail
          go_roundw
          case rel =>
            refine ⟨k + 1, _, by omega, by go_num, HW2.out.put hlt (s := vt) ?_⟩
            intro U' wU' hU'
            rw [at_fun m U' _ k wU' HU.out hU' HAt.out]
            exact HVT.out.symm
          case measure => simp [intOf]; omega
        | one pk s' =>
          obtain ⟨j, rfl, hlj, hAs⟩ := HAt.out
          obtain rfl : p = ⟨pk, (j : Int), 0, 0, []⟩ := (Option.some.inj (HPK.out.symm.trans hlj))
          have HSub := Lib.hid (HW0.out.cell (HW0.out.told j s' (Nat.lt_succ_self _) HU.out.2 hAs))
          have hsl := tx_len HTm.out s' j hAs
          have hsz := hAs.size
          generalize hts : tx s' = ts at HSub hsl
          have HTS := Lib.hid hts
          have htl : ts.length ≤ 700000 := by omega
          have hss := strV_size ts
          have hj1 : (j : Int) < (m.length : Int) := by omega
          have hj0 : (0 : Int) ≤ (j : Int) := by omega
          have hpk := HU.out.1
          clear hlj hts hsl hsz
          rcases hpk with rfl | rfl
          · have e0 := fun o => (World.cell?_alloc_lt wr o ⟨r, j + 1, none⟩ HRL.out).trans HC0.out.1
            have f0 := fun o => (frozen_alloc_lt wr o ⟨r, j + 1, none⟩ HRL.out).trans HC0.out.2
            have d0 := fun o => (World.cell?_alloc_lt wr o ⟨r, j, none⟩ HRL.out).trans HSub.out.1
            go_wp2_with (first | (refine wpList_load_at rfl 29 (.tmp 22) rfl (ad.add ((j + 1) * 5)) rfl [.int .i64 7, .int .i64 (j : Int), .int .i64 0, .int .i64 0, strV []] _ HCS.out Tryd.underlying29 rfl (by kernel_rfl) ?_))
            go_roundw
            case rel =>
              have hcat : ((⟨#[40]⟩ : ByteArray) ++ ⟨ts.toArray⟩ ++ ⟨#[32, 108, 105, 115, 116, 41]⟩) = ⟨([40] ++ ts ++ [32, 108, 105, 115, 116, 41]).toArray⟩ := by rw [← cat_bytes, ← cat_bytes]
              rw [hcat]
              refine ⟨j + 1 + 1, _, by omega, by go_num, (HW0.out.alloc _).put hlt (s := [40] ++ ts ++ [32, 108, 105, 115, 116, 41]) ?_⟩
              intro U' wU' hU'
              rw [at_fun m U' _ (j + 1) wU' HU.out hU' HAt.out, ← HTS.out]
              rfl
            case measure => simp [intOf]; omega
          · have e0 := fun o => (World.cell?_alloc_lt wr o ⟨r, j + 1, none⟩ HRL.out).trans HC0.out.1
            have f0 := fun o => (frozen_alloc_lt wr o ⟨r, j + 1, none⟩ HRL.out).trans HC0.out.2
            have d0 := fun o => (World.cell?_alloc_lt wr o ⟨r, j, none⟩ HRL.out).trans HSub.out.1
            go_wp2_with (first | (refine wpList_load_at rfl 29 (.tmp 22) rfl (ad.add ((j + 1) * 5)) rfl [.int .i64 9, .int .i64 (j : Int), .int .i64 0, .int .i64 0, strV []] _ HCS.out Tryd.underlying29 rfl (by kernel_rfl) ?_))
            go_roundw
            case rel =>
              have hcat : ((⟨#[40]⟩ : ByteArray) ++ ⟨ts.toArray⟩ ++ ⟨#[32, 114, 101, 102, 41]⟩) = ⟨([40] ++ ts ++ [32, 114, 101, 102, 41]).toArray⟩ := by rw [← cat_bytes, ← cat_bytes]
              rw [hcat]
              refine ⟨j + 1 + 1, _, by omega, by go_num, (HW0.out.alloc _).put hlt (s := [40] ++ ts ++ [32, 114, 101, 102, 41]) ?_⟩
              intro U' wU' hU'
              rw [at_fun m U' _ (j + 1) wU' HU.out hU' HAt.out, ← HTS.out]
              rfl
            case measure => simp [intOf]; omega
        | two pk s' u' =>
          obtain ⟨j, h, rfl, hlj, hAs, hAu, hhj⟩ := HAt.out
          obtain rfl : p = ⟨pk, (h : Int), (j : Int), 0, []⟩ := (Option.some.inj (HPK.out.symm.trans hlj))
          have hup := u'.size_pos
          have HX1 := Lib.hid (HW0.out.told h s' (by omega) HU.out.2.1 hAs)
          have HX2 := Lib.hid (HW0.out.told j u' (by omega) HU.out.2.2 hAu)
          have hsl := tx_len HTm.out s' h hAs
          have hul := tx_len HTm.out u' j hAu
          have hsz := hAs.size
          have huz := hAu.size
          generalize hts : tx s' = ts at HX1 hsl
          generalize htu : tx u' = tu at HX2 hul
          have HTS := Lib.hid hts
          have HTU := Lib.hid htu
          have htl : ts.length ≤ 700000 := by omega
          have hul2 : tu.length ≤ 700000 := by omega
          have hss := strV_size ts
          have hsu := strV_size tu
          have hj1 : (j : Int) < (m.length : Int) := by omega
          have hj0 : (0 : Int) ≤ (j : Int) := by omega
          have hh1 : (h : Int) < (m.length : Int) := by omega
          have hh0 : (0 : Int) ≤ (h : Int) := by omega
          have hpk := HU.out.1
          clear hlj hts htu hsl hsz hul huz hup
          rcases hpk with rfl | rfl
          · go_upto_region 19 with (first | (refine wpList_load_at rfl 29 (.tmp 22) rfl (ad.add ((j + 1) * 5)) rfl [.int .i64 6, .int .i64 (h : Int), .int .i64 (j : Int), .int .i64 0, strV []] _ HCS.out Tryd.underlying29 rfl (by kernel_rfl) ?_))
            have HW5 := Lib.hid (HW0.out.alloc (.cells #[.int .i64 6, .int .i64 (h : Int), .int .i64 (j : Int), .int .i64 0, strV []] 29))
            have HB5 := Lib.hid (show Blk (wr.alloc (.cells #[.int .i64 6, .int .i64 (h : Int), .int .i64 (j : Int), .int .i64 0, strV []] 29)) wr.heap.size 29 #[.int .i64 6, .int .i64 (h : Int), .int .i64 (j : Int), .int .i64 0, strV []] from Blk.new _ _ _)
            generalize wr.alloc (.cells #[.int .i64 6, .int .i64 (h : Int), .int .i64 (j : Int), .int .i64 0, strV []] 29) = w5 at HW5 HB5 ⊢
            generalize wr.heap.size = pb at HB5 ⊢
            have c1 := HB5.out.cell 1
            have c2 := HB5.out.cell 2
            replace c1 : w5.cell? ⟨pb, 1, none⟩ = some (.int .i64 (h : Int)) := c1
            replace c2 : w5.cell? ⟨pb, 2, none⟩ = some (.int .i64 (j : Int)) := c2
            have d1 := (HW5.out.cell (HX1.out)).1
            have d2 := (HW5.out.cell (HX2.out)).1
            obtain ⟨s5, hs5⟩ := HW5.out.some_ hlt
            have e0 := (HW5.out.cell hs5).1
            have f0 := (HW5.out.cell hs5).2
            clear hs5
            have HW6 := Lib.hid (HW5.out.next (Below.drew (Below.refl _ _)))
            have q0 : w5.drew.cell? ⟨r, j + 1, none⟩ = some (strV s5) := e0
            have q1 : w5.drew.frozen? ⟨r, j + 1, none⟩ = false := f0
            refine wp_region_last (S := fun X => X.cell? ⟨pb, 1, none⟩ = some (.int .i64 (h : Int)) ∧ X.cell? ⟨pb, 2, none⟩ = some (.int .i64 (j : Int)) ∧ X.cell? ⟨r, h, none⟩ = some (strV ts) ∧ X.cell? ⟨r, j, none⟩ = some (strV tu)) 17 (by kernel_rfl) (by kernel_rfl) (by kernel_rfl) (by kernel_rfl) ⟨c1, c2, d1, d2⟩ (fun hHeld => ?_)
            generalize w5.drew = d at HW6 q0 q1 hHeld ⊢
            refine wpAnyH_take (i := 0) (oi := ⟨some 74, _, _, _, _, _⟩) (v := ?_) rfl (by kernel_rfl) (by kernel_rfl) (by kernel_rfl) (fun _ _ _ h => h) (Or.inl ⟨by kernel_rfl, ?_⟩) (by assumption) ?_
            rotate_left
            · intro w hSw
              go_simp
              try with_reducible rfl
            try simp only [Act.put, List.setIfInBounds_toArray, List.set_cons_zero, List.set_cons_succ]
            refine wpAnyH_take (i := 1) (oi := ⟨some 75, _, _, _, _, _⟩) (v := ?_) rfl (by kernel_rfl) (by kernel_rfl) (by kernel_rfl) (fun _ _ _ h => h) (Or.inl ⟨by kernel_rfl, ?_⟩) (by assumption) ?_
            rotate_left
            · intro w hSw
              go_simp
              try with_reducible rfl
            try simp only [Act.put, List.setIfInBounds_toArray, List.set_cons_zero, List.set_cons_succ]
            refine wpAnyH_take (i := 2) (oi := ⟨some 76, _, _, _, _, _⟩) (v := ?_) rfl (by kernel_rfl) (by kernel_rfl) (by kernel_rfl) (fun _ _ _ h => h) (Or.inl ⟨by kernel_rfl, ?_⟩) (by assumption) ?_
            rotate_left
            · intro w hSw
              go_simp
              try with_reducible rfl
            try simp only [Act.put, List.setIfInBounds_toArray, List.set_cons_zero, List.set_cons_succ]
            refine wpAnyH_take (i := 3) (oi := ⟨some 77, _, _, _, _, _⟩) (v := ?_) rfl (by kernel_rfl) (by kernel_rfl) (by kernel_rfl) (fun _ _ _ h => h) (Or.inl ⟨by kernel_rfl, ?_⟩) (by assumption) ?_
            rotate_left
            · intro w hSw
              go_simp
              try with_reducible rfl
            try simp only [Act.put, List.setIfInBounds_toArray, List.set_cons_zero, List.set_cons_succ]
            refine wpAnyH_take (i := 4) (oi := ⟨some 78, _, _, _, _, _⟩) (v := ?_) rfl (by kernel_rfl) (by kernel_rfl) (by kernel_rfl) (fun _ _ _ h => h) (Or.inl ⟨by kernel_rfl, ?_⟩) (by assumption) ?_
            rotate_left
            · intro w hSw
              go_simp
              try with_reducible rfl
            try simp only [Act.put, List.setIfInBounds_toArray, List.set_cons_zero, List.set_cons_succ]
            refine wpAnyH_take (i := 5) (oi := ⟨some 79, _, _, _, _, _⟩) (v := ?_) rfl (by kernel_rfl) (by kernel_rfl) (by kernel_rfl) (fun _ _ _ h => h) (Or.inl ⟨by kernel_rfl, ?_⟩) (by assumption) ?_
            rotate_left
            · intro w hSw
              go_simp
              try with_reducible rfl
            try simp only [Act.put, List.setIfInBounds_toArray, List.set_cons_zero, List.set_cons_succ]
            refine wpAnyH_take (i := 6) (oi := ⟨some 80, _, _, _, _, _⟩) (v := ?_) rfl (by kernel_rfl) (by kernel_rfl) (by kernel_rfl) (fun _ _ _ h => h) (Or.inl ⟨by kernel_rfl, ?_⟩) (by assumption) ?_
            rotate_left
            · intro w hSw
              go_simp
              try with_reducible rfl
            try simp only [Act.put, List.setIfInBounds_toArray, List.set_cons_zero, List.set_cons_succ]
            refine wpAnyH_take (i := 7) (oi := ⟨some 81, _, _, _, _, _⟩) (v := ?_) rfl (by kernel_rfl) (by kernel_rfl) (by kernel_rfl) (fun _ _ _ h => h) (Or.inl ⟨by kernel_rfl, ?_⟩) (by assumption) ?_
            rotate_left
            · intro w hSw
              go_simp
              first | with_reducible rfl | (rw [if_neg (by omega)]) | (rw [if_pos (by omega)])
            try simp only [Act.put, List.setIfInBounds_toArray, List.set_cons_zero, List.set_cons_succ]
            refine wpAnyH_take (i := 8) (oi := ⟨some 82, _, _, _, _, _⟩) (v := ?_) rfl (by kernel_rfl) (by kernel_rfl) (by kernel_rfl) (fun _ _ _ h => h) (Or.inl ⟨by kernel_rfl, ?_⟩) (by assumption) ?_
            rotate_left
            · intro w hSw
              go_simp
              first | with_reducible rfl | (rw [if_neg (by omega)]) | (rw [if_pos (by omega)])
            try simp only [Act.put, List.setIfInBounds_toArray, List.set_cons_zero, List.set_cons_succ]
            refine wpAnyH_take (i := 9) (oi := ⟨some 83, _, _, _, _, _⟩) (v := ?_) rfl (by kernel_rfl) (by kernel_rfl) (by kernel_rfl) (fun _ _ _ h => h) (Or.inl ⟨by kernel_rfl, ?_⟩) (by assumption) ?_
            rotate_left
            · intro w hSw
              go_simp
              try with_reducible rfl
            try simp only [Act.put, List.setIfInBounds_toArray, List.set_cons_zero, List.set_cons_succ]
            refine wpAnyH_take (i := 10) (oi := ⟨some 84, _, _, _, _, _⟩) (v := ?_) rfl (by kernel_rfl) (by kernel_rfl) (by kernel_rfl) (fun _ _ _ h => h) (Or.inl ⟨by kernel_rfl, ?_⟩) (by assumption) ?_
            rotate_left
            · intro w hSw
              go_simp
              try with_reducible rfl
            try simp only [Act.put, List.setIfInBounds_toArray, List.set_cons_zero, List.set_cons_succ]
            refine wpAnyH_take (i := 11) (oi := ⟨some 85, _, _, _, _, _⟩) (v := ?_) rfl (by kernel_rfl) (by kernel_rfl) (by kernel_rfl) (fun _ _ _ h => h) (Or.inl ⟨by kernel_rfl, ?_⟩) (by assumption) ?_
            rotate_left
            · intro w hSw
              go_simp
              try with_reducible rfl
            try simp only [Act.put, List.setIfInBounds_toArray, List.set_cons_zero, List.set_cons_succ]
            refine wpAnyH_take (i := 12) (oi := ⟨some 86, _, _, _, _, _⟩) (v := ?_) rfl (by kernel_rfl) (by kernel_rfl) (by kernel_rfl) (fun _ _ _ h => h) (Or.inl ⟨by kernel_rfl, ?_⟩) (by assumption) ?_
            rotate_left
            · intro w hSw
              go_simp
              try with_reducible rfl
            try simp only [Act.put, List.setIfInBounds_toArray, List.set_cons_zero, List.set_cons_succ]
            refine wpAnyH_take (i := 13) (oi := ⟨some 87, _, _, _, _, _⟩) (v := ?_) rfl (by kernel_rfl) (by kernel_rfl) (by kernel_rfl) (fun _ _ _ h => h) (Or.inl ⟨by kernel_rfl, ?_⟩) (by assumption) ?_
            rotate_left
            · intro w hSw
              go_simp
              try with_reducible rfl
            try simp only [Act.put, List.setIfInBounds_toArray, List.set_cons_zero, List.set_cons_succ]
            refine wpAnyH_take (i := 14) (oi := ⟨some 88, _, _, _, _, _⟩) (v := ?_) rfl (by kernel_rfl) (by kernel_rfl) (by kernel_rfl) (fun _ _ _ h => h) (Or.inl ⟨by kernel_rfl, ?_⟩) (by assumption) ?_
            rotate_left
            · intro w hSw
              go_simp
              first | with_reducible rfl | (rw [if_neg (by omega)]) | (rw [if_pos (by omega)])
            try simp only [Act.put, List.setIfInBounds_toArray, List.set_cons_zero, List.set_cons_succ]
            refine wpAnyH_take (i := 15) (oi := ⟨some 89, _, _, _, _, _⟩) (v := ?_) rfl (by kernel_rfl) (by kernel_rfl) (by kernel_rfl) (fun _ _ _ h => h) (Or.inl ⟨by kernel_rfl, ?_⟩) (by assumption) ?_
            rotate_left
            · intro w hSw
              go_simp
              first | with_reducible rfl | (rw [if_neg (by omega)]) | (rw [if_pos (by omega)])
            try simp only [Act.put, List.setIfInBounds_toArray, List.set_cons_zero, List.set_cons_succ]
            refine wpAnyH_take (i := 16) (oi := ⟨some 90, _, _, _, _, _⟩) (v := ?_) rfl (by kernel_rfl) (by kernel_rfl) (by kernel_rfl) (fun _ _ _ h => h) (Or.inl ⟨by kernel_rfl, ?_⟩) (by assumption) ?_
            rotate_left
            · intro w hSw
              go_simp
              first | with_reducible rfl | (rw [if_neg (by omega)]) | (rw [if_pos (by omega)])
            try simp only [Act.put, List.setIfInBounds_toArray, List.set_cons_zero, List.set_cons_succ]
            refine wpAnyH_done (by kernel_rfl) ?_ _
            refine lastPost_run (o := ⟨none, _, _, _, _, _⟩) rfl (fun K hK => ?_)
            go_simp
            refine hK.out _ _ ?_
            clear hK K
            go_wp2_with fail
            go_roundw
            case rel =>
              have hcat : ((⟨#[40]⟩ : ByteArray) ++ ⟨ts.toArray⟩ ++ ⟨#[32, 42, 32]⟩ ++ ⟨tu.toArray⟩ ++ ⟨#[41]⟩) = ⟨([40] ++ ts ++ [32, 42, 32] ++ tu ++ [41]).toArray⟩ := by rw [← cat_bytes, ← cat_bytes, ← cat_bytes, ← cat_bytes]
              rw [hcat]
              refine ⟨j + 1 + 1, _, by omega, by go_num, HW6.out.put hlt (s := [40] ++ ts ++ [32, 42, 32] ++ tu ++ [41]) ?_⟩
              intro U' wU' hU'
              rw [at_fun m U' _ (j + 1) wU' HU.out hU' HAt.out, ← HTS.out, ← HTU.out]
              rfl
            case measure => simp [intOf]; omega
          · go_upto_region 21 with (first | (refine wpList_load_at rfl 29 (.tmp 22) rfl (ad.add ((j + 1) * 5)) rfl [.int .i64 8, .int .i64 (h : Int), .int .i64 (j : Int), .int .i64 0, strV []] _ HCS.out Tryd.underlying29 rfl (by kernel_rfl) ?_))
            have HW5 := Lib.hid (HW0.out.alloc (.cells #[.int .i64 8, .int .i64 (h : Int), .int .i64 (j : Int), .int .i64 0, strV []] 29))
            have HB5 := Lib.hid (show Blk (wr.alloc (.cells #[.int .i64 8, .int .i64 (h : Int), .int .i64 (j : Int), .int .i64 0, strV []] 29)) wr.heap.size 29 #[.int .i64 8, .int .i64 (h : Int), .int .i64 (j : Int), .int .i64 0, strV []] from Blk.new _ _ _)
            generalize wr.alloc (.cells #[.int .i64 8, .int .i64 (h : Int), .int .i64 (j : Int), .int .i64 0, strV []] 29) = w5 at HW5 HB5 ⊢
            generalize wr.heap.size = pb at HB5 ⊢
            have c1 := HB5.out.cell 1
            have c2 := HB5.out.cell 2
            replace c1 : w5.cell? ⟨pb, 1, none⟩ = some (.int .i64 (h : Int)) := c1
            replace c2 : w5.cell? ⟨pb, 2, none⟩ = some (.int .i64 (j : Int)) := c2
            have d1 := (HW5.out.cell (HX1.out)).1
            have d2 := (HW5.out.cell (HX2.out)).1
            obtain ⟨s5, hs5⟩ := HW5.out.some_ hlt
            have e0 := (HW5.out.cell hs5).1
            have f0 := (HW5.out.cell hs5).2
            clear hs5
            have HW6 := Lib.hid (HW5.out.next (Below.drew (Below.refl _ _)))
            have q0 : w5.drew.cell? ⟨r, j + 1, none⟩ = some (strV s5) := e0
            have q1 : w5.drew.frozen? ⟨r, j + 1, none⟩ = false := f0
            refine wp_region_last (S := fun X => X.cell? ⟨pb, 1, none⟩ = some (.int .i64 (h : Int)) ∧ X.cell? ⟨pb, 2, none⟩ = some (.int .i64 (j : Int)) ∧ X.cell? ⟨r, h, none⟩ = some (strV ts) ∧ X.cell? ⟨r, j, none⟩ = some (strV tu)) 17 (by kernel_rfl) (by kernel_rfl) (by kernel_rfl) (by kernel_rfl) ⟨c1, c2, d1, d2⟩ (fun hHeld => ?_)
            generalize w5.drew = d at HW6 q0 q1 hHeld ⊢
            refine wpAnyH_take (i := 0) (oi := ⟨some 93, _, _, _, _, _⟩) (v := ?_) rfl (by kernel_rfl) (by kernel_rfl) (by kernel_rfl) (fun _ _ _ h => h) (Or.inl ⟨by kernel_rfl, ?_⟩) (by assumption) ?_
            rotate_left
            · intro w hSw
              go_simp
              try with_reducible rfl
            try simp only [Act.put, List.setIfInBounds_toArray, List.set_cons_zero, List.set_cons_succ]
            refine wpAnyH_take (i := 1) (oi := ⟨some 94, _, _, _, _, _⟩) (v := ?_) rfl (by kernel_rfl) (by kernel_rfl) (by kernel_rfl) (fun _ _ _ h => h) (Or.inl ⟨by kernel_rfl, ?_⟩) (by assumption) ?_
            rotate_left
            · intro w hSw
              go_simp
              try with_reducible rfl
            try simp only [Act.put, List.setIfInBounds_toArray, List.set_cons_zero, List.set_cons_succ]
            refine wpAnyH_take (i := 2) (oi := ⟨some 95, _, _, _, _, _⟩) (v := ?_) rfl (by kernel_rfl) (by kernel_rfl) (by kernel_rfl) (fun _ _ _ h => h) (Or.inl ⟨by kernel_rfl, ?_⟩) (by assumption) ?_
            rotate_left
            · intro w hSw
              go_simp
              try with_reducible rfl
            try simp only [Act.put, List.setIfInBounds_toArray, List.set_cons_zero, List.set_cons_succ]
            refine wpAnyH_take (i := 3) (oi := ⟨some 96, _, _, _, _, _⟩) (v := ?_) rfl (by kernel_rfl) (by kernel_rfl) (by kernel_rfl) (fun _ _ _ h => h) (Or.inl ⟨by kernel_rfl, ?_⟩) (by assumption) ?_
            rotate_left
            · intro w hSw
              go_simp
              try with_reducible rfl
            try simp only [Act.put, List.setIfInBounds_toArray, List.set_cons_zero, List.set_cons_succ]
            refine wpAnyH_take (i := 4) (oi := ⟨some 97, _, _, _, _, _⟩) (v := ?_) rfl (by kernel_rfl) (by kernel_rfl) (by kernel_rfl) (fun _ _ _ h => h) (Or.inl ⟨by kernel_rfl, ?_⟩) (by assumption) ?_
            rotate_left
            · intro w hSw
              go_simp
              try with_reducible rfl
            try simp only [Act.put, List.setIfInBounds_toArray, List.set_cons_zero, List.set_cons_succ]
            refine wpAnyH_take (i := 5) (oi := ⟨some 98, _, _, _, _, _⟩) (v := ?_) rfl (by kernel_rfl) (by kernel_rfl) (by kernel_rfl) (fun _ _ _ h => h) (Or.inl ⟨by kernel_rfl, ?_⟩) (by assumption) ?_
            rotate_left
            · intro w hSw
              go_simp
              try with_reducible rfl
            try simp only [Act.put, List.setIfInBounds_toArray, List.set_cons_zero, List.set_cons_succ]
            refine wpAnyH_take (i := 6) (oi := ⟨some 99, _, _, _, _, _⟩) (v := ?_) rfl (by kernel_rfl) (by kernel_rfl) (by kernel_rfl) (fun _ _ _ h => h) (Or.inl ⟨by kernel_rfl, ?_⟩) (by assumption) ?_
            rotate_left
            · intro w hSw
              go_simp
              try with_reducible rfl
            try simp only [Act.put, List.setIfInBounds_toArray, List.set_cons_zero, List.set_cons_succ]
            refine wpAnyH_take (i := 7) (oi := ⟨some 100, _, _, _, _, _⟩) (v := ?_) rfl (by kernel_rfl) (by kernel_rfl) (by kernel_rfl) (fun _ _ _ h => h) (Or.inl ⟨by kernel_rfl, ?_⟩) (by assumption) ?_
            rotate_left
            · intro w hSw
              go_simp
              first | with_reducible rfl | (rw [if_neg (by omega)]) | (rw [if_pos (by omega)])
            try simp only [Act.put, List.setIfInBounds_toArray, List.set_cons_zero, List.set_cons_succ]
            refine wpAnyH_take (i := 8) (oi := ⟨some 101, _, _, _, _, _⟩) (v := ?_) rfl (by kernel_rfl) (by kernel_rfl) (by kernel_rfl) (fun _ _ _ h => h) (Or.inl ⟨by kernel_rfl, ?_⟩) (by assumption) ?_
            rotate_left
            · intro w hSw
              go_simp
              first | with_reducible rfl | (rw [if_neg (by omega)]) | (rw [if_pos (by omega)])
            try simp only [Act.put, List.setIfInBounds_toArray, List.set_cons_zero, List.set_cons_succ]
            refine wpAnyH_take (i := 9) (oi := ⟨some 102, _, _, _, _, _⟩) (v := ?_) rfl (by kernel_rfl) (by kernel_rfl) (by kernel_rfl) (fun _ _ _ h => h) (Or.inl ⟨by kernel_rfl, ?_⟩) (by assumption) ?_
            rotate_left
            · intro w hSw
              go_simp
              try with_reducible rfl
            try simp only [Act.put, List.setIfInBounds_toArray, List.set_cons_zero, List.set_cons_succ]
            refine wpAnyH_take (i := 10) (oi := ⟨some 103, _, _, _, _, _⟩) (v := ?_) rfl (by kernel_rfl) (by kernel_rfl) (by kernel_rfl) (fun _ _ _ h => h) (Or.inl ⟨by kernel_rfl, ?_⟩) (by assumption) ?_
            rotate_left
            · intro w hSw
              go_simp
              try with_reducible rfl
            try simp only [Act.put, List.setIfInBounds_toArray, List.set_cons_zero, List.set_cons_succ]
            refine wpAnyH_take (i := 11) (oi := ⟨some 104, _, _, _, _, _⟩) (v := ?_) rfl (by kernel_rfl) (by kernel_rfl) (by kernel_rfl) (fun _ _ _ h => h) (Or.inl ⟨by kernel_rfl, ?_⟩) (by assumption) ?_
            rotate_left
            · intro w hSw
              go_simp
              try with_reducible rfl
            try simp only [Act.put, List.setIfInBounds_toArray, List.set_cons_zero, List.set_cons_succ]
            refine wpAnyH_take (i := 12) (oi := ⟨some 105, _, _, _, _, _⟩) (v := ?_) rfl (by kernel_rfl) (by kernel_rfl) (by kernel_rfl) (fun _ _ _ h => h) (Or.inl ⟨by kernel_rfl, ?_⟩) (by assumption) ?_
            rotate_left
            · intro w hSw
              go_simp
              try with_reducible rfl
            try simp only [Act.put, List.setIfInBounds_toArray, List.set_cons_zero, List.set_cons_succ]
            refine wpAnyH_take (i := 13) (oi := ⟨some 106, _, _, _, _, _⟩) (v := ?_) rfl (by kernel_rfl) (by kernel_rfl) (by kernel_rfl) (fun _ _ _ h => h) (Or.inl ⟨by kernel_rfl, ?_⟩) (by assumption) ?_
            rotate_left
            · intro w hSw
              go_simp
              try with_reducible rfl
            try simp only [Act.put, List.setIfInBounds_toArray, List.set_cons_zero, List.set_cons_succ]
            refine wpAnyH_take (i := 14) (oi := ⟨some 107, _, _, _, _, _⟩) (v := ?_) rfl (by kernel_rfl) (by kernel_rfl) (by kernel_rfl) (fun _ _ _ h => h) (Or.inl ⟨by kernel_rfl, ?_⟩) (by assumption) ?_
            rotate_left
            · intro w hSw
              go_simp
              first | with_reducible rfl | (rw [if_neg (by omega)]) | (rw [if_pos (by omega)])
            try simp only [Act.put, List.setIfInBounds_toArray, List.set_cons_zero, List.set_cons_succ]
            refine wpAnyH_take (i := 15) (oi := ⟨some 108, _, _, _, _, _⟩) (v := ?_) rfl (by kernel_rfl) (by kernel_rfl) (by kernel_rfl) (fun _ _ _ h => h) (Or.inl ⟨by kernel_rfl, ?_⟩) (by assumption) ?_
            rotate_left
            · intro w hSw
              go_simp
              first | with_reducible rfl | (rw [if_neg (by omega)]) | (rw [if_pos (by omega)])
            try simp only [Act.put, List.setIfInBounds_toArray, List.set_cons_zero, List.set_cons_succ]
            refine wpAnyH_take (i := 16) (oi := ⟨some 109, _, _, _, _, _⟩) (v := ?_) rfl (by kernel_rfl) (by kernel_rfl) (by kernel_rfl) (fun _ _ _ h => h) (Or.inl ⟨by kernel_rfl, ?_⟩) (by assumption) ?_
            rotate_left
            · intro w hSw
              go_simp
              first | with_reducible rfl | (rw [if_neg (by omega)]) | (rw [if_pos (by omega)])
            try simp only [Act.put, List.setIfInBounds_toArray, List.set_cons_zero, List.set_cons_succ]
            refine wpAnyH_done (by kernel_rfl) ?_ _
            refine lastPost_run (o := ⟨none, _, _, _, _, _⟩) rfl (fun K hK => ?_)
            go_simp
            refine hK.out _ _ ?_
            clear hK K
            go_wp2_with fail
            go_roundw
            case rel =>
              have hcat : ((⟨#[40]⟩ : ByteArray) ++ ⟨ts.toArray⟩ ++ ⟨#[32, 45, 62, 32]⟩ ++ ⟨tu.toArray⟩ ++ ⟨#[41]⟩) = ⟨([40] ++ ts ++ [32, 45, 62, 32] ++ tu ++ [41]).toArray⟩ := by rw [← cat_bytes, ← cat_bytes, ← cat_bytes, ← cat_bytes]
              rw [hcat]
              refine ⟨j + 1 + 1, _, by omega, by go_num, HW6.out.put hlt (s := [40] ++ ts ++ [32, 45, 62, 32] ++ tu ++ [41]) ?_⟩
              intro U' wU' hU'
              rw [at_fun m U' _ (j + 1) wU' HU.out hU' HAt.out, ← HTS.out, ← HTU.out]
              rfl
            case measure => simp [intOf]; omega
      · have hkl : k = m.length := by omega
        subst hkl
        have hlk : ¬ ((m.length : Int) < (m.length : Int)) := by omega
        obtain ⟨j, hj⟩ : ∃ j, m.length = j + 1 := ⟨m.length - 1, by omega⟩
        obtain ⟨sx, hsx⟩ := HW0.out.some_ (show j < m.length by omega)
        have e0 := (HW0.out.cell hsx).1
        have HSX := Lib.hid hsx
        have HJ := Lib.hid hj
        have hj1 : (j : Int) < (m.length : Int) := by omega
        have hj0 : (0 : Int) ≤ (j : Int) := by omega
        have hlj : (m.length : Int) - 1 = (j : Int) := by omega
        clear hsx hj hlt hk
        go_wp2_with fail
        go_ret
        refine ⟨sx, rfl, HW0.out.below, fun h => (by rw [HG.out] at h; cases h), fun T wT _ hT => ?_⟩
        have hmT : m = enc 0 T := HM.out ▸ hT
        have hat : At m T j := by
          have h := enc_at T
          rw [← hmT, HJ.out] at h
          exact h
        have h1 := HW0.out.told j T (by have := HJ.out; omega) wT hat
        rw [HSX.out] at h1
        exact Option.some.inj h1
end Go.Proofs.YtcilodgpbdafeaaDoor
