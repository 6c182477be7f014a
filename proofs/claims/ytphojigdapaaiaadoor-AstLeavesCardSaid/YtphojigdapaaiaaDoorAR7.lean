/- The document's Good of trees: it answers; and what it needs first. -/
import Derived.Test.YtphojigdapaaiaaDoorATe
import Derived.Test.YtphojigdapaaiaaDoorASl
import Derived.Test.YtphojigdapaaiaaDoorAGd
import Derived.Test.YtphojigdapaaiaaDoorAGr
namespace Go.Proofs.YtphojigdapaaiaaDoor
open Go.ChangeShapes Go.WideShapes Go.ChangeAt Go.RowKit
set_option linter.unusedVariables false
set_option linter.unusedSimpArgs false
structure RefN (t : Tre) : Prop where
  n1 : 1 ≤ t.l.length
  n2 : t.l.length ≤ 500
  root : t.r = (t.l.length : Int) - 1
  is_ : ∀ x, t.l[t.l.length - 1]? = some x → grp x.k = 1
def RGoodEnd (t : Tre) (w : World) (e : Ending) (w' : World) : Prop := ∃ b, e = .returned (.bool b) ∧ (b = true → RefN t) ∧ Below w.heap.size w w'
theorem RGoodEnd.no {t : Tre} {w w' : World} (hb : Below w.heap.size w w') : RGoodEnd t w (.returned (.bool false)) w' := ⟨false, rfl, fun h => absurd h (by decide), hb⟩
/-- How often each node is had. -/
structure OwnedIs (W0 w : World) (pb n : Nat) (ps : List Int) : Prop where
  cnt : Blk w pb 3 (ps.map intV).toArray
  len : ps.length = n
  le : W0.heap.size ≤ pb
  low : Below W0.heap.size W0 w
theorem OwnedIs.next {W0 w w' : World} {pb n : Nat} {ps : List Int} (h : OwnedIs W0 w pb n ps) (hb : Below w.heap.size w w') : OwnedIs W0 w' pb n ps := ⟨h.cnt.next hb, h.len, h.le, next_ h.low hb⟩
theorem OwnedIs.drewN {W0 w : World} {pb n : Nat} {ps : List Int} (h : OwnedIs W0 w pb n ps) (k : Nat) : OwnedIs W0 (w.drewN k) pb n ps := ⟨h.cnt, h.len, h.le, below_drewN h.low k⟩
theorem OwnedIs.bumped {W0 w : World} {pb n : Nat} {ps : List Int} (h : OwnedIs W0 w pb n ps) {a : Nat} (v : Int) : ∃ ps', OwnedIs W0 (w.setCell ⟨pb, a, none⟩ (.int .i64 v)) pb n ps' := by
  refine ⟨ps.set a v, ?_, by rw [List.length_set]; exact h.len, h.le, h.low.setCell (p := ⟨pb, a, none⟩) h.le _⟩
  have h1 := h.cnt.set_ a (.int .i64 v)
  rw [List.setIfInBounds_toArray] at h1
  rw [List.map_set]
  exact h1
theorem OwnedIs.at_ {W0 w : World} {pb n : Nat} {ps : List Int} (h : OwnedIs W0 w pb n ps) {a : Nat} (ha : a < n) : ∃ v : Int, w.cell? ⟨pb, a, none⟩ = some (.int .i64 v) := by
  have hl : a < ps.length := by rw [h.len]; exact ha
  refine ⟨ps[a], ?_⟩
  rw [h.cnt.cell a]
  simp [intV, List.getElem?_eq_getElem hl]
set_option maxRecDepth 100000 in
set_option maxHeartbeats 16000000 in
theorem c7 (t : Tre) (A A' : Option Addr) (c c' : Nat) (w : World) (hT : TreIs w A A' t) (hl : t.l.length ≤ 281474976710656) (hy : t.y.length ≤ 281474976710656) (hx : ∀ p ∈ t.l, p.t.length ≤ 3000 ∧ p.t2.length ≤ 3000) :
    Calls Tryd.prog 7 #[treV A c A' c' t] w (RGoodEnd t w) := by
  have hX := Blk.new w 25 #[.slice A t.l.length c, .slice A' t.y.length c', .int .i64 t.r]
  have hb0 := below_new w (.cells #[.slice A t.l.length c, .slice A' t.y.length c', .int .i64 t.r] 25)
  have HT := Lib.hid (hT.next hb0)
  have HB0 := Lib.hid hb0
  have HX := Lib.hid hX
  have HL := Lib.hid hx
  clear hT hb0 hX hx
  show Calls Tryd.prog 7 #[.agg #[.slice A t.l.length c, .slice A' t.y.length c', .int .i64 t.r]] w _
  generalize hw0 : w.alloc (.cells #[.slice A t.l.length c, .slice A' t.y.length c', .int .i64 t.r] 25) = w0 at HT HB0 HX
  go_enter Tryd.func7, Tryd.ntmps7
  go_upto_region 1 with fail
  clear hw0
  generalize hxb : w.heap.size = xb at HX ⊢
  have HXB := Lib.hid hxb
  clear hxb
  have x0 : w0.cell? ⟨xb, 0, none⟩ = some (.slice A t.l.length c) := HX.out.cell 0
  have x2 : w0.cell? ⟨xb, 2, none⟩ = some (.int .i64 t.r) := HX.out.cell 2
  by_cases h1 : t.l.length < 1
  · have h1' : (t.l.length : Int) < 1 := by omega
    clear h1
    go_wp2_with fail
    go_ret
    exact RGoodEnd.no HB0.out
  have h1' : ¬ (t.l.length : Int) < 1 := by omega
  by_cases h2 : 500 < t.l.length
  · have h2' : (500 : Int) < (t.l.length : Int) := by omega
    clear h2
    go_wp2_with fail
    go_ret
    exact RGoodEnd.no HB0.out
  have h2' : ¬ (500 : Int) < (t.l.length : Int) := by omega
  have hsub : wrap64 ((t.l.length : Int) - 1) = (t.l.length : Int) - 1 := by unfold wrap64; omega
  by_cases h3 : t.r = (t.l.length : Int) - 1
  case neg =>
    have h3' : (t.r == (t.l.length : Int) - 1) = false := beq_false_of_ne h3
    have h3'' : (t.r != (t.l.length : Int) - 1) = true := bne_iff_ne.2 h3
    clear h3
    go_wp2_with fail
    go_ret
    exact RGoodEnd.no HB0.out
  have HR := Lib.hid h3
  obtain ⟨rn, hrn⟩ : ∃ rn : Nat, (t.l.length : Int) - 1 = (rn : Int) := ⟨t.l.length - 1, by omega⟩
  have hrl : rn < t.l.length := by omega
  rw [h3, hrn] at x2
  rw [hrn] at hsub
  have HRN := Lib.hid hrn
  clear h3
  have hxr : t.l[rn]? = some t.l[rn] := List.getElem?_eq_getElem hrl
  generalize t.l[rn] = x at hxr
  have HXR := Lib.hid hxr
  obtain ⟨ad, rfl, _, hcs⟩ := HT.out.nodes.nodAt hxr
  have a0 : w0.cell? (ad.add (rn * 8)) = some (.int .i64 x.k) := by have h9 := hcs 0 _ rfl; rw [add_of_add] at h9; simpa using h9
  have hrr : ((rn : Int) != (rn : Int)) = false := by simp
  have r0 : (0 : Int) ≤ (rn : Int) := by omega
  have r1 : (rn : Int) < (t.l.length : Int) := by omega
  clear hcs hxr
  go_wp2_with fail
  refine (c18 x.k w0).mono ?_
  rintro e _ ⟨rfl, rfl⟩
  by_cases hg : grp x.k = 1
  case neg =>
    have g1 : (grp x.k == 1) = false := beq_false_of_ne hg
    have g2 : (grp x.k != 1) = true := bne_iff_ne.2 hg
    clear hg
    go_wp2_with fail
    go_ret
    exact RGoodEnd.no HB0.out
  have HG := Lib.hid (show RefN t from ⟨by omega, by omega, HR.out, fun y hy => by
    rw [show t.l.length - 1 = rn by omega, HXR.out] at hy
    obtain rfl := Option.some.inj hy
    exact hg⟩)
  have g1 : (grp x.k == 1) = true := beq_iff_eq.2 hg
  have g2 : (grp x.k != 1) = false := by rw [hg]; rfl
  have hmk := run_ints t.l.length (by omega) w0
  have hP := Blk.new w0 3 ((List.replicate t.l.length (0 : Int)).map intV).toArray
  have hb4 := below_new w0 (.cells ((List.replicate t.l.length (0 : Int)).map intV).toArray 3)
  generalize hw4 : w0.alloc (.cells ((List.replicate t.l.length (0 : Int)).map intV).toArray 3) = w4 at hP hb4 hmk
  have HO4 := Lib.hid (show OwnedIs w0 w4 w0.heap.size t.l.length (List.replicate t.l.length (0 : Int)) from ⟨hP, by simp, Nat.le_refl _, hb4⟩)
  clear hP hb4 hg x0 x2 a0
  go_upto_region 5 with fail
  clear hmk hw4 g1 g2
  generalize w0.heap.size = pb at HO4 ⊢
  go_wp2_with fail
  go_loopw [5] (fun i wr => ∃ (k : Nat) (ps : List Int), k ≤ t.l.length ∧ i = .int .i64 k ∧ OwnedIs w0 wr pb t.l.length ps) (fun i _ => t.l.length - (intOf i).toNat)
  case atStart => exact ⟨0, _, by omega, rfl, HO4.out⟩
  case round =>
    obtain ⟨k, ps, hk, rfl, hO⟩ := hrel
    have HO := Lib.hid hO
    clear hO HO4
    by_cases hlt : k < t.l.length
    case pos =>
      have hlk : (k : Int) < (t.l.length : Int) := by omega
      have hk0 : (0 : Int) ≤ (k : Int) := by omega
      have hxk : t.l[k]? = some t.l[k] := List.getElem?_eq_getElem hlt
      have hxm := HL.out _ (List.getElem_mem hlt)
      generalize t.l[k] = x at hxk hxm
      obtain ⟨ad', e', _, hcs⟩ := (HT.out.next HO.out.low).nodes.nodAt hxk
      cases e'
      have HCS := Lib.hid hcs
      have HXM := Lib.hid hxm
      clear hcs hxk hxm
      have y0 : wr.cell? ⟨xb, 0, none⟩ = some (.slice (some ad) t.l.length c) := (HX.out.next HO.out.low).cell 0
      have hN := Blk.new wr 30 #[.int .i64 x.k, strV x.t, strV x.t2, .int .i64 x.n, .int .i64 x.a, .int .i64 x.b, .int .i64 x.c, .int .i64 x.h]
      have hb1 := below_new wr (.cells #[.int .i64 x.k, strV x.t, strV x.t2, .int .i64 x.n, .int .i64 x.a, .int .i64 x.b, .int .i64 x.c, .int .i64 x.h] 30)
      have HO1 := Lib.hid (HO.out.next hb1)
      generalize hw1 : wr.alloc (.cells #[.int .i64 x.k, strV x.t, strV x.t2, .int .i64 x.n, .int .i64 x.a, .int .i64 x.b, .int .i64 x.c, .int .i64 x.h] 30) = w1 at hN HO1
      have HN1 := Lib.hid hN
      clear hN hb1
      go_upto_region 9 with (first | (refine wpList_load_at rfl 30 (.tmp 50) rfl (ad.add (k * 8)) rfl [.int .i64 x.k, strV x.t, strV x.t2, .int .i64 x.n, .int .i64 x.a, .int .i64 x.b, .int .i64 x.c, .int .i64 x.h] _ HCS.out Tryd.underlying30 rfl (by kernel_rfl) ?_))
      clear hw1 y0
      generalize wr.heap.size = nb at HN1 ⊢
      have n0 : w1.cell? ⟨nb, 0, none⟩ = some (.int .i64 x.k) := HN1.out.cell 0
      have n1 : w1.cell? ⟨nb, 1, none⟩ = some (strV x.t) := HN1.out.cell 1
      have n2 : w1.cell? ⟨nb, 2, none⟩ = some (strV x.t2) := HN1.out.cell 2
      have n3 : w1.cell? ⟨nb, 3, none⟩ = some (.int .i64 x.n) := HN1.out.cell 3
      have n4 : w1.cell? ⟨nb, 4, none⟩ = some (.int .i64 x.a) := HN1.out.cell 4
      have n5 : w1.cell? ⟨nb, 5, none⟩ = some (.int .i64 x.b) := HN1.out.cell 5
      have n6 : w1.cell? ⟨nb, 6, none⟩ = some (.int .i64 x.c) := HN1.out.cell 6
      have n7 : w1.cell? ⟨nb, 7, none⟩ = some (.int .i64 x.h) := HN1.out.cell 7
      go_wp2_with fail
      refine (c18 x.k w1).mono ?_
      rintro e _ ⟨rfl, rfl⟩
      by_cases hg0 : grp x.k = 0
      · have q1 : (grp x.k == 0) = true := beq_iff_eq.2 hg0
        clear hg0
        go_wp2_with fail
        go_ret
        exact RGoodEnd.no (next_ HB0.out HO1.out.low)
      have q1 : (grp x.k == 0) = false := beq_false_of_ne hg0
      clear hg0
      go_wp2_with fail
      refine (show Calls Tryd.prog 19 #[.agg #[.int .i64 x.k, strV x.t, strV x.t2, .int .i64 x.n, .int .i64 x.a, .int .i64 x.b, .int .i64 x.c, .int .i64 x.h]] w1 (BoolEnd w1) from c19 x HXM.out.1 HXM.out.2 w1).mono ?_
      rintro e w2 ⟨b, rfl, hb2⟩
      have HO2 := Lib.hid (HO1.out.next hb2)
      have HN2 := Lib.hid (HN1.out.next hb2)
      clear n0 n1 n2 n3 n4 n5 n6 n7
      clear hb2 HO1 HN1 q1
      cases b with
      | false =>
        go_wp2_with fail
        go_ret
        exact RGoodEnd.no (next_ HB0.out HO2.out.low)
      | true =>
      have n0 : w2.cell? ⟨nb, 0, none⟩ = some (.int .i64 x.k) := HN2.out.cell 0
      have n1 : w2.cell? ⟨nb, 1, none⟩ = some (strV x.t) := HN2.out.cell 1
      have n2 : w2.cell? ⟨nb, 2, none⟩ = some (strV x.t2) := HN2.out.cell 2
      have n3 : w2.cell? ⟨nb, 3, none⟩ = some (.int .i64 x.n) := HN2.out.cell 3
      have n4 : w2.cell? ⟨nb, 4, none⟩ = some (.int .i64 x.a) := HN2.out.cell 4
      have n5 : w2.cell? ⟨nb, 5, none⟩ = some (.int .i64 x.b) := HN2.out.cell 5
      have n6 : w2.cell? ⟨nb, 6, none⟩ = some (.int .i64 x.c) := HN2.out.cell 6
      have n7 : w2.cell? ⟨nb, 7, none⟩ = some (.int .i64 x.h) := HN2.out.cell 7
      go_wp2_with fail
      refine (show Calls Tryd.prog 20 #[.agg #[.int .i64 x.k, strV x.t, strV x.t2, .int .i64 x.n, .int .i64 x.a, .int .i64 x.b, .int .i64 x.c, .int .i64 x.h]] w2 (SlotsEnd w2) from c20 x w2).mono ?_
      rintro e w3 ⟨s0, m0, s1, m1, s2, m2, rfl, hb3⟩
      have HO3 := Lib.hid (HO2.out.next hb3)
      have HN3 := Lib.hid (HN2.out.next hb3)
      clear n0 n1 n2 n3 n4 n5 n6 n7
      clear hb3 HO2 HN2
      have hS := Blk.new w3 49 #[.int .i64 s0, .bool m0, .int .i64 s1, .bool m1, .int .i64 s2, .bool m2]
      have hb4 := below_new w3 (.cells #[.int .i64 s0, .bool m0, .int .i64 s1, .bool m1, .int .i64 s2, .bool m2] 49)
      have HO4 := Lib.hid (HO3.out.next hb4)
      have HN4 := Lib.hid (HN3.out.next hb4)
      generalize hw4 : w3.alloc (.cells #[.int .i64 s0, .bool m0, .int .i64 s1, .bool m1, .int .i64 s2, .bool m2] 49) = w4 at hS HO4 HN4
      have HS4 := Lib.hid hS
      clear hS hb4
      go_upto_region 12 with fail
      clear hw4
      generalize w3.heap.size = sb at HS4 ⊢
      have n0 : w4.cell? ⟨nb, 0, none⟩ = some (.int .i64 x.k) := HN4.out.cell 0
      have n1 : w4.cell? ⟨nb, 1, none⟩ = some (strV x.t) := HN4.out.cell 1
      have n2 : w4.cell? ⟨nb, 2, none⟩ = some (strV x.t2) := HN4.out.cell 2
      have n3 : w4.cell? ⟨nb, 3, none⟩ = some (.int .i64 x.n) := HN4.out.cell 3
      have n4 : w4.cell? ⟨nb, 4, none⟩ = some (.int .i64 x.a) := HN4.out.cell 4
      have n5 : w4.cell? ⟨nb, 5, none⟩ = some (.int .i64 x.b) := HN4.out.cell 5
      have n6 : w4.cell? ⟨nb, 6, none⟩ = some (.int .i64 x.c) := HN4.out.cell 6
      have n7 : w4.cell? ⟨nb, 7, none⟩ = some (.int .i64 x.h) := HN4.out.cell 7
      have hA := Blk.new w4 51 #[.int .i64 x.a, .int .i64 x.b, .int .i64 x.c]
      have hb5 := below_new w4 (.cells #[.int .i64 x.a, .int .i64 x.b, .int .i64 x.c] 51)
      have HO5 := Lib.hid (HO4.out.next hb5)
      have HS5 := Lib.hid (HS4.out.next hb5)
      generalize hw5 : w4.alloc (.cells #[.int .i64 x.a, .int .i64 x.b, .int .i64 x.c] 51) = w5 at hA HO5 HS5
      have HA5 := Lib.hid hA
      clear hA hb5
      go_upto_region 13 with fail
      clear hw5
      generalize w4.heap.size = ab at HA5 ⊢
      clear n0 n1 n2 n3 n4 n5 n6 n7
      clear HO4 HN4 HS4 HO3 HN3
      go_wp2_with fail
      go_loopw [9] (fun i wr => ∃ (q : Nat) (ps : List Int), q ≤ 3 ∧ i = .int .i64 q ∧ OwnedIs w0 wr pb t.l.length ps ∧ Blk wr sb 49 #[.int .i64 s0, .bool m0, .int .i64 s1, .bool m1, .int .i64 s2, .bool m2] ∧ Blk wr ab 51 #[.int .i64 x.a, .int .i64 x.b, .int .i64 x.c]) (fun i _ => 3 - (intOf i).toNat)
      case atStart => exact ⟨0, _, by omega, rfl, HO5.out, HS5.out, HA5.out⟩
      case round =>
        obtain ⟨q, ps, hq, rfl, hO, hS, hA⟩ := hrel
        have HO := Lib.hid hO
        have HS := Lib.hid hS
        have HA := Lib.hid hA
        clear hO hS hA HO5 HS5 HA5
        by_cases hq3 : q < 3
        case neg =>
          obtain rfl : q = 3 := by omega
          go_wp2_with fail
          go_roundw
          case rel => exact ⟨k + 1, _, by omega, by go_num, HO.out⟩
          case measure => simp [intOf]; omega
        case pos =>
          have hq1 : (q : Int) < 3 := by omega
          have hq0 : (0 : Int) ≤ (q : Int) := by omega
          obtain ⟨gq, m, at_, hz0, hz1, hz2⟩ : ∃ (gq : Int) (m : Bool) (at_ : Int), wr.cell? ⟨sb, q * 2, none⟩ = some (.int .i64 gq) ∧ wr.cell? ⟨sb, q * 2 + 1, none⟩ = some (.bool m) ∧ wr.cell? ⟨ab, q, none⟩ = some (.int .i64 at_) := by
            rcases (by omega : q = 0 ∨ q = 1 ∨ q = 2) with rfl | rfl | rfl
            · exact ⟨_, _, _, HS.out.cell 0, HS.out.cell 1, HA.out.cell 0⟩
            · exact ⟨_, _, _, HS.out.cell 2, HS.out.cell 3, HA.out.cell 1⟩
            · exact ⟨_, _, _, HS.out.cell 4, HS.out.cell 5, HA.out.cell 2⟩
          cases m with
          | true =>
            by_cases hm : at_ = -1
            · have e4 : (at_ == -1) = true := beq_iff_eq.2 hm
              clear hm
              go_wp2_with fail
              go_roundw
              case rel => exact ⟨q + 1, _, by omega, by go_num, HO.out, HS.out, HA.out⟩
              case measure => simp [intOf]; omega
            have e4 : (at_ == -1) = false := beq_false_of_ne hm
            clear hm
            by_cases hgq : gq = 0
            · have e1 : (gq == 0) = true := beq_iff_eq.2 hgq
              clear hgq
              go_wp2_with fail
              go_ret
              exact RGoodEnd.no (next_ HB0.out HO.out.low)
            have e1 : (gq == 0) = false := beq_false_of_ne hgq
            clear hgq
            have y0 : wr.cell? ⟨xb, 0, none⟩ = some (.slice (some ad) t.l.length c) := (HX.out.next HO.out.low).cell 0
            by_cases hlo : at_ < 0
            · go_upto_region 21 with fail
              go_quiet (fail)
              have HOq := Lib.hid (HO.out.drewN nq)
              go_wp2_with fail
              go_ret
              exact RGoodEnd.no (next_ HB0.out HOq.out.low)
            by_cases hhi : (k : Int) ≤ at_
            · go_upto_region 21 with fail
              go_quiet (fail)
              have HOq := Lib.hid (HO.out.drewN nq)
              go_wp2_with fail
              go_ret
              exact RGoodEnd.no (next_ HB0.out HOq.out.low)
            obtain ⟨a, rfl⟩ : ∃ a : Nat, at_ = (a : Int) := ⟨at_.toNat, by omega⟩
            have hal : a < t.l.length := by omega
            have ha0 : (0 : Int) ≤ (a : Int) := by omega
            have ha1 : (a : Int) < (t.l.length : Int) := by omega
            have hya : t.l[a]? = some t.l[a] := List.getElem?_eq_getElem hal
            generalize t.l[a] = y at hya
            obtain ⟨ad2, e2, _, hcs⟩ := (HT.out.next HO.out.low).nodes.nodAt hya
            cases e2
            have ya : wr.cell? (ad.add (a * 8)) = some (.int .i64 y.k) := by have h9 := hcs 0 _ rfl; rw [add_of_add] at h9; simpa using h9
            clear hcs hya
            obtain ⟨v, hv⟩ := HO.out.at_ hal
            have hvf := HO.out.cnt.frozen a
            go_upto_region 21 with fail
            go_quiet ((go_at_call 18; exact Calls.quiet_of_same ((c18 _ _).mono (fun _ _ h => ⟨h.1, h.2.symm⟩))))
            have HOq := Lib.hid (HO.out.drewN nq)
            have HSq := Lib.hid (HS.out.drewN nq)
            have HAq := Lib.hid (HA.out.drewN nq)
            have hv' : (wr.drewN nq).cell? ⟨pb, a, none⟩ = some (.int .i64 v) := hv
            have hvf' : (wr.drewN nq).frozen? ⟨pb, a, none⟩ = false := hvf
            have hz2' : (wr.drewN nq).cell? ⟨ab, q, none⟩ = some (.int .i64 (a : Int)) := hz2
            clear y0 hv hvf hz0 hz1 hz2 ya
            generalize wr.drewN nq = w8 at HOq HSq HAq hv' hvf' hz2' ⊢
            by_cases hgy : grp y.k = gq
            · have f1 : (grp y.k == gq) = true := beq_iff_eq.2 hgy
              have f2 : (grp y.k != gq) = false := by rw [hgy]; simp
              clear hgy
              obtain ⟨ps', hO'⟩ := HOq.out.bumped (a := a) (wrap64 (v + 1))
              have HO' := Lib.hid hO'
              have HS' := Lib.hid (HSq.out.far (p := ⟨pb, a, none⟩) (HSq.out.ne_ HOq.out.cnt (by decide)) (.int .i64 (wrap64 (v + 1))))
              have HA' := Lib.hid (HAq.out.far (p := ⟨pb, a, none⟩) (HAq.out.ne_ HOq.out.cnt (by decide)) (.int .i64 (wrap64 (v + 1))))
              clear hO'
              go_wp2_with fail
              go_roundw
              case rel => exact ⟨q + 1, _, by omega, by go_num, HO'.out, HS'.out, HA'.out⟩
              case measure => simp [intOf]; omega
            · have f1 : (grp y.k == gq) = false := beq_false_of_ne hgy
              have f2 : (grp y.k != gq) = true := bne_iff_ne.2 hgy
              clear hgy
              go_wp2_with fail
              go_ret
              exact RGoodEnd.no (next_ HB0.out HOq.out.low)
          | false =>
            by_cases hgq : gq = 0
            · have e1 : (gq == 0) = true := beq_iff_eq.2 hgq
              clear hgq
              by_cases ha0 : at_ = 0
              · have e2 : (at_ == 0) = true := beq_iff_eq.2 ha0
                have e3 : (at_ != 0) = false := by rw [ha0]; rfl
                clear ha0
                go_wp2_with fail
                go_roundw
                case rel => exact ⟨q + 1, _, by omega, by go_num, HO.out, HS.out, HA.out⟩
                case measure => simp [intOf]; omega
              · have e2 : (at_ == 0) = false := beq_false_of_ne ha0
                have e3 : (at_ != 0) = true := bne_iff_ne.2 ha0
                clear ha0
                go_wp2_with fail
                go_ret
                exact RGoodEnd.no (next_ HB0.out HO.out.low)
            have e1 : (gq == 0) = false := beq_false_of_ne hgq
            clear hgq
            have y0 : wr.cell? ⟨xb, 0, none⟩ = some (.slice (some ad) t.l.length c) := (HX.out.next HO.out.low).cell 0
            by_cases hlo : at_ < 0
            · go_upto_region 21 with fail
              go_quiet (fail)
              have HOq := Lib.hid (HO.out.drewN nq)
              go_wp2_with fail
              go_ret
              exact RGoodEnd.no (next_ HB0.out HOq.out.low)
            by_cases hhi : (k : Int) ≤ at_
            · go_upto_region 21 with fail
              go_quiet (fail)
              have HOq := Lib.hid (HO.out.drewN nq)
              go_wp2_with fail
              go_ret
              exact RGoodEnd.no (next_ HB0.out HOq.out.low)
            obtain ⟨a, rfl⟩ : ∃ a : Nat, at_ = (a : Int) := ⟨at_.toNat, by omega⟩
            have hal : a < t.l.length := by omega
            have ha0 : (0 : Int) ≤ (a : Int) := by omega
            have ha1 : (a : Int) < (t.l.length : Int) := by omega
            have hya : t.l[a]? = some t.l[a] := List.getElem?_eq_getElem hal
            generalize t.l[a] = y at hya
            obtain ⟨ad2, e2, _, hcs⟩ := (HT.out.next HO.out.low).nodes.nodAt hya
            cases e2
            have ya : wr.cell? (ad.add (a * 8)) = some (.int .i64 y.k) := by have h9 := hcs 0 _ rfl; rw [add_of_add] at h9; simpa using h9
            clear hcs hya
            obtain ⟨v, hv⟩ := HO.out.at_ hal
            have hvf := HO.out.cnt.frozen a
            go_upto_region 21 with fail
            go_quiet ((go_at_call 18; exact Calls.quiet_of_same ((c18 _ _).mono (fun _ _ h => ⟨h.1, h.2.symm⟩))))
            have HOq := Lib.hid (HO.out.drewN nq)
            have HSq := Lib.hid (HS.out.drewN nq)
            have HAq := Lib.hid (HA.out.drewN nq)
            have hv' : (wr.drewN nq).cell? ⟨pb, a, none⟩ = some (.int .i64 v) := hv
            have hvf' : (wr.drewN nq).frozen? ⟨pb, a, none⟩ = false := hvf
            have hz2' : (wr.drewN nq).cell? ⟨ab, q, none⟩ = some (.int .i64 (a : Int)) := hz2
            clear y0 hv hvf hz0 hz1 hz2 ya
            generalize wr.drewN nq = w8 at HOq HSq HAq hv' hvf' hz2' ⊢
            by_cases hgy : grp y.k = gq
            · have f1 : (grp y.k == gq) = true := beq_iff_eq.2 hgy
              have f2 : (grp y.k != gq) = false := by rw [hgy]; simp
              clear hgy
              obtain ⟨ps', hO'⟩ := HOq.out.bumped (a := a) (wrap64 (v + 1))
              have HO' := Lib.hid hO'
              have HS' := Lib.hid (HSq.out.far (p := ⟨pb, a, none⟩) (HSq.out.ne_ HOq.out.cnt (by decide)) (.int .i64 (wrap64 (v + 1))))
              have HA' := Lib.hid (HAq.out.far (p := ⟨pb, a, none⟩) (HAq.out.ne_ HOq.out.cnt (by decide)) (.int .i64 (wrap64 (v + 1))))
              clear hO'
              go_wp2_with fail
              go_roundw
              case rel => exact ⟨q + 1, _, by omega, by go_num, HO'.out, HS'.out, HA'.out⟩
              case measure => simp [intOf]; omega
            · have f1 : (grp y.k == gq) = false := beq_false_of_ne hgy
              have f2 : (grp y.k != gq) = true := bne_iff_ne.2 hgy
              clear hgy
              go_wp2_with fail
              go_ret
              exact RGoodEnd.no (next_ HB0.out HOq.out.low)
    case neg =>
      obtain rfl : k = t.l.length := by omega
      have hlk : ¬ ((t.l.length : Int) < (t.l.length : Int)) := by omega
      have x2 : wr.cell? ⟨xb, 2, none⟩ = some (.int .i64 (rn : Int)) := by rw [← hrn, ← HR.out]; exact (HX.out.next HO.out.low).cell 2
      obtain ⟨v, hv⟩ := HO.out.at_ hrl
      have hvf := HO.out.cnt.frozen rn
      obtain ⟨ps1, hO1⟩ := HO.out.bumped (a := rn) (wrap64 (v + 1))
      have HO1 := Lib.hid hO1
      clear hO1
      go_upto_region 24 with fail
      clear x2 hv hvf
      generalize wr.setCell ⟨pb, rn, none⟩ (.int .i64 (wrap64 (v + 1))) = w1 at HO1 ⊢
      go_wp2_with fail
      go_loopw [10] (fun i wr => ∃ (j : Nat) (ps : List Int), j ≤ t.y.length ∧ i = .int .i64 j ∧ OwnedIs w0 wr pb t.l.length ps) (fun i _ => t.y.length - (intOf i).toNat)
      case atStart => exact ⟨0, _, by omega, rfl, HO1.out⟩
      case round =>
        obtain ⟨j, ps, hj, rfl, hO⟩ := hrel
        have HO := Lib.hid hO
        clear hO HO1
        have y1 : wr.cell? ⟨xb, 1, none⟩ = some (.slice A' t.y.length c') := (HX.out.next HO.out.low).cell 1
        have y0 : wr.cell? ⟨xb, 0, none⟩ = some (.slice (some ad) t.l.length c) := (HX.out.next HO.out.low).cell 0
        by_cases hjt : j < t.y.length
        case pos =>
          have hj1 : (j : Int) < (t.y.length : Int) := by omega
          have hj0 : (0 : Int) ≤ (j : Int) := by omega
          obtain ⟨ay, u, rfl, _, hu, hcell⟩ := (HT.out.next HO.out.low).types.at_ hjt
          have hyj : t.y[j]? = some t.y[j] := List.getElem?_eq_getElem hjt
          rw [List.getElem?_map, hyj] at hu
          obtain rfl := Option.some.inj hu
          generalize t.y[j] = z at hcell
          replace hcell : wr.cell? (ay.add j) = some (.int .i64 z) := hcell
          clear hu hyj
          by_cases hz0 : z < 0
          · go_wp2_with fail
            go_ret
            exact RGoodEnd.no (next_ HB0.out HO.out.low)
          by_cases hzn : (t.l.length : Int) ≤ z
          · go_wp2_with fail
            go_ret
            exact RGoodEnd.no (next_ HB0.out HO.out.low)
          obtain ⟨zn, rfl⟩ : ∃ zn : Nat, z = (zn : Int) := ⟨z.toNat, by omega⟩
          have hzl : zn < t.l.length := by omega
          have hz1 : (0 : Int) ≤ (zn : Int) := by omega
          have hz2 : (zn : Int) < (t.l.length : Int) := by omega
          have hya : t.l[zn]? = some t.l[zn] := List.getElem?_eq_getElem hzl
          generalize t.l[zn] = y at hya
          obtain ⟨ad2, e2, _, hcs⟩ := (HT.out.next HO.out.low).nodes.nodAt hya
          cases e2
          have ya : wr.cell? (ad.add (zn * 8)) = some (.int .i64 y.k) := by have h9 := hcs 0 _ rfl; rw [add_of_add] at h9; simpa using h9
          clear hcs hya
          obtain ⟨v2, hv⟩ := HO.out.at_ hzl
          have hvf := HO.out.cnt.frozen zn
          obtain ⟨ps2, hO2⟩ := HO.out.bumped (a := zn) (wrap64 (v2 + 1))
          have HO2 := Lib.hid hO2
          clear hO2
          by_cases hjz : 0 < j
          · have f0 : (0 : Int) < (j : Int) := by omega
            obtain ⟨jp, hjp⟩ : ∃ jp : Nat, (j : Int) - 1 = (jp : Int) := ⟨j - 1, by omega⟩
            have hjpl : jp < t.y.length := by omega
            obtain ⟨ay2, u2, e3, _, hu2, hcell2⟩ := (HT.out.next HO.out.low).types.at_ hjpl
            cases e3
            have hyj2 : t.y[jp]? = some t.y[jp] := List.getElem?_eq_getElem hjpl
            rw [List.getElem?_map, hyj2] at hu2
            obtain rfl := Option.some.inj hu2
            generalize t.y[jp] = z2 at hcell2
            replace hcell2 : wr.cell? (ay.add jp) = some (.int .i64 z2) := hcell2
            have hjs : wrap64 ((j : Int) - 1) = (jp : Int) := by rw [hjp]; unfold wrap64; omega
            have hjp0 : (0 : Int) ≤ (jp : Int) := by omega
            have hjp1 : (jp : Int) < (t.y.length : Int) := by omega
            clear hu2 hyj2
            go_wp2_with fail
            all_goals first
              | (go_ret; exact RGoodEnd.no (next_ HB0.out HO.out.low))
              | exact ⟨⟨j + 1, _, by omega, by go_num, HO2.out⟩, by simp [intOf]; omega⟩
          · have f0 : ¬ (0 : Int) < (j : Int) := by omega
            go_wp2_with fail
            all_goals first
              | (go_ret; exact RGoodEnd.no (next_ HB0.out HO.out.low))
              | exact ⟨⟨j + 1, _, by omega, by go_num, HO2.out⟩, by simp [intOf]; omega⟩
        case neg =>
          obtain rfl : j = t.y.length := by omega
          have hjt2 : ¬ ((t.y.length : Int) < (t.y.length : Int)) := by omega
          go_wp2_with fail
          go_loopw [12] (fun i w' => ∃ j : Nat, j ≤ t.l.length ∧ i = .int .i64 j ∧ w' = wr) (fun i _ => t.l.length - (intOf i).toNat)
          case atStart => exact ⟨0, by omega, rfl, rfl⟩
          case round =>
            obtain ⟨j, hj, rfl, rfl⟩ := hrel
            by_cases hjl : j < t.l.length
            · have hj1 : (j : Int) < (t.l.length : Int) := by omega
              have hj0 : (0 : Int) ≤ (j : Int) := by omega
              obtain ⟨v3, hv⟩ := HO.out.at_ hjl
              go_wp2_with fail
              all_goals first
                | (go_ret; exact RGoodEnd.no (next_ HB0.out HO.out.low))
                | exact ⟨⟨j + 1, by omega, by go_num, by first | rfl | trivial⟩, by simp [intOf]; omega⟩
            · obtain rfl : j = t.l.length := by omega
              have hj1 : ¬ ((t.l.length : Int) < (t.l.length : Int)) := by omega
              go_wp2_with fail
              go_ret
              exact ⟨true, rfl, fun _ => HG.out, next_ HB0.out HO.out.low⟩
end Go.Proofs.YtphojigdapaaiaaDoor
