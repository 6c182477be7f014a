/- asker.child. -/
import Derived.Test.YtphojigdapaaiaaDoorACh
namespace Go.Proofs.YtphojigdapaaiaaDoor
open Go.ChangeShapes Go.WideShapes Go.ChangeAt Go.RowKit
set_option linter.unusedVariables false
set_option linter.unusedSimpArgs false
abbrev ptr (g : Nat) : Value := .pointer (some ⟨g, 0, none⟩)
/-- An asker of a tree: its block g, its counts' block pb. -/
structure AskIs (W0 w : World) (g pb : Nat) (A A' : Option Addr) (c c' : Nat) (t : Tre) (ps : List Int) : Prop where
  ask : Blk w g 56 #[.slice A t.l.length c, .slice A' t.y.length c', .int .i64 t.r, .slice (some ⟨pb, 0, none⟩) ps.length ps.length]
  cnt : Blk w pb 3 (ps.map intV).toArray
  le : W0.heap.size ≤ pb
  low : Below W0.heap.size W0 w
theorem AskIs.next {W0 w w' : World} {g pb : Nat} {A A' : Option Addr} {c c' : Nat} {t : Tre} {ps : List Int} (h : AskIs W0 w g pb A A' c c' t ps) (hb : Below w.heap.size w w') : AskIs W0 w' g pb A A' c c' t ps :=
  ⟨h.ask.next hb, h.cnt.next hb, h.le, next_ h.low hb⟩
theorem AskIs.ne {W0 w : World} {g pb : Nat} {A A' : Option Addr} {c c' : Nat} {t : Tre} {ps : List Int} (h : AskIs W0 w g pb A A' c c' t ps) : g ≠ pb := h.ask.ne_ h.cnt (by decide)
def bump (v : Int) : Int := wrap64 (v + 1)
theorem AskIs.bumped {W0 w : World} {g pb : Nat} {A A' : Option Addr} {c c' : Nat} {t : Tre} {ps : List Int} (h : AskIs W0 w g pb A A' c c' t ps) {a : Nat} (ha : a < ps.length) :
    AskIs W0 (w.setCell ⟨pb, a, none⟩ (.int .i64 (wrap64 (ps[a] + 1)))) g pb A A' c c' t (ps.modify a bump) := by
  refine ⟨?_, ?_, h.le, h.low.setCell (p := ⟨pb, a, none⟩) h.le _⟩
  · rw [List.length_modify]
    exact h.ask.far h.ne _
  · have h1 := h.cnt.set_ a (.int .i64 (wrap64 (ps[a] + 1)))
    have e : ((ps.map intV).toArray).setIfInBounds a (.int .i64 (wrap64 (ps[a] + 1))) = ((ps.modify a bump).map intV).toArray := by
      rw [List.setIfInBounds_toArray]
      congr 1
      apply List.ext_getElem?
      intro j
      rw [List.getElem?_set, List.getElem?_map, List.getElem?_map, List.getElem?_modify]
      by_cases hj : a = j
      · subst hj
        simp [ha, intV, bump]
      · simp [hj]
    rw [← e]
    exact h1
/-- The counts behind a child. -/
def bumpL (is at_ : Int) (me : Nat) (ps : List Int) : List Int :=
  if is = 0 then ps else if is < 97 ∧ at_ = -1 then ps else if 0 ≤ at_ ∧ at_ < me then ps.modify at_.toNat bump else ps
/-- May a node be the child. -/
def childL (t : Tre) (is at_ : Int) (me : Nat) : Bool :=
  if is = 0 then at_ == 0 else if is < 97 ∧ at_ = -1 then true else if 0 ≤ at_ ∧ at_ < me then (match t.l[at_.toNat]? with | some x => (ofL x).1.is_ == (if is < 97 then is + 32 else is) | none => false) else false
def ChildEnd (W0 : World) (g pb : Nat) (A A' : Option Addr) (c c' : Nat) (t : Tre) (ps : List Int) (is at_ : Int) (me : Nat) (w : World) (e : Ending) (w' : World) : Prop :=
  e = .returned (.bool (childL t is at_ me)) ∧ AskIs W0 w' g pb A A' c c' t (bumpL is at_ me ps) ∧ w.grownBy w' (some pb)
set_option maxRecDepth 100000 in
set_option maxHeartbeats 4000000 in
theorem c38 {W0 : World} {g pb : Nat} {A A' : Option Addr} {c c' : Nat} {t : Tre} {ps : List Int} (is at_ : Int) (me : Nat) (w : World) (hA : AskIs W0 w g pb A A' c c' t ps) (hT : TreIs W0 A A' t) (hS : AstTab W0)
    (hi : 0 ≤ is) (hme : me < t.l.length) (hl : t.l.length ≤ 1000) (hps : ps.length = t.l.length) :
    Calls Tryd.prog 38 #[ptr g, .int .u8 is, .int .i64 at_, .int .i64 (me : Int)] w (ChildEnd W0 g pb A A' c c' t ps is at_ me w) := by
  have HA := Lib.hid hA
  have HT := Lib.hid hT
  have HS := Lib.hid hS
  clear hA hT hS
  have HM := Lib.hid hme
  have HP := Lib.hid hps
  by_cases h0 : is = 0
  · subst h0
    have E1 := Lib.hid (show childL t 0 at_ me = (at_ == 0) from rfl)
    have E2 := Lib.hid (show bumpL 0 at_ me ps = ps from rfl)
    by_cases ha : at_ = 0
    · subst ha
      go_enter Tryd.func38, Tryd.ntmps38
      go_wp2_with fail
      go_ret
      exact ⟨by rw [E1.out]; rfl, by rw [E2.out]; exact HA.out, grown_of_below (Below.refl _ _) _⟩
    · have fa : (at_ == 0) = false := beq_false_of_ne ha
      have FA := Lib.hid fa
      clear ha
      go_enter Tryd.func38, Tryd.ntmps38
      go_wp2_with fail
      go_ret
      exact ⟨by rw [E1.out, FA.out]; rfl, by rw [E2.out]; exact HA.out, grown_of_below (Below.refl _ _) _⟩
  have f0 : (is == 0) = false := beq_false_of_ne h0
  by_cases h97 : is < 97
  · skip
    by_cases hm : at_ = -1
    · subst hm
      have E1 := Lib.hid (show childL t is (-1) me = true by unfold childL; rw [if_neg h0, if_pos ⟨h97, rfl⟩])
      have E2 := Lib.hid (show bumpL is (-1) me ps = ps by unfold bumpL; rw [if_neg h0, if_pos ⟨h97, rfl⟩])
      clear h0
      go_enter Tryd.func38, Tryd.ntmps38
      go_wp2_with fail
      go_ret
      exact ⟨by rw [E1.out]; rfl, by rw [E2.out]; exact HA.out, grown_of_below (Below.refl _ _) _⟩
    have fm : (at_ == -1) = false := beq_false_of_ne hm
    have HM1 := Lib.hid hm
    clear hm
    by_cases hlo : at_ < 0
    · have E1 := Lib.hid (show childL t is at_ me = false by unfold childL; rw [if_neg h0, if_neg (by rintro ⟨_, h⟩; exact HM1.out h), if_neg (by omega)])
      have E2 := Lib.hid (show bumpL is at_ me ps = ps by unfold bumpL; rw [if_neg h0, if_neg (by rintro ⟨_, h⟩; exact HM1.out h), if_neg (by omega)])
      clear HM1 h0
      go_enter Tryd.func38, Tryd.ntmps38
      go_wp2_with fail
      go_ret
      exact ⟨by rw [E1.out]; rfl, by rw [E2.out]; exact HA.out, grown_of_below (Below.refl _ _) _⟩
    by_cases hhi : (me : Int) ≤ at_
    · have E1 := Lib.hid (show childL t is at_ me = false by unfold childL; rw [if_neg h0, if_neg (by rintro ⟨_, h⟩; exact HM1.out h), if_neg (by omega)])
      have E2 := Lib.hid (show bumpL is at_ me ps = ps by unfold bumpL; rw [if_neg h0, if_neg (by rintro ⟨_, h⟩; exact HM1.out h), if_neg (by omega)])
      clear HM1 h0
      go_enter Tryd.func38, Tryd.ntmps38
      go_wp2_with fail
      go_ret
      exact ⟨by rw [E1.out]; rfl, by rw [E2.out]; exact HA.out, grown_of_below (Below.refl _ _) _⟩
    obtain ⟨a, ha⟩ : ∃ a : Nat, at_ = (a : Int) := ⟨at_.toNat, by omega⟩
    have ham : a < me := by omega
    have hal : a < t.l.length := by omega
    have hap : a < ps.length := by omega
    have hxa : t.l[a]? = some t.l[a] := List.getElem?_eq_getElem hal
    obtain ⟨x, hx⟩ : ∃ x, x = t.l[a] := ⟨_, rfl⟩
    rw [← hx] at hxa
    have E1 := Lib.hid (show childL t is at_ me = ((ofL x).1.is_ == is + 32) by unfold childL; rw [if_neg h0, if_neg (by rintro ⟨_, h⟩; exact HM1.out h), if_pos (by omega), ha, show ((a : Int)).toNat = a from rfl, hxa, if_pos h97])
    have E2 := Lib.hid (show bumpL is at_ me ps = ps.modify a bump by unfold bumpL; rw [if_neg h0, if_neg (by rintro ⟨_, h⟩; exact HM1.out h), if_pos (by omega), ha]; rfl)
    rw [ha] at E1 E2 ⊢
    have fm2 : ((a : Int) == -1) = false := beq_false_of_ne (by omega)
    have i1 : (0 : Int) ≤ (a : Int) := by omega
    have i2 : (a : Int) < (me : Int) := by omega
    have i3 : (a : Int) < (ps.length : Int) := by omega
    have i4 : (a : Int) < (t.l.length : Int) := by omega
    have x3 : w.cell? ⟨g, 3, none⟩ = some (.slice (some ⟨pb, 0, none⟩) ps.length ps.length) := HA.out.ask.cell 3
    have pa : w.cell? ⟨pb, a, none⟩ = some (.int .i64 ps[a]) := by
      rw [HA.out.cnt.cell a]
      simp [intV, List.getElem?_eq_getElem hap]
    have fz := HA.out.cnt.frozen a
    have HA1 := Lib.hid (HA.out.bumped hap)
    have HG := Lib.hid (grown_set w pb a (.int .i64 (wrap64 (ps[a] + 1))))
    have HXA := Lib.hid hxa
    clear hx hxa HM1 h0
    go_enter Tryd.func38, Tryd.ntmps38
    go_upto_region 10 with fail
    generalize w.setCell ⟨pb, a, none⟩ (.int .i64 (wrap64 (ps[a] + 1))) = w1 at HA1 HG ⊢
    obtain ⟨ad, rfl, hadb, hcs⟩ := (HT.out.next HA1.out.low).nodes.nodAt HXA.out
    have HCS := Lib.hid hcs
    have HC := Lib.hid (c34 x w1 (HS.out.next HA1.out.low))
    have hps1 : (ps.modify a bump).length = t.l.length := by rw [List.length_modify]; exact HP.out
    have x0 : w1.cell? ⟨g, 0, none⟩ = some (.slice (some ad) t.l.length c) := HA1.out.ask.cell 0
    clear hcs hadb x3 pa fz
    go_upto_region 11 with (first | (refine wpList_load_at rfl 30 (.tmp 46) rfl (ad.add (a * 8)) rfl (nodC x) _ HCS.out Tryd.underlying30 rfl (by kernel_rfl) ?_))
    refine HC.out.mono ?_
    rintro e w2 ⟨rfl, hb2⟩
    have HA2 := Lib.hid (HA1.out.next hb2)
    have HG2 := Lib.hid (HG.out.trans (grown_of_below hb2 _))
    clear hb2 HC HA1 HG x0
    obtain ⟨r, hr⟩ : ∃ r, r = (ofL x).1 := ⟨_, rfl⟩
    rw [← hr] at E1 ⊢
    obtain ⟨u, hu⟩ : ∃ u, u = (ofL x).2 := ⟨_, rfl⟩
    rw [← hu]
    clear hr hu
    rw [show (rowC r).toArray = #[.int .u8 r.is_, .int .u8 r.a, .int .u8 r.b, .int .u8 r.c, .int .i64 r.text, .int .i64 r.second, .int .i64 r.lo, .int .i64 r.hi] from rfl]
    have HA3 := Lib.hid (HA2.out.next (below_new w2 (.cells #[.int .u8 r.is_, .int .u8 r.a, .int .u8 r.b, .int .u8 r.c, .int .i64 r.text, .int .i64 r.second, .int .i64 r.lo, .int .i64 r.hi] 59)))
    have HG3 := Lib.hid (HG2.out.trans (grown_of_below (below_new w2 (.cells #[.int .u8 r.is_, .int .u8 r.a, .int .u8 r.b, .int .u8 r.c, .int .i64 r.text, .int .i64 r.second, .int .i64 r.lo, .int .i64 r.hi] 59)) _))
    go_wp2_with fail
    go_ret
    exact ⟨by rw [E1.out]; rfl, by rw [E2.out]; exact HA3.out, HG3.out⟩
  · have HM1 := Lib.hid h0
    by_cases hlo : at_ < 0
    · have E1 := Lib.hid (show childL t is at_ me = false by unfold childL; rw [if_neg h0, if_neg (by rintro ⟨h, _⟩; omega), if_neg (by omega)])
      have E2 := Lib.hid (show bumpL is at_ me ps = ps by unfold bumpL; rw [if_neg h0, if_neg (by rintro ⟨h, _⟩; omega), if_neg (by omega)])
      clear HM1 h0
      go_enter Tryd.func38, Tryd.ntmps38
      go_wp2_with fail
      go_ret
      exact ⟨by rw [E1.out]; rfl, by rw [E2.out]; exact HA.out, grown_of_below (Below.refl _ _) _⟩
    by_cases hhi : (me : Int) ≤ at_
    · have E1 := Lib.hid (show childL t is at_ me = false by unfold childL; rw [if_neg h0, if_neg (by rintro ⟨h, _⟩; omega), if_neg (by omega)])
      have E2 := Lib.hid (show bumpL is at_ me ps = ps by unfold bumpL; rw [if_neg h0, if_neg (by rintro ⟨h, _⟩; omega), if_neg (by omega)])
      clear HM1 h0
      go_enter Tryd.func38, Tryd.ntmps38
      go_wp2_with fail
      go_ret
      exact ⟨by rw [E1.out]; rfl, by rw [E2.out]; exact HA.out, grown_of_below (Below.refl _ _) _⟩
    obtain ⟨a, ha⟩ : ∃ a : Nat, at_ = (a : Int) := ⟨at_.toNat, by omega⟩
    have ham : a < me := by omega
    have hal : a < t.l.length := by omega
    have hap : a < ps.length := by omega
    have hxa : t.l[a]? = some t.l[a] := List.getElem?_eq_getElem hal
    obtain ⟨x, hx⟩ : ∃ x, x = t.l[a] := ⟨_, rfl⟩
    rw [← hx] at hxa
    have E1 := Lib.hid (show childL t is at_ me = ((ofL x).1.is_ == is) by unfold childL; rw [if_neg h0, if_neg (by rintro ⟨h, _⟩; omega), if_pos (by omega), ha, show ((a : Int)).toNat = a from rfl, hxa, if_neg h97])
    have E2 := Lib.hid (show bumpL is at_ me ps = ps.modify a bump by unfold bumpL; rw [if_neg h0, if_neg (by rintro ⟨h, _⟩; omega), if_pos (by omega), ha]; rfl)
    rw [ha] at E1 E2 ⊢
    
    have i1 : (0 : Int) ≤ (a : Int) := by omega
    have i2 : (a : Int) < (me : Int) := by omega
    have i3 : (a : Int) < (ps.length : Int) := by omega
    have i4 : (a : Int) < (t.l.length : Int) := by omega
    have x3 : w.cell? ⟨g, 3, none⟩ = some (.slice (some ⟨pb, 0, none⟩) ps.length ps.length) := HA.out.ask.cell 3
    have pa : w.cell? ⟨pb, a, none⟩ = some (.int .i64 ps[a]) := by
      rw [HA.out.cnt.cell a]
      simp [intV, List.getElem?_eq_getElem hap]
    have fz := HA.out.cnt.frozen a
    have HA1 := Lib.hid (HA.out.bumped hap)
    have HG := Lib.hid (grown_set w pb a (.int .i64 (wrap64 (ps[a] + 1))))
    have HXA := Lib.hid hxa
    clear hx hxa HM1 h0
    go_enter Tryd.func38, Tryd.ntmps38
    go_upto_region 10 with fail
    generalize w.setCell ⟨pb, a, none⟩ (.int .i64 (wrap64 (ps[a] + 1))) = w1 at HA1 HG ⊢
    obtain ⟨ad, rfl, hadb, hcs⟩ := (HT.out.next HA1.out.low).nodes.nodAt HXA.out
    have HCS := Lib.hid hcs
    have HC := Lib.hid (c34 x w1 (HS.out.next HA1.out.low))
    have hps1 : (ps.modify a bump).length = t.l.length := by rw [List.length_modify]; exact HP.out
    have x0 : w1.cell? ⟨g, 0, none⟩ = some (.slice (some ad) t.l.length c) := HA1.out.ask.cell 0
    clear hcs hadb x3 pa fz
    go_upto_region 11 with (first | (refine wpList_load_at rfl 30 (.tmp 46) rfl (ad.add (a * 8)) rfl (nodC x) _ HCS.out Tryd.underlying30 rfl (by kernel_rfl) ?_))
    refine HC.out.mono ?_
    rintro e w2 ⟨rfl, hb2⟩
    have HA2 := Lib.hid (HA1.out.next hb2)
    have HG2 := Lib.hid (HG.out.trans (grown_of_below hb2 _))
    clear hb2 HC HA1 HG x0
    obtain ⟨r, hr⟩ : ∃ r, r = (ofL x).1 := ⟨_, rfl⟩
    rw [← hr] at E1 ⊢
    obtain ⟨u, hu⟩ : ∃ u, u = (ofL x).2 := ⟨_, rfl⟩
    rw [← hu]
    clear hr hu
    rw [show (rowC r).toArray = #[.int .u8 r.is_, .int .u8 r.a, .int .u8 r.b, .int .u8 r.c, .int .i64 r.text, .int .i64 r.second, .int .i64 r.lo, .int .i64 r.hi] from rfl]
    have HA3 := Lib.hid (HA2.out.next (below_new w2 (.cells #[.int .u8 r.is_, .int .u8 r.a, .int .u8 r.b, .int .u8 r.c, .int .i64 r.text, .int .i64 r.second, .int .i64 r.lo, .int .i64 r.hi] 59)))
    have HG3 := Lib.hid (HG2.out.trans (grown_of_below (below_new w2 (.cells #[.int .u8 r.is_, .int .u8 r.a, .int .u8 r.b, .int .u8 r.c, .int .i64 r.text, .int .i64 r.second, .int .i64 r.lo, .int .i64 r.hi] 59)) _))
    go_wp2_with fail
    go_ret
    exact ⟨by rw [E1.out]; rfl, by rw [E2.out]; exact HA3.out, HG3.out⟩
end Go.Proofs.YtphojigdapaaiaaDoor
