/- matcher.same: are two parts of a type one tree. -/
import Derived.Test.YtcilodgpbdafeaaDoorTReg
namespace Go.Proofs.YtcilodgpbdafeaaDoor
open Go.ChangeShapes Go.WideShapes Go.ChangeAt Go.RowKit
set_option linter.unusedVariables false
set_option linter.unusedSimpArgs false
def Ty.num : Ty → Int
  | .var n => n
  | _ => 0
theorem At.top {l : List Part} {U : Ty} {i : Nat} (h : At l U i) : ∃ p, l[i]? = some p ∧ p.k = U.kind ∧ p.t = U.text ∧ p.n = U.num := by
  cases U with
  | leaf k t => exact ⟨_, h, rfl, rfl, rfl⟩
  | var n => exact ⟨_, h, rfl, rfl, rfl⟩
  | one k s => obtain ⟨j, _, h, _⟩ := h; exact ⟨_, h, rfl, rfl, rfl⟩
  | two k s u => obtain ⟨j, g, _, h, _⟩ := h; exact ⟨_, h, rfl, rfl, rfl⟩
/-- Two trees, held against each other by their roots. -/
theorem Ty.same {U V : Ty} (wU : U.wf) (wV : V.wf) (hk : U.kind = V.kind) (ht : U.text = V.text) (hn : U.num = V.num) :
    (U.kind ≠ 7 ∧ U.kind ≠ 9 ∧ U.kind ≠ 6 ∧ U.kind ≠ 8 ∧ U = V) ∨ (∃ k s s', (k = 7 ∨ k = 9) ∧ U = .one k s ∧ V = .one k s') ∨ ∃ k s u s' u', (k = 6 ∨ k = 8) ∧ U = .two k s u ∧ V = .two k s' u' := by
  cases U with
  | leaf k t =>
    cases V with
    | leaf k' t' => simp only [Ty.kind, Ty.text] at hk ht; subst hk ht; simp only [Ty.wf] at wU; exact .inl ⟨by simp only [Ty.kind]; omega, by simp only [Ty.kind]; omega, by simp only [Ty.kind]; omega, by simp only [Ty.kind]; omega, rfl⟩
    | var n => simp only [Ty.wf, Ty.kind] at wU hk; omega
    | one k' s => simp only [Ty.wf, Ty.kind] at wU wV hk; omega
    | two k' s u => simp only [Ty.wf, Ty.kind] at wU wV hk; omega
  | var n =>
    cases V with
    | leaf k' t' => simp only [Ty.wf, Ty.kind] at wV hk; omega
    | var m => simp only [Ty.num] at hn; subst hn; exact .inl ⟨by simp [Ty.kind], by simp [Ty.kind], by simp [Ty.kind], by simp [Ty.kind], rfl⟩
    | one k' s => simp only [Ty.wf, Ty.kind] at wV hk; omega
    | two k' s u => simp only [Ty.wf, Ty.kind] at wV hk; omega
  | one k s =>
    cases V with
    | leaf k' t' => simp only [Ty.wf, Ty.kind] at wU wV hk; omega
    | var m => simp only [Ty.wf, Ty.kind] at wU hk; omega
    | one k' s' => simp only [Ty.kind] at hk; subst hk; exact .inr (.inl ⟨k, s, s', wU.1, rfl, rfl⟩)
    | two k' s' u' => simp only [Ty.wf, Ty.kind] at wU wV hk; omega
  | two k s u =>
    cases V with
    | leaf k' t' => simp only [Ty.wf, Ty.kind] at wU wV hk; omega
    | var m => simp only [Ty.wf, Ty.kind] at wU hk; omega
    | one k' s' => simp only [Ty.wf, Ty.kind] at wU wV hk; omega
    | two k' s' u' => simp only [Ty.kind] at hk; subst hk; exact .inr (.inr ⟨k, s, u, s', u', wU.1, rfl, rfl⟩)
/-- The matcher in memory. -/
structure MatM (W : World) (mb vb : Nat) (A A' : Option Addr) (c c' : Nat) (p t : List Part) : Prop where
  blk : Blk W mb 49 #[.slice A p.length c, .slice A' t.length c', .map (some vb)]
  rp : RT W A p
  rt : RT W A' t
theorem MatM.next {W W' : World} {mb vb : Nat} {A A' : Option Addr} {c c' : Nat} {p t : List Part} (h : MatM W mb vb A A' c c' p t) (hb : Below W.heap.size W W') : MatM W' mb vb A A' c c' p t :=
  ⟨h.blk.next hb, h.rp.next hb, h.rt.next hb⟩
set_option maxRecDepth 100000 in
set_option maxHeartbeats 16000000 in
theorem c40 {p t : List Part} {mb vb c c' : Nat} {A A' : Option Addr} : ∀ (m : Nat) (U V : Ty) (i j : Nat) (W : World), U.size ≤ m → U.wf → V.wf → At t U i → At t V j → MatM W mb vb A A' c c' p t →
    Calls Tryd.prog 40 #[ptr mb, .int .i64 (i : Int), .int .i64 (j : Int)] W fun e W' => e = .returned (.bool (decide (U = V))) ∧ Below W.heap.size W W' := by
  intro m
  induction m with
  | zero => intro U V i j W h; have := U.size_pos; omega
  | succ m ih =>
    intro U V i j W hm wU wV hU hV hM
    obtain ⟨px, hpx, ek, et, en⟩ := hU.top
    obtain ⟨qx, hqx, ek', et', en'⟩ := hV.top
    have hi := hU.lt
    have hj := hV.lt
    obtain ⟨ad, rfl, hadb, hcp⟩ := Reads.partAt hM.rt hpx
    obtain ⟨ad', hade, _, hcq⟩ := Reads.partAt hM.rt hqx
    obtain rfl : ad = ad' := by injection hade
    have IH := Lib.hid ih
    have HM := Lib.hid hM
    have HP := Lib.hid hcp
    have HQ := Lib.hid hcq
    have HAd := Lib.hid hadb
    have HIJ := Lib.hid (show i < t.length ∧ j < t.length from ⟨hi, hj⟩)
    have HU := Lib.hid hU
    have HV := Lib.hid hV
    have WU := Lib.hid wU
    have WV := Lib.hid wV
    have HS := Lib.hid hm
    have HPX := Lib.hid hpx
    have HQX := Lib.hid hqx
    clear ih hM hcp hcq hadb hi hj hU hV hm hpx hqx hade
    obtain ⟨pk, pa, pb, pn, pt⟩ := px
    obtain ⟨qk, qa, qb, qn, qt⟩ := qx
    simp only at ek et en ek' et' en'
    by_cases hk : pk = qk
    · have f1 : (pk != qk) = false := bne_eq_false_iff_eq.2 hk
      by_cases ht : pt = qt
      · have f2 : (pt == qt) = true := beq_iff_eq.2 ht
        by_cases hn : pn = qn
        · have f3 : (pn != qn) = false := bne_eq_false_iff_eq.2 hn
          have hsame := Ty.same wU wV (by rw [← ek, ← ek', hk]) (by rw [← et, ← et', ht]) (by rw [← en, ← en', hn])
          rcases hsame with ⟨k7, k9, k6, k8, hUV⟩ | ⟨k, s, s', hk', rfl, rfl⟩ | ⟨k, s, u, s', u', hk', rfl, rfl⟩
          · have f7 : (pk == 7) = false := beq_false_of_ne (by rw [ek]; exact k7)
            have f9 : (pk == 9) = false := beq_false_of_ne (by rw [ek]; exact k9)
            have f6 : (pk == 6) = false := beq_false_of_ne (by rw [ek]; exact k6)
            have f8 : (pk == 8) = false := beq_false_of_ne (by rw [ek]; exact k8)
            have HNE := Lib.hid hUV
            clear ek et en ek' et' en' hk ht hn k7 k9 k6 k8 hUV wU wV
            go_enter Tryd.func40, Tryd.ntmps40
            go_wp2_with fail
            refine reg40 mb i j t.length t.length c' c' ⟨pk, pa, pb, pn, pt⟩ ⟨qk, qa, qb, qn, qt⟩ ad ad W HIJ.out.1 HIJ.out.2 HM.out.blk.lt (HM.out.blk.cell 1) (HM.out.blk.cell 1) HAd.out HAd.out HP.out HQ.out (fun _ _ d _ _ h => by cases d <;> exact h) ?_
            intro b7 b8 w1 v9 v10 v11 v12 v13 v14 v15 v16 v17 v18 v19 v20 v21 v22 h7 h8 hb1
            have HB1 := Lib.hid hb1
            have x0 : w1.cell? ⟨b7, 0, none⟩ = some (.int .i64 pk) := h7.cell 0
            have x1 : w1.cell? ⟨b7, 1, none⟩ = some (.int .i64 pa) := h7.cell 1
            have x2 : w1.cell? ⟨b7, 2, none⟩ = some (.int .i64 pb) := h7.cell 2
            have x3 : w1.cell? ⟨b7, 3, none⟩ = some (.int .i64 pn) := h7.cell 3
            have x4 : w1.cell? ⟨b7, 4, none⟩ = some (strV pt) := h7.cell 4
            have y0 : w1.cell? ⟨b8, 0, none⟩ = some (.int .i64 qk) := h8.cell 0
            have y1 : w1.cell? ⟨b8, 1, none⟩ = some (.int .i64 qa) := h8.cell 1
            have y2 : w1.cell? ⟨b8, 2, none⟩ = some (.int .i64 qb) := h8.cell 2
            have y3 : w1.cell? ⟨b8, 3, none⟩ = some (.int .i64 qn) := h8.cell 3
            have y4 : w1.cell? ⟨b8, 4, none⟩ = some (strV qt) := h8.cell 4
            clear h7 h8 hb1
            go_wp2_with fail
            go_ret
            exact ⟨by rw [decide_eq_true HNE.out]; rfl, HB1.out⟩
          · obtain ⟨j1, e1, hl1, hs1⟩ := HU.out
            obtain ⟨j2, e2, hl2, hs2⟩ := HV.out
            have ep := Option.some.inj (HPX.out.symm.trans hl1)
            have eq := Option.some.inj (HQX.out.symm.trans hl2)
            injection ep with p1 p2 p3 p4 p5
            injection eq with q1 q2 q3 q4 q5
            subst p1 p2 p3 p4 p5 q1 q2 q3 q4 q5
            have HS1 := Lib.hid hs1
            have HS2 := Lib.hid hs2
            have hks := hk'
            have HDec := Lib.hid (show ∀ k, decide (Ty.one k s = Ty.one k s') = decide (s = s') from fun k => by simp)
            have WS := Lib.hid wU.2
            have WS' := Lib.hid wV.2
            clear ek et en ek' et' en' hk ht hn hk' hs1 hs2 hl1 hl2 e1 e2 HU HV wU wV
            rcases hks with rfl | rfl
            · go_enter Tryd.func40, Tryd.ntmps40
              go_wp2_with fail
              refine reg40 mb i j t.length t.length c' c' ⟨7, (j1 : Int), 0, 0, []⟩ ⟨7, (j2 : Int), 0, 0, []⟩ ad ad W HIJ.out.1 HIJ.out.2 HM.out.blk.lt (HM.out.blk.cell 1) (HM.out.blk.cell 1) HAd.out HAd.out HP.out HQ.out (fun _ _ d _ _ h => by cases d <;> exact h) ?_
              intro b7 b8 w1 v9 v10 v11 v12 v13 v14 v15 v16 v17 v18 v19 v20 v21 v22 h7 h8 hb1
              have HB1 := Lib.hid hb1
              have x0 : w1.cell? ⟨b7, 0, none⟩ = some (.int .i64 7) := h7.cell 0
              have x1 : w1.cell? ⟨b7, 1, none⟩ = some (.int .i64 (j1 : Int)) := h7.cell 1
              have x2 : w1.cell? ⟨b7, 2, none⟩ = some (.int .i64 0) := h7.cell 2
              have x3 : w1.cell? ⟨b7, 3, none⟩ = some (.int .i64 0) := h7.cell 3
              have x4 : w1.cell? ⟨b7, 4, none⟩ = some (strV []) := h7.cell 4
              have y0 : w1.cell? ⟨b8, 0, none⟩ = some (.int .i64 7) := h8.cell 0
              have y1 : w1.cell? ⟨b8, 1, none⟩ = some (.int .i64 (j2 : Int)) := h8.cell 1
              have y2 : w1.cell? ⟨b8, 2, none⟩ = some (.int .i64 0) := h8.cell 2
              have y3 : w1.cell? ⟨b8, 3, none⟩ = some (.int .i64 0) := h8.cell 3
              have y4 : w1.cell? ⟨b8, 4, none⟩ = some (strV []) := h8.cell 4
              clear h7 h8 hb1
              go_wp2_with fail
              refine (IH.out s s' j1 j2 w1 (by have := HS.out; simp only [Ty.size] at this; omega) WS.out WS'.out HS1.out HS2.out (HM.out.next HB1.out)).mono ?_
              rintro e w2 ⟨rfl, hb2⟩
              have HB2 := Lib.hid (next_ HB1.out hb2)
              clear hb2
              go_wp2_with fail
              go_ret
              exact ⟨by rw [HDec.out _]; rfl, HB2.out⟩
            · go_enter Tryd.func40, Tryd.ntmps40
              go_wp2_with fail
              refine reg40 mb i j t.length t.length c' c' ⟨9, (j1 : Int), 0, 0, []⟩ ⟨9, (j2 : Int), 0, 0, []⟩ ad ad W HIJ.out.1 HIJ.out.2 HM.out.blk.lt (HM.out.blk.cell 1) (HM.out.blk.cell 1) HAd.out HAd.out HP.out HQ.out (fun _ _ d _ _ h => by cases d <;> exact h) ?_
              intro b7 b8 w1 v9 v10 v11 v12 v13 v14 v15 v16 v17 v18 v19 v20 v21 v22 h7 h8 hb1
              have HB1 := Lib.hid hb1
              have x0 : w1.cell? ⟨b7, 0, none⟩ = some (.int .i64 9) := h7.cell 0
              have x1 : w1.cell? ⟨b7, 1, none⟩ = some (.int .i64 (j1 : Int)) := h7.cell 1
              have x2 : w1.cell? ⟨b7, 2, none⟩ = some (.int .i64 0) := h7.cell 2
              have x3 : w1.cell? ⟨b7, 3, none⟩ = some (.int .i64 0) := h7.cell 3
              have x4 : w1.cell? ⟨b7, 4, none⟩ = some (strV []) := h7.cell 4
              have y0 : w1.cell? ⟨b8, 0, none⟩ = some (.int .i64 9) := h8.cell 0
              have y1 : w1.cell? ⟨b8, 1, none⟩ = some (.int .i64 (j2 : Int)) := h8.cell 1
              have y2 : w1.cell? ⟨b8, 2, none⟩ = some (.int .i64 0) := h8.cell 2
              have y3 : w1.cell? ⟨b8, 3, none⟩ = some (.int .i64 0) := h8.cell 3
              have y4 : w1.cell? ⟨b8, 4, none⟩ = some (strV []) := h8.cell 4
              clear h7 h8 hb1
              go_wp2_with fail
              refine (IH.out s s' j1 j2 w1 (by have := HS.out; simp only [Ty.size] at this; omega) WS.out WS'.out HS1.out HS2.out (HM.out.next HB1.out)).mono ?_
              rintro e w2 ⟨rfl, hb2⟩
              have HB2 := Lib.hid (next_ HB1.out hb2)
              clear hb2
              go_wp2_with fail
              go_ret
              exact ⟨by rw [HDec.out _]; rfl, HB2.out⟩
          · obtain ⟨j1, g1, e1, hl1, hs1, hu1, _⟩ := HU.out
            obtain ⟨j2, g2, e2, hl2, hs2, hu2, _⟩ := HV.out
            have ep := Option.some.inj (HPX.out.symm.trans hl1)
            have eq := Option.some.inj (HQX.out.symm.trans hl2)
            injection ep with p1 p2 p3 p4 p5
            injection eq with q1 q2 q3 q4 q5
            subst p1 p2 p3 p4 p5 q1 q2 q3 q4 q5
            have HS1 := Lib.hid hs1
            have HS2 := Lib.hid hs2
            have HS3 := Lib.hid hu1
            have HS4 := Lib.hid hu2
            have hks := hk'
            have HDec := Lib.hid (show ∀ k, decide (Ty.two k s u = Ty.two k s' u') = (decide (s = s') && decide (u = u')) from fun k => by simp)
            have WS := Lib.hid wU.2
            have WS' := Lib.hid wV.2
            clear ek et en ek' et' en' hk ht hn hk' hs1 hs2 hu1 hu2 hl1 hl2 e1 e2 HU HV wU wV
            rcases hks with rfl | rfl
            · go_enter Tryd.func40, Tryd.ntmps40
              go_wp2_with fail
              refine reg40 mb i j t.length t.length c' c' ⟨6, (g1 : Int), (j1 : Int), 0, []⟩ ⟨6, (g2 : Int), (j2 : Int), 0, []⟩ ad ad W HIJ.out.1 HIJ.out.2 HM.out.blk.lt (HM.out.blk.cell 1) (HM.out.blk.cell 1) HAd.out HAd.out HP.out HQ.out (fun _ _ d _ _ h => by cases d <;> exact h) ?_
              intro b7 b8 w1 v9 v10 v11 v12 v13 v14 v15 v16 v17 v18 v19 v20 v21 v22 h7 h8 hb1
              have HB1 := Lib.hid hb1
              have x0 : w1.cell? ⟨b7, 0, none⟩ = some (.int .i64 6) := h7.cell 0
              have x1 : w1.cell? ⟨b7, 1, none⟩ = some (.int .i64 (g1 : Int)) := h7.cell 1
              have x2 : w1.cell? ⟨b7, 2, none⟩ = some (.int .i64 (j1 : Int)) := h7.cell 2
              have x3 : w1.cell? ⟨b7, 3, none⟩ = some (.int .i64 0) := h7.cell 3
              have x4 : w1.cell? ⟨b7, 4, none⟩ = some (strV []) := h7.cell 4
              have y0 : w1.cell? ⟨b8, 0, none⟩ = some (.int .i64 6) := h8.cell 0
              have y1 : w1.cell? ⟨b8, 1, none⟩ = some (.int .i64 (g2 : Int)) := h8.cell 1
              have y2 : w1.cell? ⟨b8, 2, none⟩ = some (.int .i64 (j2 : Int)) := h8.cell 2
              have y3 : w1.cell? ⟨b8, 3, none⟩ = some (.int .i64 0) := h8.cell 3
              have y4 : w1.cell? ⟨b8, 4, none⟩ = some (strV []) := h8.cell 4
              have H7 := Lib.hid h7
              have H8 := Lib.hid h8
              clear h7 h8 hb1
              go_wp2_with fail
              refine (IH.out s s' g1 g2 w1 (by have := HS.out; have := u.size_pos; simp only [Ty.size] at *; omega) WS.out.1 WS'.out.1 HS1.out HS2.out (HM.out.next HB1.out)).mono ?_
              rintro e w2 ⟨rfl, hb2⟩
              have HB2 := Lib.hid (next_ HB1.out hb2)
              have z7 : w2.cell? ⟨b7, 2, none⟩ = some (.int .i64 (j1 : Int)) := (H7.out.next hb2).cell 2
              have z8 : w2.cell? ⟨b8, 2, none⟩ = some (.int .i64 (j2 : Int)) := (H8.out.next hb2).cell 2
              clear hb2
              by_cases hss : s = s'
              · have HSS := Lib.hid hss
                rw [decide_eq_true hss]
                clear hss
                go_wp2_with fail
                refine (IH.out u u' j1 j2 w2 (by have := HS.out; have := s.size_pos; simp only [Ty.size] at *; omega) WS.out.2 WS'.out.2 HS3.out HS4.out (HM.out.next HB2.out)).mono ?_
                rintro e w3 ⟨rfl, hb3⟩
                have HB3 := Lib.hid (next_ HB2.out hb3)
                clear hb3
                go_wp2_with fail
                go_ret
                exact ⟨by rw [HDec.out _, decide_eq_true HSS.out]; rfl, HB3.out⟩
              · have HSS := Lib.hid hss
                rw [decide_eq_false hss]
                clear hss
                go_wp2_with fail
                go_ret
                exact ⟨by rw [HDec.out _, decide_eq_false HSS.out]; rfl, HB2.out⟩
            · go_enter Tryd.func40, Tryd.ntmps40
              go_wp2_with fail
              refine reg40 mb i j t.length t.length c' c' ⟨8, (g1 : Int), (j1 : Int), 0, []⟩ ⟨8, (g2 : Int), (j2 : Int), 0, []⟩ ad ad W HIJ.out.1 HIJ.out.2 HM.out.blk.lt (HM.out.blk.cell 1) (HM.out.blk.cell 1) HAd.out HAd.out HP.out HQ.out (fun _ _ d _ _ h => by cases d <;> exact h) ?_
              intro b7 b8 w1 v9 v10 v11 v12 v13 v14 v15 v16 v17 v18 v19 v20 v21 v22 h7 h8 hb1
              have HB1 := Lib.hid hb1
              have x0 : w1.cell? ⟨b7, 0, none⟩ = some (.int .i64 8) := h7.cell 0
              have x1 : w1.cell? ⟨b7, 1, none⟩ = some (.int .i64 (g1 : Int)) := h7.cell 1
              have x2 : w1.cell? ⟨b7, 2, none⟩ = some (.int .i64 (j1 : Int)) := h7.cell 2
              have x3 : w1.cell? ⟨b7, 3, none⟩ = some (.int .i64 0) := h7.cell 3
              have x4 : w1.cell? ⟨b7, 4, none⟩ = some (strV []) := h7.cell 4
              have y0 : w1.cell? ⟨b8, 0, none⟩ = some (.int .i64 8) := h8.cell 0
              have y1 : w1.cell? ⟨b8, 1, none⟩ = some (.int .i64 (g2 : Int)) := h8.cell 1
              have y2 : w1.cell? ⟨b8, 2, none⟩ = some (.int .i64 (j2 : Int)) := h8.cell 2
              have y3 : w1.cell? ⟨b8, 3, none⟩ = some (.int .i64 0) := h8.cell 3
              have y4 : w1.cell? ⟨b8, 4, none⟩ = some (strV []) := h8.cell 4
              have H7 := Lib.hid h7
              have H8 := Lib.hid h8
              clear h7 h8 hb1
              go_wp2_with fail
              refine (IH.out s s' g1 g2 w1 (by have := HS.out; have := u.size_pos; simp only [Ty.size] at *; omega) WS.out.1 WS'.out.1 HS1.out HS2.out (HM.out.next HB1.out)).mono ?_
              rintro e w2 ⟨rfl, hb2⟩
              have HB2 := Lib.hid (next_ HB1.out hb2)
              have z7 : w2.cell? ⟨b7, 2, none⟩ = some (.int .i64 (j1 : Int)) := (H7.out.next hb2).cell 2
              have z8 : w2.cell? ⟨b8, 2, none⟩ = some (.int .i64 (j2 : Int)) := (H8.out.next hb2).cell 2
              clear hb2
              by_cases hss : s = s'
              · have HSS := Lib.hid hss
                rw [decide_eq_true hss]
                clear hss
                go_wp2_with fail
                refine (IH.out u u' j1 j2 w2 (by have := HS.out; have := s.size_pos; simp only [Ty.size] at *; omega) WS.out.2 WS'.out.2 HS3.out HS4.out (HM.out.next HB2.out)).mono ?_
                rintro e w3 ⟨rfl, hb3⟩
                have HB3 := Lib.hid (next_ HB2.out hb3)
                clear hb3
                go_wp2_with fail
                go_ret
                exact ⟨by rw [HDec.out _, decide_eq_true HSS.out]; rfl, HB3.out⟩
              · have HSS := Lib.hid hss
                rw [decide_eq_false hss]
                clear hss
                go_wp2_with fail
                go_ret
                exact ⟨by rw [HDec.out _, decide_eq_false HSS.out]; rfl, HB2.out⟩
        · have f3 : (pn != qn) = true := bne_iff_ne.2 hn
          have HNE := Lib.hid (show U ≠ V from fun e => hn (by rw [en, en', e]))
          clear ek et en ek' et' en' hk ht hn wU wV
          go_enter Tryd.func40, Tryd.ntmps40
          go_wp2_with fail
          refine reg40 mb i j t.length t.length c' c' ⟨pk, pa, pb, pn, pt⟩ ⟨qk, qa, qb, qn, qt⟩ ad ad W HIJ.out.1 HIJ.out.2 HM.out.blk.lt (HM.out.blk.cell 1) (HM.out.blk.cell 1) HAd.out HAd.out HP.out HQ.out (fun _ _ d _ _ h => by cases d <;> exact h) ?_
          intro b7 b8 w1 v9 v10 v11 v12 v13 v14 v15 v16 v17 v18 v19 v20 v21 v22 h7 h8 hb1
          have HB1 := Lib.hid hb1
          have x0 : w1.cell? ⟨b7, 0, none⟩ = some (.int .i64 pk) := h7.cell 0
          have x1 : w1.cell? ⟨b7, 1, none⟩ = some (.int .i64 pa) := h7.cell 1
          have x2 : w1.cell? ⟨b7, 2, none⟩ = some (.int .i64 pb) := h7.cell 2
          have x3 : w1.cell? ⟨b7, 3, none⟩ = some (.int .i64 pn) := h7.cell 3
          have x4 : w1.cell? ⟨b7, 4, none⟩ = some (strV pt) := h7.cell 4
          have y0 : w1.cell? ⟨b8, 0, none⟩ = some (.int .i64 qk) := h8.cell 0
          have y1 : w1.cell? ⟨b8, 1, none⟩ = some (.int .i64 qa) := h8.cell 1
          have y2 : w1.cell? ⟨b8, 2, none⟩ = some (.int .i64 qb) := h8.cell 2
          have y3 : w1.cell? ⟨b8, 3, none⟩ = some (.int .i64 qn) := h8.cell 3
          have y4 : w1.cell? ⟨b8, 4, none⟩ = some (strV qt) := h8.cell 4
          clear h7 h8 hb1
          go_wp2_with fail
          go_ret
          exact ⟨by rw [decide_eq_false HNE.out]; rfl, HB1.out⟩
      · have f2 : (pt == qt) = false := beq_false_of_ne ht
        have HNE := Lib.hid (show U ≠ V from fun e => ht (by rw [et, et', e]))
        clear ek et en ek' et' en' hk ht wU wV
        go_enter Tryd.func40, Tryd.ntmps40
        go_wp2_with fail
        refine reg40 mb i j t.length t.length c' c' ⟨pk, pa, pb, pn, pt⟩ ⟨qk, qa, qb, qn, qt⟩ ad ad W HIJ.out.1 HIJ.out.2 HM.out.blk.lt (HM.out.blk.cell 1) (HM.out.blk.cell 1) HAd.out HAd.out HP.out HQ.out (fun _ _ d _ _ h => by cases d <;> exact h) ?_
        intro b7 b8 w1 v9 v10 v11 v12 v13 v14 v15 v16 v17 v18 v19 v20 v21 v22 h7 h8 hb1
        have HB1 := Lib.hid hb1
        have x0 : w1.cell? ⟨b7, 0, none⟩ = some (.int .i64 pk) := h7.cell 0
        have x1 : w1.cell? ⟨b7, 1, none⟩ = some (.int .i64 pa) := h7.cell 1
        have x2 : w1.cell? ⟨b7, 2, none⟩ = some (.int .i64 pb) := h7.cell 2
        have x3 : w1.cell? ⟨b7, 3, none⟩ = some (.int .i64 pn) := h7.cell 3
        have x4 : w1.cell? ⟨b7, 4, none⟩ = some (strV pt) := h7.cell 4
        have y0 : w1.cell? ⟨b8, 0, none⟩ = some (.int .i64 qk) := h8.cell 0
        have y1 : w1.cell? ⟨b8, 1, none⟩ = some (.int .i64 qa) := h8.cell 1
        have y2 : w1.cell? ⟨b8, 2, none⟩ = some (.int .i64 qb) := h8.cell 2
        have y3 : w1.cell? ⟨b8, 3, none⟩ = some (.int .i64 qn) := h8.cell 3
        have y4 : w1.cell? ⟨b8, 4, none⟩ = some (strV qt) := h8.cell 4
        clear h7 h8 hb1
        go_wp2_with fail
        go_ret
        exact ⟨by rw [decide_eq_false HNE.out]; rfl, HB1.out⟩
    · have f1 : (pk != qk) = true := bne_iff_ne.2 hk
      have HNE := Lib.hid (show U ≠ V from fun e => hk (by rw [ek, ek', e]))
      clear ek et en ek' et' en' hk wU wV
      go_enter Tryd.func40, Tryd.ntmps40
      go_wp2_with fail
      refine reg40 mb i j t.length t.length c' c' ⟨pk, pa, pb, pn, pt⟩ ⟨qk, qa, qb, qn, qt⟩ ad ad W HIJ.out.1 HIJ.out.2 HM.out.blk.lt (HM.out.blk.cell 1) (HM.out.blk.cell 1) HAd.out HAd.out HP.out HQ.out (fun _ _ d _ _ h => by cases d <;> exact h) ?_
      intro b7 b8 w1 v9 v10 v11 v12 v13 v14 v15 v16 v17 v18 v19 v20 v21 v22 h7 h8 hb1
      have HB1 := Lib.hid hb1
      have x0 : w1.cell? ⟨b7, 0, none⟩ = some (.int .i64 pk) := h7.cell 0
      have x1 : w1.cell? ⟨b7, 1, none⟩ = some (.int .i64 pa) := h7.cell 1
      have x2 : w1.cell? ⟨b7, 2, none⟩ = some (.int .i64 pb) := h7.cell 2
      have x3 : w1.cell? ⟨b7, 3, none⟩ = some (.int .i64 pn) := h7.cell 3
      have x4 : w1.cell? ⟨b7, 4, none⟩ = some (strV pt) := h7.cell 4
      have y0 : w1.cell? ⟨b8, 0, none⟩ = some (.int .i64 qk) := h8.cell 0
      have y1 : w1.cell? ⟨b8, 1, none⟩ = some (.int .i64 qa) := h8.cell 1
      have y2 : w1.cell? ⟨b8, 2, none⟩ = some (.int .i64 qb) := h8.cell 2
      have y3 : w1.cell? ⟨b8, 3, none⟩ = some (.int .i64 qn) := h8.cell 3
      have y4 : w1.cell? ⟨b8, 4, none⟩ = some (strV qt) := h8.cell 4
      clear h7 h8 hb1
      go_wp2_with fail
      go_ret
      exact ⟨by rw [decide_eq_false HNE.out]; rfl, HB1.out⟩
end Go.Proofs.YtcilodgpbdafeaaDoor
