/- asker.node. -/
import Derived.Test.YtphojigdapaaiaaDoorAAs
import Derived.Test.YtphojigdapaaiaaDoorACn
namespace Go.Proofs.YtphojigdapaaiaaDoor
open Go.ChangeShapes Go.WideShapes Go.ChangeAt Go.RowKit
set_option linter.unusedVariables false
set_option linter.unusedSimpArgs false
/-- What the package's variables hold. -/
structure Tabs (W : World) : Prop where
  ast : AstTab W
  words : WordsTab W
  op : OpTab W
theorem Tabs.next {w w' : World} (h : Tabs w) (hb : Below w.heap.size w w') : Tabs w' := ⟨h.ast.next hb, h.words.next hb, h.op.next hb⟩
theorem rows_nn : ∀ r ∈ rowsL, 0 ≤ r.a ∧ 0 ≤ r.b ∧ 0 ≤ r.c := by decide
theorem of_row (x : Nod) : (ofL x).1 = zeroR ∨ ∃ r ∈ rowsL, (ofL x).1 = r ∨ (ofL x).1 = { r with c := 116 } := by
  unfold ofL
  split
  case isFalse => exact .inl rfl
  case isTrue h =>
    obtain ⟨r, hr⟩ := rows_at (k := x.k.toNat) (by omega)
    have hd : rowsL.getD x.k.toNat zeroR = r := by rw [List.getD_eq_getElem?_getD, hr]; rfl
    refine .inr ⟨r, List.mem_of_getElem? hr, ?_⟩
    rw [hd]
    split
    · exact .inr rfl
    · exact .inl rfl
theorem of_nn (x : Nod) : 0 ≤ (ofL x).1.a ∧ 0 ≤ (ofL x).1.b ∧ 0 ≤ (ofL x).1.c := by
  rcases of_row x with h | ⟨r, hr, h | h⟩
  · rw [h]; decide
  · rw [h]; exact rows_nn r hr
  · rw [h]; exact ⟨(rows_nn r hr).1, (rows_nn r hr).2.1, by show (0 : Int) ≤ 116; decide⟩
theorem of_host {x : Nod} (h : x.k = 25) : (ofL x).1.lo = 0 ∧ (ofL x).1.hi = 3 := by
  unfold ofL
  rw [if_pos (by omega), h]
  split <;> exact ⟨rfl, rfl⟩
/-- The counts behind k of a node's children. -/
def psK (r : RowA) (x : Nod) (me : Nat) (ps : List Int) : Nat → List Int
  | 0 => ps
  | 1 => bumpL r.a x.a me ps
  | 2 => bumpL r.b x.b me (bumpL r.a x.a me ps)
  | _ => bumpL r.c x.c me (bumpL r.b x.b me (bumpL r.a x.a me ps))
def okK (t : Tre) (r : RowA) (x : Nod) (me : Nat) : Nat → Prop
  | 0 => True
  | 1 => childL t r.a x.a me = true
  | 2 => childL t r.a x.a me = true ∧ childL t r.b x.b me = true
  | _ => childL t r.a x.a me = true ∧ childL t r.b x.b me = true ∧ childL t r.c x.c me = true
theorem bumpL_len (is a : Int) (me : Nat) (ps : List Int) : (bumpL is a me ps).length = ps.length := by
  unfold bumpL
  split
  · rfl
  · split
    · rfl
    · split
      · rw [List.length_modify]
      · rfl
/-- A node's own texts and number are surely such as they may be. -/
structure Sure (x : Nod) (r : RowA) : Prop where
  lo : r.lo ≤ x.n
  hi : x.n ≤ r.hi
  q1 : r.text ≠ 4
  q2 : r.second ≠ 4
  t1 : textL x.t r.text = true
  t2 : textL x.t2 r.second = true
  k1 : x.k ≠ 24
  k2 : x.k ≠ 25
  k3 : x.k = 15 → binL x.n = true
def NodeEnd (W0 : World) (g pb : Nat) (A A' : Option Addr) (c c' : Nat) (t : Tre) (ps : List Int) (x : Nod) (me : Nat) (w : World) (e : Ending) (w' : World) : Prop :=
  ∃ (q : Bool) (ps' : List Int), e = .returned (.bool q) ∧ ps'.length = ps.length ∧ AskIs W0 w' g pb A A' c c' t ps' ∧ w.grownBy w' (some pb) ∧
    (q = true → (ofL x).2 = true ∧ okK t (ofL x).1 x me 3 ∧ ps' = psK (ofL x).1 x me ps 3) ∧ ((ofL x).2 = true → Sure x (ofL x).1 → okK t (ofL x).1 x me 3 → q = true)
theorem NodeEnd.no {W0 : World} {g pb : Nat} {A A' : Option Addr} {c c' : Nat} {t : Tre} {ps : List Int} {x : Nod} {me : Nat} {w w' : World} (ps' : List Int) (h1 : ps'.length = ps.length) (h2 : AskIs W0 w' g pb A A' c c' t ps') (h3 : w.grownBy w' (some pb))
    (h : (ofL x).2 = true → Sure x (ofL x).1 → okK t (ofL x).1 x me 3 → False) : NodeEnd W0 g pb A A' c c' t ps x me w (.returned (.bool false)) w' :=
  ⟨false, ps', rfl, h1, h2, h3, fun h => absurd h (by decide), fun a b c => (h a b c).elim⟩
theorem NodeEnd.yes {W0 : World} {g pb : Nat} {A A' : Option Addr} {c c' : Nat} {t : Tre} {ps : List Int} {x : Nod} {me : Nat} {w w' : World} (h2 : AskIs W0 w' g pb A A' c c' t (psK (ofL x).1 x me ps 3)) (h3 : w.grownBy w' (some pb)) (hu : (ofL x).2 = true) (ho : okK t (ofL x).1 x me 3) :
    NodeEnd W0 g pb A A' c c' t ps x me w (.returned (.bool true)) w' :=
  ⟨true, _, rfl, by simp only [psK, bumpL_len], h2, h3, fun _ => ⟨hu, ho, rfl⟩, fun _ _ _ => rfl⟩
theorem idx82 (a0 a1 b0 b1 c0 c1 : Value) (w : World) :
    (Instr.index 82 (.agg #[a0, a1, b0, b1, c0, c1]) (.int .i64 0)).run Tryd.prog w = .ok (.agg #[a0, a1]) w ∧ (Instr.index 82 (.agg #[a0, a1, b0, b1, c0, c1]) (.int .i64 1)).run Tryd.prog w = .ok (.agg #[b0, b1]) w ∧ (Instr.index 82 (.agg #[a0, a1, b0, b1, c0, c1]) (.int .i64 2)).run Tryd.prog w = .ok (.agg #[c0, c1]) w := by
  have h1 : Tryd.prog.cellsOf 81 = 2 := by kernel_rfl
  have h2 := Tryd.underlying81
  refine ⟨?_, ?_, ?_⟩ <;> simp [Instr.index, run_underlying Tryd.underlying82, asIntOf, go_sem, part, isAgg, h2]
set_option maxRecDepth 100000 in
set_option maxHeartbeats 8000000 in
theorem c23 {W0 : World} {g pb : Nat} {A A' : Option Addr} {c c' : Nat} {t : Tre} {ps : List Int} (me : Nat) (x : Nod) (w : World) (hA : AskIs W0 w g pb A A' c c' t ps) (hT : TreIs W0 A A' t) (hS : Tabs W0) (hx : t.l[me]? = some x)
    (hl : t.l.length ≤ 1000) (hps : ps.length = t.l.length) (ht : x.t.length ≤ 281474976710656) (ht2 : x.t2.length ≤ 281474976710656) :
    Calls Tryd.prog 23 #[ptr g, .int .i64 (me : Int)] w (NodeEnd W0 g pb A A' c c' t ps x me w) := by
  have hme : me < t.l.length := (List.getElem?_eq_some_iff.1 hx).1
  have HA := Lib.hid hA
  have HT := Lib.hid hT
  have HS := Lib.hid hS
  have HM := Lib.hid hme
  have HP := Lib.hid hps
  have HX := Lib.hid hx
  have HLN := Lib.hid (And.intro ht ht2)
  have i1 : (0 : Int) ≤ (me : Int) := by omega
  have i2 : (me : Int) < (t.l.length : Int) := by omega
  obtain ⟨ad, rfl, hadb, hcs⟩ := (HT.out.next HA.out.low).nodes.nodAt hx
  have HCS := Lib.hid hcs
  have x0 : w.cell? ⟨g, 0, none⟩ = some (.slice (some ad) t.l.length c) := HA.out.ask.cell 0
  clear hA hT hS hps hx hcs hadb ht ht2 hme
  have hN := Blk.new w 30 #[.int .i64 x.k, strV x.t, strV x.t2, .int .i64 x.n, .int .i64 x.a, .int .i64 x.b, .int .i64 x.c, .int .i64 x.h]
  have hb1 := below_new w (.cells #[.int .i64 x.k, strV x.t, strV x.t2, .int .i64 x.n, .int .i64 x.a, .int .i64 x.b, .int .i64 x.c, .int .i64 x.h] 30)
  have HA1 := Lib.hid (HA.out.next hb1)
  generalize hw1 : w.alloc (.cells #[.int .i64 x.k, strV x.t, strV x.t2, .int .i64 x.n, .int .i64 x.a, .int .i64 x.b, .int .i64 x.c, .int .i64 x.h] 30) = w1 at hN hb1 HA1
  have HN1 := Lib.hid hN
  have HB1 := Lib.hid hb1
  clear hN hb1
  go_enter Tryd.func23, Tryd.ntmps23
  go_upto_region 2 with (first | (refine wpList_load_at rfl 30 (.tmp 16) rfl (ad.add (me * 8)) rfl [.int .i64 x.k, strV x.t, strV x.t2, .int .i64 x.n, .int .i64 x.a, .int .i64 x.b, .int .i64 x.c, .int .i64 x.h] _ HCS.out Tryd.underlying30 rfl (by kernel_rfl) ?_))
  clear hw1 x0
  generalize w.heap.size = nb at HN1 ⊢
  have n0 : w1.cell? ⟨nb, 0, none⟩ = some (.int .i64 x.k) := HN1.out.cell 0
  have n1 : w1.cell? ⟨nb, 1, none⟩ = some (strV x.t) := HN1.out.cell 1
  have n2 : w1.cell? ⟨nb, 2, none⟩ = some (strV x.t2) := HN1.out.cell 2
  have n3 : w1.cell? ⟨nb, 3, none⟩ = some (.int .i64 x.n) := HN1.out.cell 3
  have n4 : w1.cell? ⟨nb, 4, none⟩ = some (.int .i64 x.a) := HN1.out.cell 4
  have n5 : w1.cell? ⟨nb, 5, none⟩ = some (.int .i64 x.b) := HN1.out.cell 5
  have n6 : w1.cell? ⟨nb, 6, none⟩ = some (.int .i64 x.c) := HN1.out.cell 6
  have n7 : w1.cell? ⟨nb, 7, none⟩ = some (.int .i64 x.h) := HN1.out.cell 7
  have HC := Lib.hid (show Calls Tryd.prog 34 #[.agg #[.int .i64 x.k, strV x.t, strV x.t2, .int .i64 x.n, .int .i64 x.a, .int .i64 x.b, .int .i64 x.c, .int .i64 x.h]] w1 (OfEnd x w1) from c34 x w1 (HS.out.ast.next HA1.out.low))
  go_wp2_with fail
  refine HC.out.mono ?_
  rintro e w2 ⟨rfl, hb2⟩
  have HA2 := Lib.hid (HA1.out.next hb2)
  have HN2 := Lib.hid (HN1.out.next hb2)
  have HB2 := Lib.hid (next_ HB1.out hb2)
  clear n0 n1 n2 n3 n4 n5 n6 n7
  clear hb2 HC HA1 HN1 HB1
  have RNN := Lib.hid (of_nn x)
  have RHO := Lib.hid (fun h : x.k = 25 => of_host h)
  obtain ⟨r, hr⟩ : ∃ r, r = (ofL x).1 := ⟨_, rfl⟩
  obtain ⟨u, hu⟩ : ∃ u, u = (ofL x).2 := ⟨_, rfl⟩
  rw [← hr] at RNN RHO ⊢
  rw [← hu]
  have HR := Lib.hid hr
  have HU := Lib.hid hu
  clear hr hu
  rw [show (rowC r).toArray = #[.int .u8 r.is_, .int .u8 r.a, .int .u8 r.b, .int .u8 r.c, .int .i64 r.text, .int .i64 r.second, .int .i64 r.lo, .int .i64 r.hi] from rfl]
  have hR3 := Blk.new w2 59 #[.int .u8 r.is_, .int .u8 r.a, .int .u8 r.b, .int .u8 r.c, .int .i64 r.text, .int .i64 r.second, .int .i64 r.lo, .int .i64 r.hi]
  have hb3 := below_new w2 (.cells #[.int .u8 r.is_, .int .u8 r.a, .int .u8 r.b, .int .u8 r.c, .int .i64 r.text, .int .i64 r.second, .int .i64 r.lo, .int .i64 r.hi] 59)
  have HA3 := Lib.hid (HA2.out.next hb3)
  have HN3 := Lib.hid (HN2.out.next hb3)
  have HB3 := Lib.hid (next_ HB2.out hb3)
  generalize hw3 : w2.alloc (.cells #[.int .u8 r.is_, .int .u8 r.a, .int .u8 r.b, .int .u8 r.c, .int .i64 r.text, .int .i64 r.second, .int .i64 r.lo, .int .i64 r.hi] 59) = w3 at hR3 hb3 HA3 HN3 HB3
  have HR3 := Lib.hid hR3
  clear hR3 hb3 HA2 HN2 HB2
  go_upto_region 3 with fail
  clear hw3
  generalize w2.heap.size = rb at HR3 ⊢
  cases u with
  | false =>
    go_wp2_with fail
    go_ret
    exact NodeEnd.no ps rfl HA3.out (grown_of_below HB3.out _) (fun h _ _ => by rw [← HU.out] at h; cases h)
  | true =>
  have n1 : w3.cell? ⟨nb, 1, none⟩ = some (strV x.t) := HN3.out.cell 1
  have n3 : w3.cell? ⟨nb, 3, none⟩ = some (.int .i64 x.n) := HN3.out.cell 3
  have r4 : w3.cell? ⟨rb, 4, none⟩ = some (.int .i64 r.text) := HR3.out.cell 4
  have r6 : w3.cell? ⟨rb, 6, none⟩ = some (.int .i64 r.lo) := HR3.out.cell 6
  have r7 : w3.cell? ⟨rb, 7, none⟩ = some (.int .i64 r.hi) := HR3.out.cell 7
  by_cases hlo : x.n < r.lo
  · go_wp2_with fail
    go_ret
    exact NodeEnd.no ps rfl HA3.out (grown_of_below HB3.out _) (fun _ s _ => by rw [← HR.out] at s; have := s.lo; omega)
  by_cases hhi : r.hi < x.n
  · go_wp2_with fail
    go_ret
    exact NodeEnd.no ps rfl HA3.out (grown_of_below HB3.out _) (fun _ s _ => by rw [← HR.out] at s; have := s.hi; omega)
  have HCT := Lib.hid (c35 x.t r.text HLN.out.1 w3 (HS.out.words.next HA3.out.low))
  go_wp2_with fail
  refine HCT.out.mono ?_
  rintro e w4 ⟨q1, rfl, hq1, hb4⟩
  have HQ1 := Lib.hid hq1
  clear hq1 HCT n1 n3 r4 r6 r7
  have HA4 := Lib.hid (HA3.out.next hb4)
  have HN4 := Lib.hid (HN3.out.next hb4)
  have HR4 := Lib.hid (HR3.out.next hb4)
  have HB4 := Lib.hid (next_ HB3.out hb4)
  clear hb4 HA3 HN3 HR3 HB3
  cases q1 with
  | false =>
    go_wp2_with fail
    go_ret
    exact NodeEnd.no ps rfl HA4.out (grown_of_below HB4.out _) (fun _ s _ => by rw [← HR.out] at s; have h9 := HQ1.out s.q1; rw [s.t1] at h9; cases h9)
  | true =>
  have n2 : w4.cell? ⟨nb, 2, none⟩ = some (strV x.t2) := HN4.out.cell 2
  have r5 : w4.cell? ⟨rb, 5, none⟩ = some (.int .i64 r.second) := HR4.out.cell 5
  have HCT := Lib.hid (c35 x.t2 r.second HLN.out.2 w4 (HS.out.words.next HA4.out.low))
  go_wp2_with fail
  refine HCT.out.mono ?_
  rintro e w5 ⟨q2, rfl, hq2, hb5⟩
  have HQ2 := Lib.hid hq2
  clear hq2 HCT n2 r5
  have HA5 := Lib.hid (HA4.out.next hb5)
  have HN5 := Lib.hid (HN4.out.next hb5)
  have HR5 := Lib.hid (HR4.out.next hb5)
  have HB5 := Lib.hid (next_ HB4.out hb5)
  clear hb5 HA4 HN4 HR4 HB4
  cases q2 with
  | false =>
    go_wp2_with fail
    go_ret
    exact NodeEnd.no ps rfl HA5.out (grown_of_below HB5.out _) (fun _ s _ => by rw [← HR.out] at s; have h9 := HQ2.out s.q2; rw [s.t2] at h9; cases h9)
  | true =>
  have HCT := Lib.hid (show Calls Tryd.prog 36 #[.agg #[.int .i64 x.k, strV x.t, strV x.t2, .int .i64 x.n, .int .i64 x.a, .int .i64 x.b, .int .i64 x.c, .int .i64 x.h]] w5 (CountEnd x w5) from c36 x w5 (HS.out.op.next HA5.out.low) (fun h => by have h8 := RHO.out h; omega))
  have n0 : w5.cell? ⟨nb, 0, none⟩ = some (.int .i64 x.k) := HN5.out.cell 0
  have n1 : w5.cell? ⟨nb, 1, none⟩ = some (strV x.t) := HN5.out.cell 1
  have n2 : w5.cell? ⟨nb, 2, none⟩ = some (strV x.t2) := HN5.out.cell 2
  have n3 : w5.cell? ⟨nb, 3, none⟩ = some (.int .i64 x.n) := HN5.out.cell 3
  have n4 : w5.cell? ⟨nb, 4, none⟩ = some (.int .i64 x.a) := HN5.out.cell 4
  have n5 : w5.cell? ⟨nb, 5, none⟩ = some (.int .i64 x.b) := HN5.out.cell 5
  have n6 : w5.cell? ⟨nb, 6, none⟩ = some (.int .i64 x.c) := HN5.out.cell 6
  have n7 : w5.cell? ⟨nb, 7, none⟩ = some (.int .i64 x.h) := HN5.out.cell 7
  go_wp2_with fail
  refine HCT.out.mono ?_
  rintro e w6 ⟨q3, rfl, hq3, hq4, hb6⟩
  have HQ3 := Lib.hid hq3
  have HQ4 := Lib.hid hq4
  clear hq3 hq4 HCT
  clear n0 n1 n2 n3 n4 n5 n6 n7
  have HA6 := Lib.hid (HA5.out.next hb6)
  have HN6 := Lib.hid (HN5.out.next hb6)
  have HR6 := Lib.hid (HR5.out.next hb6)
  have HB6 := Lib.hid (next_ HB5.out hb6)
  clear hb6 HA5 HN5 HR5 HB5
  cases q3 with
  | false =>
    go_wp2_with fail
    go_ret
    exact NodeEnd.no ps rfl HA6.out (grown_of_below HB6.out _) (fun _ s _ => by
      by_cases h9 : x.k = 15
      · have h8 := HQ4.out h9
        rw [s.k3 h9] at h8
        cases h8
      · have h8 := HQ3.out h9 s.k1 s.k2
        cases h8)
  | true =>
  have HCH := Lib.hid (show Calls Tryd.prog 37 #[.agg #[.int .u8 r.is_, .int .u8 r.a, .int .u8 r.b, .int .u8 r.c, .int .i64 r.text, .int .i64 r.second, .int .i64 r.lo, .int .i64 r.hi], .agg #[.int .i64 x.k, strV x.t, strV x.t2, .int .i64 x.n, .int .i64 x.a, .int .i64 x.b, .int .i64 x.c, .int .i64 x.h]] w6 _ from c37 r x w6)
  have n0 : w6.cell? ⟨nb, 0, none⟩ = some (.int .i64 x.k) := HN6.out.cell 0
  have n1 : w6.cell? ⟨nb, 1, none⟩ = some (strV x.t) := HN6.out.cell 1
  have n2 : w6.cell? ⟨nb, 2, none⟩ = some (strV x.t2) := HN6.out.cell 2
  have n3 : w6.cell? ⟨nb, 3, none⟩ = some (.int .i64 x.n) := HN6.out.cell 3
  have n4 : w6.cell? ⟨nb, 4, none⟩ = some (.int .i64 x.a) := HN6.out.cell 4
  have n5 : w6.cell? ⟨nb, 5, none⟩ = some (.int .i64 x.b) := HN6.out.cell 5
  have n6 : w6.cell? ⟨nb, 6, none⟩ = some (.int .i64 x.c) := HN6.out.cell 6
  have n7 : w6.cell? ⟨nb, 7, none⟩ = some (.int .i64 x.h) := HN6.out.cell 7
  have r0 : w6.cell? ⟨rb, 0, none⟩ = some (.int .u8 r.is_) := HR6.out.cell 0
  have r1 : w6.cell? ⟨rb, 1, none⟩ = some (.int .u8 r.a) := HR6.out.cell 1
  have r2 : w6.cell? ⟨rb, 2, none⟩ = some (.int .u8 r.b) := HR6.out.cell 2
  have r3 : w6.cell? ⟨rb, 3, none⟩ = some (.int .u8 r.c) := HR6.out.cell 3
  have r4 : w6.cell? ⟨rb, 4, none⟩ = some (.int .i64 r.text) := HR6.out.cell 4
  have r5 : w6.cell? ⟨rb, 5, none⟩ = some (.int .i64 r.second) := HR6.out.cell 5
  have r6 : w6.cell? ⟨rb, 6, none⟩ = some (.int .i64 r.lo) := HR6.out.cell 6
  have r7 : w6.cell? ⟨rb, 7, none⟩ = some (.int .i64 r.hi) := HR6.out.cell 7
  go_wp2_with fail
  refine HCH.out.mono ?_
  rintro e w7 ⟨rfl, hb7⟩
  rw [show (chC r x).toArray = #[.int .u8 r.a, .int .i64 x.a, .int .u8 r.b, .int .i64 x.b, .int .u8 r.c, .int .i64 x.c] from rfl]
  clear n0 n1 n2 n3 n4 n5 n6 n7
  clear r0 r1 r2 r3 r4 r5 r6 r7
  clear HCH
  have HA7 := Lib.hid (HA6.out.next hb7)
  have HB7 := Lib.hid (grown_of_below (next_ HB6.out hb7) (some pb))
  clear hb7 HA6 HN6 HR6 HB6
  go_wp2_with fail
  have hx0 : ∀ w, (Instr.index 82 (.agg #[.int .u8 r.a, .int .i64 x.a, .int .u8 r.b, .int .i64 x.b, .int .u8 r.c, .int .i64 x.c]) (.int .i64 0)).run Tryd.prog w = .ok (.agg #[.int .u8 r.a, .int .i64 x.a]) w := fun w => (idx82 _ _ _ _ _ _ w).1
  have hx1 : ∀ w, (Instr.index 82 (.agg #[.int .u8 r.a, .int .i64 x.a, .int .u8 r.b, .int .i64 x.b, .int .u8 r.c, .int .i64 x.c]) (.int .i64 1)).run Tryd.prog w = .ok (.agg #[.int .u8 r.b, .int .i64 x.b]) w := fun w => (idx82 _ _ _ _ _ _ w).2.1
  have hx2 : ∀ w, (Instr.index 82 (.agg #[.int .u8 r.a, .int .i64 x.a, .int .u8 r.b, .int .i64 x.b, .int .u8 r.c, .int .i64 x.c]) (.int .i64 2)).run Tryd.prog w = .ok (.agg #[.int .u8 r.c, .int .i64 x.c]) w := fun w => (idx82 _ _ _ _ _ _ w).2.2
  go_loopw [63] (fun i wr => ∃ k : Nat, k ≤ 3 ∧ i = .int .i64 k ∧ okK t r x me k ∧ AskIs W0 wr g pb (some ad) A' c c' t (psK r x me ps k) ∧ w.grownBy wr (some pb)) (fun i _ => 3 - (intOf i).toNat)
  case atStart => exact ⟨0, by omega, rfl, trivial, HA7.out, HB7.out⟩
  case round =>
    obtain ⟨k, hk, rfl, hok, hA, hB⟩ := hrel
    have HOK := Lib.hid hok
    have HA := Lib.hid hA
    have HB := Lib.hid hB
    clear hok hA hB HA7 HB7
    rcases (by omega : k = 0 ∨ k = 1 ∨ k = 2 ∨ k = 3) with rfl | rfl | rfl | rfl
    · have hR8 := Blk.new wr 81 #[.int .u8 r.a, .int .i64 x.a]
      have hb8 := below_new wr (.cells #[.int .u8 r.a, .int .i64 x.a] 81)
      have HA8 := Lib.hid (HA.out.next hb8)
      have HB8 := Lib.hid (HB.out.trans (grown_of_below hb8 (some pb)))
      generalize hw8 : wr.alloc (.cells #[.int .u8 r.a, .int .i64 x.a] 81) = w8 at hR8 hb8 HA8 HB8
      have HR8 := Lib.hid hR8
      clear hR8 hb8
      go_upto_region 8 with fail
      clear hw8
      generalize wr.heap.size = cb at HR8 ⊢
      have y0 : w8.cell? ⟨cb, 0, none⟩ = some (.int .u8 r.a) := HR8.out.cell 0
      have y1 : w8.cell? ⟨cb, 1, none⟩ = some (.int .i64 x.a) := HR8.out.cell 1
      have HCC := Lib.hid (c38 r.a x.a me w8 HA8.out HT.out HS.out.ast (RNN.out.1) HM.out hl (by simp only [psK, bumpL_len]; exact HP.out))
      go_wp2_with fail
      refine HCC.out.mono ?_
      rintro e w9 ⟨rfl, hA9, hG9⟩
      have HA9 := Lib.hid hA9
      have HB9 := Lib.hid (HB8.out.trans hG9)
      clear hA9 hG9 HCC
      cases hcl : childL t r.a x.a me with
      | false =>
        have HCL := Lib.hid hcl
        clear hcl
        go_wp2_with fail
        go_ret
        exact NodeEnd.no _ (by simp only [psK, bumpL_len]) HA9.out HB9.out (fun _ _ h9 => by rw [← HR.out] at h9; have h8 := h9.1; rw [HCL.out] at h8; cases h8)
      | true =>
        have HCL := Lib.hid (show okK t r x me 1 from hcl)
        clear hcl
        go_wp2_with fail
        go_roundw
        case rel => exact ⟨1, by omega, by go_num, HCL.out, HA9.out, HB9.out⟩
        case measure => simp [intOf]
    · have hR8 := Blk.new wr 81 #[.int .u8 r.b, .int .i64 x.b]
      have hb8 := below_new wr (.cells #[.int .u8 r.b, .int .i64 x.b] 81)
      have HA8 := Lib.hid (HA.out.next hb8)
      have HB8 := Lib.hid (HB.out.trans (grown_of_below hb8 (some pb)))
      generalize hw8 : wr.alloc (.cells #[.int .u8 r.b, .int .i64 x.b] 81) = w8 at hR8 hb8 HA8 HB8
      have HR8 := Lib.hid hR8
      clear hR8 hb8
      go_upto_region 8 with fail
      clear hw8
      generalize wr.heap.size = cb at HR8 ⊢
      have y0 : w8.cell? ⟨cb, 0, none⟩ = some (.int .u8 r.b) := HR8.out.cell 0
      have y1 : w8.cell? ⟨cb, 1, none⟩ = some (.int .i64 x.b) := HR8.out.cell 1
      have HCC := Lib.hid (c38 r.b x.b me w8 HA8.out HT.out HS.out.ast (RNN.out.2.1) HM.out hl (by simp only [psK, bumpL_len]; exact HP.out))
      go_wp2_with fail
      refine HCC.out.mono ?_
      rintro e w9 ⟨rfl, hA9, hG9⟩
      have HA9 := Lib.hid hA9
      have HB9 := Lib.hid (HB8.out.trans hG9)
      clear hA9 hG9 HCC
      cases hcl : childL t r.b x.b me with
      | false =>
        have HCL := Lib.hid hcl
        clear hcl
        go_wp2_with fail
        go_ret
        exact NodeEnd.no _ (by simp only [psK, bumpL_len]) HA9.out HB9.out (fun _ _ h9 => by rw [← HR.out] at h9; have h8 := h9.2.1; rw [HCL.out] at h8; cases h8)
      | true =>
        have HCL := Lib.hid (show okK t r x me 2 from ⟨HOK.out, hcl⟩)
        clear hcl
        go_wp2_with fail
        go_roundw
        case rel => exact ⟨2, by omega, by go_num, HCL.out, HA9.out, HB9.out⟩
        case measure => simp [intOf]
    · have hR8 := Blk.new wr 81 #[.int .u8 r.c, .int .i64 x.c]
      have hb8 := below_new wr (.cells #[.int .u8 r.c, .int .i64 x.c] 81)
      have HA8 := Lib.hid (HA.out.next hb8)
      have HB8 := Lib.hid (HB.out.trans (grown_of_below hb8 (some pb)))
      generalize hw8 : wr.alloc (.cells #[.int .u8 r.c, .int .i64 x.c] 81) = w8 at hR8 hb8 HA8 HB8
      have HR8 := Lib.hid hR8
      clear hR8 hb8
      go_upto_region 8 with fail
      clear hw8
      generalize wr.heap.size = cb at HR8 ⊢
      have y0 : w8.cell? ⟨cb, 0, none⟩ = some (.int .u8 r.c) := HR8.out.cell 0
      have y1 : w8.cell? ⟨cb, 1, none⟩ = some (.int .i64 x.c) := HR8.out.cell 1
      have HCC := Lib.hid (c38 r.c x.c me w8 HA8.out HT.out HS.out.ast (RNN.out.2.2) HM.out hl (by simp only [psK, bumpL_len]; exact HP.out))
      go_wp2_with fail
      refine HCC.out.mono ?_
      rintro e w9 ⟨rfl, hA9, hG9⟩
      have HA9 := Lib.hid hA9
      have HB9 := Lib.hid (HB8.out.trans hG9)
      clear hA9 hG9 HCC
      cases hcl : childL t r.c x.c me with
      | false =>
        have HCL := Lib.hid hcl
        clear hcl
        go_wp2_with fail
        go_ret
        exact NodeEnd.no _ (by simp only [psK, bumpL_len]) HA9.out HB9.out (fun _ _ h9 => by rw [← HR.out] at h9; have h8 := h9.2.2; rw [HCL.out] at h8; cases h8)
      | true =>
        have HCL := Lib.hid (show okK t r x me 3 from ⟨HOK.out.1, HOK.out.2, hcl⟩)
        clear hcl
        go_wp2_with fail
        go_roundw
        case rel => exact ⟨3, by omega, by go_num, HCL.out, HA9.out, HB9.out⟩
        case measure => simp [intOf]
    · go_wp2_with fail
      go_ret
      refine NodeEnd.yes ?_ HB.out HU.out.symm ?_
      · rw [← HR.out]; exact HA.out
      · rw [← HR.out]; exact HOK.out
end Go.Proofs.YtphojigdapaaiaaDoor
