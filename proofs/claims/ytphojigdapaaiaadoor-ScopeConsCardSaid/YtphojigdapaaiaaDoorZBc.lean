/- asker.node, exactly. -/
import Derived.Test.YtphojigdapaaiaaDoorZBb
import Derived.Laws.MakeOwn
import Derived.Test.YtphojigdapaaiaaDoorZBa
import Derived.Laws.ResultCell
import Derived.Test.YtphojigdapaaiaaDoorSHp
namespace Go.Proofs.YtphojigdapaaiaaDoor
open Go.ChangeShapes Go.WideShapes Go.ChangeAt Go.RowKit
set_option linter.unusedVariables false
set_option linter.unusedSimpArgs false
structure TabsX (tab : Nat → OpRow) (W : World) : Prop where
  ast : AstTab W
  words : WordsTab W
  op : OpIs tab W
theorem TabsX.next {tab : Nat → OpRow} {w w' : World} (h : TabsX tab w) (hb : Below w.heap.size w w') : TabsX tab w' := ⟨h.ast.next hb, h.words.next hb, h.op.next hb⟩
theorem Tabs.rows {w : World} (h : Tabs w) : ∃ tab, TabsX tab w := by
  obtain ⟨tab, ht⟩ := h.op.rows
  exact ⟨tab, h.ast, h.words, ht⟩
structure SureX (tab : Nat → OpRow) (x : Nod) (r : RowA) : Prop where
  lo : r.lo ≤ x.n
  hi : x.n ≤ r.hi
  t1 : textQ x.t r.text = true
  t2 : textQ x.t2 r.second = true
  ct : countL tab x = true
def NodeX (tab : Nat → OpRow) (W0 : World) (g pb : Nat) (A A' : Option Addr) (c c' : Nat) (t : Tre) (ps : List Int) (x : Nod) (me : Nat) (w : World) (e : Ending) (w' : World) : Prop :=
  ∃ (q : Bool) (ps' : List Int), e = .returned (.bool q) ∧ ps'.length = ps.length ∧ AskIs W0 w' g pb A A' c c' t ps' ∧ w.grownBy w' (some pb) ∧
    (q = true → (ofL x).2 = true ∧ okK t (ofL x).1 x me 3 ∧ ps' = psK (ofL x).1 x me ps 3 ∧ SureX tab x (ofL x).1) ∧ ((ofL x).2 = true → SureX tab x (ofL x).1 → okK t (ofL x).1 x me 3 → q = true)
theorem NodeX.no {tab : Nat → OpRow} {W0 : World} {g pb : Nat} {A A' : Option Addr} {c c' : Nat} {t : Tre} {ps : List Int} {x : Nod} {me : Nat} {w w' : World} (ps' : List Int) (h1 : ps'.length = ps.length) (h2 : AskIs W0 w' g pb A A' c c' t ps') (h3 : w.grownBy w' (some pb))
    (h : (ofL x).2 = true → SureX tab x (ofL x).1 → okK t (ofL x).1 x me 3 → False) : NodeX tab W0 g pb A A' c c' t ps x me w (.returned (.bool false)) w' :=
  ⟨false, ps', rfl, h1, h2, h3, fun h => absurd h (by decide), fun a b c => (h a b c).elim⟩
theorem NodeX.yes {tab : Nat → OpRow} {W0 : World} {g pb : Nat} {A A' : Option Addr} {c c' : Nat} {t : Tre} {ps : List Int} {x : Nod} {me : Nat} {w w' : World} (h2 : AskIs W0 w' g pb A A' c c' t (psK (ofL x).1 x me ps 3)) (h3 : w.grownBy w' (some pb)) (hu : (ofL x).2 = true) (ho : okK t (ofL x).1 x me 3) (hs : SureX tab x (ofL x).1) :
    NodeX tab W0 g pb A A' c c' t ps x me w (.returned (.bool true)) w' :=
  ⟨true, _, rfl, by simp only [psK, bumpL_len], h2, h3, fun _ => ⟨hu, ho, rfl, hs⟩, fun _ _ _ => rfl⟩
set_option maxRecDepth 100000 in
set_option maxHeartbeats 8000000 in
theorem x23 {tab : Nat → OpRow} {W0 : World} {g pb : Nat} {A A' : Option Addr} {c c' : Nat} {t : Tre} {ps : List Int} (me : Nat) (x : Nod) (w : World) (hA : AskIs W0 w g pb A A' c c' t ps) (hT : TreIs W0 A A' t) (hS : TabsX tab W0) (hx : t.l[me]? = some x)
    (hl : t.l.length ≤ 1000) (hps : ps.length = t.l.length) (ht : x.t.length ≤ 281474976710656) (ht2 : x.t2.length ≤ 281474976710656) :
    Calls Tryd.prog 23 #[ptr g, .int .i64 (me : Int)] w (NodeX tab W0 g pb A A' c c' t ps x me w) := by
  have hme : me < t.l.length := (List.getElem?_eq_some_iff.1 hx).1
  have HA := Lib.hid hA
  have HT := Lib.hid hT
  have HS := Lib.hid hS
  have HM := Lib.hid hme
  have HP := Lib.hid hps
  have HX := Lib.hid hx
  have HLN := Lib.hid (And.intro ht ht2)
  have i1 : (0 : Int) ≤ (me : Int) := by omega
  have i2 : (me : Int) < (t.l.length : Int) := by omega
  obtain ⟨ad, rfl, hadb, hcs⟩ := (HT.out.next HA.out.low).nodes.nodAt hx
  have HCS := Lib.hid hcs
  have x0 : w.cell? ⟨g, 0, none⟩ = some (.slice (some ad) t.l.length c) := HA.out.ask.cell 0
  clear hA hT hS hps hx hcs hadb ht ht2 hme
  have hN := Blk.new w 30 #[.int .i64 x.k, strV x.t, strV x.t2, .int .i64 x.n, .int .i64 x.a, .int .i64 x.b, .int .i64 x.c, .int .i64 x.h]
  have hb1 := below_new w (.cells #[.int .i64 x.k, strV x.t, strV x.t2, .int .i64 x.n, .int .i64 x.a, .int .i64 x.b, .int .i64 x.c, .int .i64 x.h] 30)
  have HA1 := Lib.hid (HA.out.next hb1)
  generalize hw1 : w.alloc (.cells #[.int .i64 x.k, strV x.t, strV x.t2, .int .i64 x.n, .int .i64 x.a, .int .i64 x.b, .int .i64 x.c, .int .i64 x.h] 30) = w1 at hN hb1 HA1
  have HN1 := Lib.hid hN
  have HB1 := Lib.hid hb1
  clear hN hb1
  go_enter Tryd.func23, Tryd.ntmps23
  go_upto_region 2 with (first | (refine wpList_load_at rfl 30 (.tmp 16) rfl (ad.add (me * 8)) rfl [.int .i64 x.k, strV x.t, strV x.t2, .int .i64 x.n, .int .i64 x.a, .int .i64 x.b, .int .i64 x.c, .int .i64 x.h] _ HCS.out Tryd.underlying30 rfl (by kernel_rfl) ?_))
  clear hw1 x0
  generalize w.heap.size = nb at HN1 ⊢
  have n0 : w1.cell? ⟨nb, 0, none⟩ = some (.int .i64 x.k) := HN1.out.cell 0
  have n1 : w1.cell? ⟨nb, 1, none⟩ = some (strV x.t) := HN1.out.cell 1
  have n2 : w1.cell? ⟨nb, 2, none⟩ = some (strV x.t2) := HN1.out.cell 2
  have n3 : w1.cell? ⟨nb, 3, none⟩ = some (.int .i64 x.n) := HN1.out.cell 3
  have n4 : w1.cell? ⟨nb, 4, none⟩ = some (.int .i64 x.a) := HN1.out.cell 4
  have n5 : w1.cell? ⟨nb, 5, none⟩ = some (.int .i64 x.b) := HN1.out.cell 5
  have n6 : w1.cell? ⟨nb, 6, none⟩ = some (.int .i64 x.c) := HN1.out.cell 6
  have n7 : w1.cell? ⟨nb, 7, none⟩ = some (.int .i64 x.h) := HN1.out.cell 7
  have HC := Lib.hid (show Calls Tryd.prog 34 #[.agg #[.int .i64 x.k, strV x.t, strV x.t2, .int .i64 x.n, .int .i64 x.a, .int .i64 x.b, .int .i64 x.c, .int .i64 x.h]] w1 (OfEnd x w1) from c34 x w1 (HS.out.ast.next HA1.out.low))
  go_wp2_with fail
  refine HC.out.mono ?_
  rintro e w2 ⟨rfl, hb2⟩
  have HA2 := Lib.hid (HA1.out.next hb2)
  have HN2 := Lib.hid (HN1.out.next hb2)
  have HB2 := Lib.hid (next_ HB1.out hb2)
  clear n0 n1 n2 n3 n4 n5 n6 n7
  clear hb2 HC HA1 HN1 HB1
  have RNN := Lib.hid (of_nn x)
  have RHO := Lib.hid (fun h : x.k = 25 => of_host h)
  obtain ⟨r, hr⟩ : ∃ r, r = (ofL x).1 := ⟨_, rfl⟩
  obtain ⟨u, hu⟩ : ∃ u, u = (ofL x).2 := ⟨_, rfl⟩
  rw [← hr] at RNN RHO ⊢
  rw [← hu]
  have HR := Lib.hid hr
  have HU := Lib.hid hu
  clear hr hu
  rw [show (rowC r).toArray = #[.int .u8 r.is_, .int .u8 r.a, .int .u8 r.b, .int .u8 r.c, .int .i64 r.text, .int .i64 r.second, .int .i64 r.lo, .int .i64 r.hi] from rfl]
  have hR3 := Blk.new w2 59 #[.int .u8 r.is_, .int .u8 r.a, .int .u8 r.b, .int .u8 r.c, .int .i64 r.text, .int .i64 r.second, .int .i64 r.lo, .int .i64 r.hi]
  have hb3 := below_new w2 (.cells #[.int .u8 r.is_, .int .u8 r.a, .int .u8 r.b, .int .u8 r.c, .int .i64 r.text, .int .i64 r.second, .int .i64 r.lo, .int .i64 r.hi] 59)
  have HA3 := Lib.hid (HA2.out.next hb3)
  have HN3 := Lib.hid (HN2.out.next hb3)
  have HB3 := Lib.hid (next_ HB2.out hb3)
  generalize hw3 : w2.alloc (.cells #[.int .u8 r.is_, .int .u8 r.a, .int .u8 r.b, .int .u8 r.c, .int .i64 r.text, .int .i64 r.second, .int .i64 r.lo, .int .i64 r.hi] 59) = w3 at hR3 hb3 HA3 HN3 HB3
  have HR3 := Lib.hid hR3
  clear hR3 hb3 HA2 HN2 HB2
  go_upto_region 3 with fail
  clear hw3
  generalize w2.heap.size = rb at HR3 ⊢
  cases u with
  | false =>
    go_wp2_with fail
    go_ret
    exact NodeX.no ps rfl HA3.out (grown_of_below HB3.out _) (fun h _ _ => by rw [← HU.out] at h; cases h)
  | true =>
  have n1 : w3.cell? ⟨nb, 1, none⟩ = some (strV x.t) := HN3.out.cell 1
  have n3 : w3.cell? ⟨nb, 3, none⟩ = some (.int .i64 x.n) := HN3.out.cell 3
  have r4 : w3.cell? ⟨rb, 4, none⟩ = some (.int .i64 r.text) := HR3.out.cell 4
  have r6 : w3.cell? ⟨rb, 6, none⟩ = some (.int .i64 r.lo) := HR3.out.cell 6
  have r7 : w3.cell? ⟨rb, 7, none⟩ = some (.int .i64 r.hi) := HR3.out.cell 7
  by_cases hlo : x.n < r.lo
  · go_wp2_with fail
    go_ret
    exact NodeX.no ps rfl HA3.out (grown_of_below HB3.out _) (fun _ s _ => by rw [← HR.out] at s; have := s.lo; omega)
  by_cases hhi : r.hi < x.n
  · go_wp2_with fail
    go_ret
    exact NodeX.no ps rfl HA3.out (grown_of_below HB3.out _) (fun _ s _ => by rw [← HR.out] at s; have := s.hi; omega)
  have HCT := Lib.hid (x35 x.t r.text HLN.out.1 w3 (HS.out.words.next HA3.out.low))
  go_wp2_with fail
  refine HCT.out.mono ?_
  rintro e w4 ⟨rfl, hb4⟩
  clear HCT n1 n3 r4 r6 r7
  have HA4 := Lib.hid (HA3.out.next hb4)
  have HN4 := Lib.hid (HN3.out.next hb4)
  have HR4 := Lib.hid (HR3.out.next hb4)
  have HB4 := Lib.hid (next_ HB3.out hb4)
  clear hb4 HA3 HN3 HR3 HB3
  cases hq : textQ x.t r.text with
  | false =>
    have HQ := Lib.hid hq
    clear hq
    go_wp2_with fail
    go_ret
    exact NodeX.no ps rfl HA4.out (grown_of_below HB4.out _) (fun _ s _ => by rw [← HR.out] at s; have h9 := s.t1; rw [HQ.out] at h9; cases h9)
  | true =>
  have HQ1 := Lib.hid hq
  clear hq
  have n2 : w4.cell? ⟨nb, 2, none⟩ = some (strV x.t2) := HN4.out.cell 2
  have r5 : w4.cell? ⟨rb, 5, none⟩ = some (.int .i64 r.second) := HR4.out.cell 5
  have HCT := Lib.hid (x35 x.t2 r.second HLN.out.2 w4 (HS.out.words.next HA4.out.low))
  go_wp2_with fail
  refine HCT.out.mono ?_
  rintro e w5 ⟨rfl, hb5⟩
  clear HCT n2 r5
  have HA5 := Lib.hid (HA4.out.next hb5)
  have HN5 := Lib.hid (HN4.out.next hb5)
  have HR5 := Lib.hid (HR4.out.next hb5)
  have HB5 := Lib.hid (next_ HB4.out hb5)
  clear hb5 HA4 HN4 HR4 HB4
  cases hq : textQ x.t2 r.second with
  | false =>
    have HQ := Lib.hid hq
    clear hq
    go_wp2_with fail
    go_ret
    exact NodeX.no ps rfl HA5.out (grown_of_below HB5.out _) (fun _ s _ => by rw [← HR.out] at s; have h9 := s.t2; rw [HQ.out] at h9; cases h9)
  | true =>
  have HQ2 := Lib.hid hq
  clear hq
  have HCT := Lib.hid (show Calls Tryd.prog 36 #[.agg #[.int .i64 x.k, strV x.t, strV x.t2, .int .i64 x.n, .int .i64 x.a, .int .i64 x.b, .int .i64 x.c, .int .i64 x.h]] w5 (CountX tab x w5) from x36 x w5 (HS.out.op.next HA5.out.low) (fun h => by have h8 := RHO.out h; omega))
  have n0 : w5.cell? ⟨nb, 0, none⟩ = some (.int .i64 x.k) := HN5.out.cell 0
  have n1 : w5.cell? ⟨nb, 1, none⟩ = some (strV x.t) := HN5.out.cell 1
  have n2 : w5.cell? ⟨nb, 2, none⟩ = some (strV x.t2) := HN5.out.cell 2
  have n3 : w5.cell? ⟨nb, 3, none⟩ = some (.int .i64 x.n) := HN5.out.cell 3
  have n4 : w5.cell? ⟨nb, 4, none⟩ = some (.int .i64 x.a) := HN5.out.cell 4
  have n5 : w5.cell? ⟨nb, 5, none⟩ = some (.int .i64 x.b) := HN5.out.cell 5
  have n6 : w5.cell? ⟨nb, 6, none⟩ = some (.int .i64 x.c) := HN5.out.cell 6
  have n7 : w5.cell? ⟨nb, 7, none⟩ = some (.int .i64 x.h) := HN5.out.cell 7
  go_wp2_with fail
  refine HCT.out.mono ?_
  rintro e w6 ⟨rfl, hb6⟩
  clear HCT
  clear n0 n1 n2 n3 n4 n5 n6 n7
  have HA6 := Lib.hid (HA5.out.next hb6)
  have HN6 := Lib.hid (HN5.out.next hb6)
  have HR6 := Lib.hid (HR5.out.next hb6)
  have HB6 := Lib.hid (next_ HB5.out hb6)
  clear hb6 HA5 HN5 HR5 HB5
  cases hq : countL tab x with
  | false =>
    have HQ := Lib.hid hq
    clear hq
    go_wp2_with fail
    go_ret
    exact NodeX.no ps rfl HA6.out (grown_of_below HB6.out _) (fun _ s _ => by rw [← HR.out] at s; have h9 := s.ct; rw [HQ.out] at h9; cases h9)
  | true =>
  have HSU := Lib.hid (show SureX tab x r from ⟨by omega, by omega, HQ1.out, HQ2.out, hq⟩)
  clear hq
  have HCH := Lib.hid (show Calls Tryd.prog 37 #[.agg #[.int .u8 r.is_, .int .u8 r.a, .int .u8 r.b, .int .u8 r.c, .int .i64 r.text, .int .i64 r.second, .int .i64 r.lo, .int .i64 r.hi], .agg #[.int .i64 x.k, strV x.t, strV x.t2, .int .i64 x.n, .int .i64 x.a, .int .i64 x.b, .int .i64 x.c, .int .i64 x.h]] w6 _ from c37 r x w6)
  have n0 : w6.cell? ⟨nb, 0, none⟩ = some (.int .i64 x.k) := HN6.out.cell 0
  have n1 : w6.cell? ⟨nb, 1, none⟩ = some (strV x.t) := HN6.out.cell 1
  have n2 : w6.cell? ⟨nb, 2, none⟩ = some (strV x.t2) := HN6.out.cell 2
  have n3 : w6.cell? ⟨nb, 3, none⟩ = some (.int .i64 x.n) := HN6.out.cell 3
  have n4 : w6.cell? ⟨nb, 4, none⟩ = some (.int .i64 x.a) := HN6.out.cell 4
  have n5 : w6.cell? ⟨nb, 5, none⟩ = some (.int .i64 x.b) := HN6.out.cell 5
  have n6 : w6.cell? ⟨nb, 6, none⟩ = some (.int .i64 x.c) := HN6.out.cell 6
  have n7 : w6.cell? ⟨nb, 7, none⟩ = some (.int .i64 x.h) := HN6.out.cell 7
  have r0 : w6.cell? ⟨rb, 0, none⟩ = some (.int .u8 r.is_) := HR6.out.cell 0
  have r1 : w6.cell? ⟨rb, 1, none⟩ = some (.int .u8 r.a) := HR6.out.cell 1
  have r2 : w6.cell? ⟨rb, 2, none⟩ = some (.int .u8 r.b) := HR6.out.cell 2
  have r3 : w6.cell? ⟨rb, 3, none⟩ = some (.int .u8 r.c) := HR6.out.cell 3
  have r4 : w6.cell? ⟨rb, 4, none⟩ = some (.int .i64 r.text) := HR6.out.cell 4
  have r5 : w6.cell? ⟨rb, 5, none⟩ = some (.int .i64 r.second) := HR6.out.cell 5
  have r6 : w6.cell? ⟨rb, 6, none⟩ = some (.int .i64 r.lo) := HR6.out.cell 6
  have r7 : w6.cell? ⟨rb, 7, none⟩ = some (.int .i64 r.hi) := HR6.out.cell 7
  go_wp2_with fail
  refine HCH.out.mono ?_
  rintro e w7 ⟨rfl, hb7⟩
  rw [show (chC r x).toArray = #[.int .u8 r.a, .int .i64 x.a, .int .u8 r.b, .int .i64 x.b, .int .u8 r.c, .int .i64 x.c] from rfl]
  clear n0 n1 n2 n3 n4 n5 n6 n7
  clear r0 r1 r2 r3 r4 r5 r6 r7
  clear HCH
  have HA7 := Lib.hid (HA6.out.next hb7)
  have HB7 := Lib.hid (grown_of_below (next_ HB6.out hb7) (some pb))
  clear hb7 HA6 HN6 HR6 HB6
  go_wp2_with fail
  have hx0 : ∀ w, (Instr.index 82 (.agg #[.int .u8 r.a, .int .i64 x.a, .int .u8 r.b, .int .i64 x.b, .int .u8 r.c, .int .i64 x.c]) (.int .i64 0)).run Tryd.prog w = .ok (.agg #[.int .u8 r.a, .int .i64 x.a]) w := fun w => (idx82 _ _ _ _ _ _ w).1
  have hx1 : ∀ w, (Instr.index 82 (.agg #[.int .u8 r.a, .int .i64 x.a, .int .u8 r.b, .int .i64 x.b, .int .u8 r.c, .int .i64 x.c]) (.int .i64 1)).run Tryd.prog w = .ok (.agg #[.int .u8 r.b, .int .i64 x.b]) w := fun w => (idx82 _ _ _ _ _ _ w).2.1
  have hx2 : ∀ w, (Instr.index 82 (.agg #[.int .u8 r.a, .int .i64 x.a, .int .u8 r.b, .int .i64 x.b, .int .u8 r.c, .int .i64 x.c]) (.int .i64 2)).run Tryd.prog w = .ok (.agg #[.int .u8 r.c, .int .i64 x.c]) w := fun w => (idx82 _ _ _ _ _ _ w).2.2
  go_loopw [63] (fun i wr => ∃ k : Nat, k ≤ 3 ∧ i = .int .i64 k ∧ okK t r x me k ∧ AskIs W0 wr g pb (some ad) A' c c' t (psK r x me ps k) ∧ w.grownBy wr (some pb)) (fun i _ => 3 - (intOf i).toNat)
  case atStart => exact ⟨0, by omega, rfl, trivial, HA7.out, HB7.out⟩
  case round =>
    obtain ⟨k, hk, rfl, hok, hA, hB⟩ := hrel
    have HOK := Lib.hid hok
    have HA := Lib.hid hA
    have HB := Lib.hid hB
    clear hok hA hB HA7 HB7
    rcases (by omega : k = 0 ∨ k = 1 ∨ k = 2 ∨ k = 3) with rfl | rfl | rfl | rfl
    · have hR8 := Blk.new wr 81 #[.int .u8 r.a, .int .i64 x.a]
      have hb8 := below_new wr (.cells #[.int .u8 r.a, .int .i64 x.a] 81)
      have HA8 := Lib.hid (HA.out.next hb8)
      have HB8 := Lib.hid (HB.out.trans (grown_of_below hb8 (some pb)))
      generalize hw8 : wr.alloc (.cells #[.int .u8 r.a, .int .i64 x.a] 81) = w8 at hR8 hb8 HA8 HB8
      have HR8 := Lib.hid hR8
      clear hR8 hb8
      go_upto_region 8 with fail
      clear hw8
      generalize wr.heap.size = cb at HR8 ⊢
      have y0 : w8.cell? ⟨cb, 0, none⟩ = some (.int .u8 r.a) := HR8.out.cell 0
      have y1 : w8.cell? ⟨cb, 1, none⟩ = some (.int .i64 x.a) := HR8.out.cell 1
      have HCC := Lib.hid (c38 r.a x.a me w8 HA8.out HT.out HS.out.ast (RNN.out.1) HM.out hl (by simp only [psK, bumpL_len]; exact HP.out))
      go_wp2_with fail
      refine HCC.out.mono ?_
      rintro e w9 ⟨rfl, hA9, hG9⟩
      have HA9 := Lib.hid hA9
      have HB9 := Lib.hid (HB8.out.trans hG9)
      clear hA9 hG9 HCC
      cases hcl : childL t r.a x.a me with
      | false =>
        have HCL := Lib.hid hcl
        clear hcl
        go_wp2_with fail
        go_ret
        exact NodeX.no _ (by simp only [psK, bumpL_len]) HA9.out HB9.out (fun _ _ h9 => by rw [← HR.out] at h9; have h8 := h9.1; rw [HCL.out] at h8; cases h8)
      | true =>
        have HCL := Lib.hid (show okK t r x me 1 from hcl)
        clear hcl
        go_wp2_with fail
        go_roundw
        case rel => exact ⟨1, by omega, by go_num, HCL.out, HA9.out, HB9.out⟩
        case measure => simp [intOf]
    · have hR8 := Blk.new wr 81 #[.int .u8 r.b, .int .i64 x.b]
      have hb8 := below_new wr (.cells #[.int .u8 r.b, .int .i64 x.b] 81)
      have HA8 := Lib.hid (HA.out.next hb8)
      have HB8 := Lib.hid (HB.out.trans (grown_of_below hb8 (some pb)))
      generalize hw8 : wr.alloc (.cells #[.int .u8 r.b, .int .i64 x.b] 81) = w8 at hR8 hb8 HA8 HB8
      have HR8 := Lib.hid hR8
      clear hR8 hb8
      go_upto_region 8 with fail
      clear hw8
      generalize wr.heap.size = cb at HR8 ⊢
      have y0 : w8.cell? ⟨cb, 0, none⟩ = some (.int .u8 r.b) := HR8.out.cell 0
      have y1 : w8.cell? ⟨cb, 1, none⟩ = some (.int .i64 x.b) := HR8.out.cell 1
      have HCC := Lib.hid (c38 r.b x.b me w8 HA8.out HT.out HS.out.ast (RNN.out.2.1) HM.out hl (by simp only [psK, bumpL_len]; exact HP.out))
      go_wp2_with fail
      refine HCC.out.mono ?_
      rintro e w9 ⟨rfl, hA9, hG9⟩
      have HA9 := Lib.hid hA9
      have HB9 := Lib.hid (HB8.out.trans hG9)
      clear hA9 hG9 HCC
      cases hcl : childL t r.b x.b me with
      | false =>
        have HCL := Lib.hid hcl
        clear hcl
        go_wp2_with fail
        go_ret
        exact NodeX.no _ (by simp only [psK, bumpL_len]) HA9.out HB9.out (fun _ _ h9 => by rw [← HR.out] at h9; have h8 := h9.2.1; rw [HCL.out] at h8; cases h8)
      | true =>
        have HCL := Lib.hid (show okK t r x me 2 from ⟨HOK.out, hcl⟩)
        clear hcl
        go_wp2_with fail
        go_roundw
        case rel => exact ⟨2, by omega, by go_num, HCL.out, HA9.out, HB9.out⟩
        case measure => simp [intOf]
    · have hR8 := Blk.new wr 81 #[.int .u8 r.c, .int .i64 x.c]
      have hb8 := below_new wr (.cells #[.int .u8 r.c, .int .i64 x.c] 81)
      have HA8 := Lib.hid (HA.out.next hb8)
      have HB8 := Lib.hid (HB.out.trans (grown_of_below hb8 (some pb)))
      generalize hw8 : wr.alloc (.cells #[.int .u8 r.c, .int .i64 x.c] 81) = w8 at hR8 hb8 HA8 HB8
      have HR8 := Lib.hid hR8
      clear hR8 hb8
      go_upto_region 8 with fail
      clear hw8
      generalize wr.heap.size = cb at HR8 ⊢
      have y0 : w8.cell? ⟨cb, 0, none⟩ = some (.int .u8 r.c) := HR8.out.cell 0
      have y1 : w8.cell? ⟨cb, 1, none⟩ = some (.int .i64 x.c) := HR8.out.cell 1
      have HCC := Lib.hid (c38 r.c x.c me w8 HA8.out HT.out HS.out.ast (RNN.out.2.2) HM.out hl (by simp only [psK, bumpL_len]; exact HP.out))
      go_wp2_with fail
      refine HCC.out.mono ?_
      rintro e w9 ⟨rfl, hA9, hG9⟩
      have HA9 := Lib.hid hA9
      have HB9 := Lib.hid (HB8.out.trans hG9)
      clear hA9 hG9 HCC
      cases hcl : childL t r.c x.c me with
      | false =>
        have HCL := Lib.hid hcl
        clear hcl
        go_wp2_with fail
        go_ret
        exact NodeX.no _ (by simp only [psK, bumpL_len]) HA9.out HB9.out (fun _ _ h9 => by rw [← HR.out] at h9; have h8 := h9.2.2; rw [HCL.out] at h8; cases h8)
      | true =>
        have HCL := Lib.hid (show okK t r x me 3 from ⟨HOK.out.1, HOK.out.2, hcl⟩)
        clear hcl
        go_wp2_with fail
        go_roundw
        case rel => exact ⟨3, by omega, by go_num, HCL.out, HA9.out, HB9.out⟩
        case measure => simp [intOf]
    · go_wp2_with fail
      go_ret
      refine NodeX.yes ?_ HB.out HU.out.symm ?_ ?_
      · rw [← HR.out]; exact HA.out
      · rw [← HR.out]; exact HOK.out
      · rw [← HR.out]; exact HSU.out
def psAll (t : Tre) : Nat → List Int
  | 0 => List.replicate t.l.length 0
  | k + 1 => match t.l[k]? with | some x => psK (ofL x).1 x k (psAll t k) 3 | none => psAll t k
theorem psK_len (r : RowA) (x : Nod) (me : Nat) (ps : List Int) (k : Nat) : (psK r x me ps k).length = ps.length := by
  unfold psK
  split <;> simp only [bumpL_len]
theorem psAll_len (t : Tre) (k : Nat) : (psAll t k).length = t.l.length := by
  induction k with
  | zero => simp [psAll]
  | succ k ih =>
    unfold psAll
    split
    · rw [psK_len, ih]
    · exact ih
def NodesOk (t : Tre) (k : Nat) : Prop := ∀ i, i < k → ∀ x, t.l[i]? = some x → (ofL x).2 = true ∧ okK t (ofL x).1 x i 3
def prevY (t : Tre) : Nat → Int
  | 0 => -1
  | j + 1 => t.y.getD j 0
def TyOk (t : Tre) (j : Nat) : Prop := ∀ i, i < j → ∀ k, t.y[i]? = some k → prevY t i < k ∧ k < t.l.length ∧ ∃ x, t.l[k.toNat]? = some x ∧ x.k = 42
def psY (ps : List Int) (ys : List Int) : List Int := ys.foldl (fun p k => p.modify k.toNat bump) ps
theorem psY_len (ys : List Int) : ∀ ps, (psY ps ys).length = ps.length := by
  induction ys with
  | nil => intro ps; rfl
  | cons y ys ih => intro ps; show (psY _ ys).length = _; rw [ih, List.length_modify]
theorem psY_snoc (ps ys : List Int) (k : Int) : psY ps (ys ++ [k]) = (psY ps ys).modify k.toNat bump := by unfold psY; rw [List.foldl_append]; rfl
def psEnd (t : Tre) : List Int := (psY (psAll t t.l.length) t.y).modify t.r.toNat bump
structure GoodN (t : Tre) : Prop where
  n1 : 1 ≤ t.l.length
  n2 : t.l.length ≤ 500
  root : t.r = (t.l.length : Int) - 1
  nodes : NodesOk t t.l.length
  types : TyOk t t.y.length
  ones : ∀ v ∈ psEnd t, v = 1
  is_ : ∀ x, t.l[t.l.length - 1]? = some x → (rowsL.getD x.k.toNat zeroR).is_ = 101
def SureAll (t : Tre) : Prop := ∀ x ∈ t.l, Sure x (ofL x).1
theorem of_in {x : Nod} (h : (ofL x).2 = true) : 1 ≤ x.k ∧ x.k < 44 := by
  unfold ofL at h
  split at h
  case isTrue h1 => exact h1
  case isFalse => cases h
def GoodEnd (t : Tre) (w : World) (e : Ending) (w' : World) : Prop := ∃ b, e = .returned (.bool b) ∧ Below w.heap.size w w' ∧ (b = true → GoodN t) ∧ (GoodN t → SureAll t → b = true)
theorem GoodEnd.no {t : Tre} {w w' : World} (hb : Below w.heap.size w w') (h : GoodN t → SureAll t → False) : GoodEnd t w (.returned (.bool false)) w' := ⟨false, rfl, hb, fun h => absurd h (by decide), fun a b => (h a b).elim⟩
theorem made_ints (n : Nat) : madeCells #[.int .i64 0] (n * 1) = ((List.replicate n (0 : Int)).map intV).toArray := by
  apply Array.ext
  · simp [madeCells]
  · intro i h1 h2
    simp [madeCells, intV, Nat.mod_one]
theorem run_ints (n : Nat) (hn : n ≤ 3000) (w : World) : (Instr.makeSlice 23 (.int .i64 (n : Int)) (.int .i64 (n : Int))).run Tryd.prog w = .ok (.slice (some ⟨w.heap.size, 0, none⟩) n n) (w.alloc (.cells ((List.replicate n (0 : Int)).map intV).toArray 3)) := by
  obtain ⟨i3, fi3, iz0, iz1, iz2⟩ := info_parts int_info
  have h := run_make (P := Tryd.prog) w 23 3 i3 _ Tryd.underlying23 fi3 iz0 .i64 .i64 n n (by omega) (by omega) (by rw [iz2]; omega) (by omega)
  rw [iz1] at h
  simp only [Int.toNat_natCast] at h
  rw [h, ← made_ints]
  rfl
set_option maxRecDepth 100000 in
set_option maxHeartbeats 8000000 in
theorem c10 (t : Tre) (A A' : Option Addr) (c c' : Nat) (w : World) (hT : TreIs w A A' t) (hS : Tabs w) (hl : t.l.length ≤ 281474976710656) (hy : t.y.length ≤ 281474976710656) (hx : ∀ p ∈ t.l, p.t.length ≤ 281474976710656 ∧ p.t2.length ≤ 281474976710656) :
    Calls Tryd.prog 10 #[treV A c A' c' t] w (GoodEnd t w) := by
  have hX := Blk.new w 25 #[.slice A t.l.length c, .slice A' t.y.length c', .int .i64 t.r]
  have hb0 := below_new w (.cells #[.slice A t.l.length c, .slice A' t.y.length c', .int .i64 t.r] 25)
  have HT := Lib.hid (hT.next hb0)
  have HS := Lib.hid (hS.next hb0)
  have HB0 := Lib.hid hb0
  have HX := Lib.hid hX
  have HL := Lib.hid hx
  clear hT hS hb0 hX hx
  show Calls Tryd.prog 10 #[.agg #[.slice A t.l.length c, .slice A' t.y.length c', .int .i64 t.r]] w _
  generalize hw0 : w.alloc (.cells #[.slice A t.l.length c, .slice A' t.y.length c', .int .i64 t.r] 25) = w0 at HT HS HB0 HX
  go_enter Tryd.func10, Tryd.ntmps10
  go_upto_region 1 with fail
  clear hw0
  generalize hxb : w.heap.size = xb at HX ⊢
  have HXB := Lib.hid hxb
  clear hxb
  have x0 : w0.cell? ⟨xb, 0, none⟩ = some (.slice A t.l.length c) := HX.out.cell 0
  have x1 : w0.cell? ⟨xb, 1, none⟩ = some (.slice A' t.y.length c') := HX.out.cell 1
  have x2 : w0.cell? ⟨xb, 2, none⟩ = some (.int .i64 t.r) := HX.out.cell 2
  by_cases h1 : t.l.length < 1
  · have h1' : (t.l.length : Int) < 1 := by omega
    have H1 := Lib.hid h1
    clear h1
    go_wp2_with fail
    go_ret
    exact GoodEnd.no HB0.out (fun h _ => by have := h.n1; have := H1.out; omega)
  have h1' : ¬ (t.l.length : Int) < 1 := by omega
  by_cases h2 : 500 < t.l.length
  · have h2' : (500 : Int) < (t.l.length : Int) := by omega
    have H2 := Lib.hid h2
    clear h2
    go_wp2_with fail
    go_ret
    exact GoodEnd.no HB0.out (fun h _ => by have := h.n2; have := H2.out; omega)
  have h2' : ¬ (500 : Int) < (t.l.length : Int) := by omega
  have hsub : wrap64 ((t.l.length : Int) - 1) = (t.l.length : Int) - 1 := by unfold wrap64; omega
  by_cases h3 : t.r = (t.l.length : Int) - 1
  case neg =>
    have h3' : (t.r == (t.l.length : Int) - 1) = false := beq_false_of_ne h3
    have h3'' : (t.r != (t.l.length : Int) - 1) = true := bne_iff_ne.2 h3
    have H3 := Lib.hid h3
    clear h3
    go_wp2_with fail
    go_ret
    exact GoodEnd.no HB0.out (fun h _ => H3.out h.root)
  have HR := Lib.hid h3
  rw [h3] at x2
  clear h3
  go_upto_region 3 with fail
  refine wp_region_held_drew (S := fun V => V.cell? ⟨xb, 0, none⟩ = some (.slice A t.l.length c) ∧ V.cell? ⟨xb, 1, none⟩ = some (.slice A' t.y.length c') ∧ V.cell? ⟨xb, 2, none⟩ = some (.int .i64 ((t.l.length : Int) - 1))) (by kernel_rfl) ⟨x0, x1, x2⟩ (fun hHeld => ?_)
  clear x0 x1 x2
  have Hd0 := Lib.hid (Below.drew (Below.refl w0.heap.size w0))
  have HXd := Lib.hid (HX.out.drew)
  generalize hd : w0.drew = d at Hd0 HXd hHeld ⊢
  have HD := Lib.hid hd
  clear hd
  refine tkH 0 29 ?_ rfl ?_ ?_
  rotate_left
  · rintro V ⟨z0, z1, z2⟩; go_simp; try with_reducible rfl
  try simp only [Act.put, sLA, sL0, sL1]
  refine tkH 1 30 ?_ rfl ?_ ?_
  rotate_left
  · rintro V ⟨z0, z1, z2⟩; go_simp; try with_reducible rfl
  try simp only [Act.put, sLA, sL0, sL1]
  refine tkH 2 31 ?_ rfl ?_ ?_
  rotate_left
  · rintro V ⟨z0, z1, z2⟩; go_simp; try with_reducible rfl
  try simp only [Act.put, sLA, sL0, sL1]
  refine tkH 3 32 ?_ rfl ?_ ?_
  rotate_left
  · rintro V ⟨z0, z1, z2⟩; go_simp; try with_reducible rfl
  try simp only [Act.put, sLA, sL0, sL1]
  have hmk := run_ints t.l.length (by omega) d
  have hB3 := below_new d (.cells ((List.replicate t.l.length (0 : Int)).map intV).toArray 3)
  have HP3 := Lib.hid (Blk.new d 3 ((List.replicate t.l.length (0 : Int)).map intV).toArray)
  have HX3 := Lib.hid (HXd.out.next hB3)
  have HB3 := Lib.hid (Hd0.out.trans (hB3.mono Hd0.out.size))
  clear hB3
  generalize hd3 : d.alloc (.cells ((List.replicate t.l.length (0 : Int)).map intV).toArray 3) = d3 at HP3 HX3 HB3 hmk
  refine wpAnyH_ready (rs := [4]) (by kernel_rfl) (by simp) ?_
  refine AllReadyH.cons (o := ⟨some 33, _, _, _, _, _⟩) rfl (fun K hK => ?_) AllReadyH.nil
  go_simp
  refine hK.out _ _ ?_ (fun hHeld => ?_)
  · exact ⟨HX3.out.cell 0, HX3.out.cell 1, by rw [← HR.out]; exact HX3.out.cell 2⟩
  clear hK K hmk
  try simp only [Act.put, sLA, sL0, sL1]
  have HPB := Lib.hid (show w0.heap.size ≤ d.heap.size from Hd0.out.size)
  clear hd3
  generalize d.heap.size = pb at HP3 HPB ⊢
  refine tkH 5 34 ?_ rfl ?_ ?_
  rotate_left
  · rintro V ⟨z0, z1, z2⟩; go_simp; try with_reducible rfl
  try simp only [Act.put, sLA, sL0, sL1]
  have hB4 := below_new d3 (.cells #[.slice A t.l.length c, .slice A' t.y.length c', .int .i64 ((t.l.length : Int) - 1), .slice (some ⟨pb, 0, none⟩) t.l.length t.l.length] 56)
  have HG4 := Lib.hid (Blk.new d3 56 #[.slice A t.l.length c, .slice A' t.y.length c', .int .i64 ((t.l.length : Int) - 1), .slice (some ⟨pb, 0, none⟩) t.l.length t.l.length])
  have HX4 := Lib.hid (HX3.out.next hB4)
  have HP4 := Lib.hid (HP3.out.next hB4)
  have HB4 := Lib.hid (next_ HB3.out hB4)
  clear hB4
  generalize hd4 : d3.alloc (.cells #[.slice A t.l.length c, .slice A' t.y.length c', .int .i64 ((t.l.length : Int) - 1), .slice (some ⟨pb, 0, none⟩) t.l.length t.l.length] 56) = d4 at HG4 HX4 HP4 HB4
  refine wpAnyH_ready (rs := [6]) (by kernel_rfl) (by simp) ?_
  refine AllReadyH.cons (o := ⟨some 35, _, _, _, _, _⟩) rfl (fun K hK => ?_) AllReadyH.nil
  go_simp
  refine hK.out _ _ ?_ (fun hHeld => ?_)
  · exact ⟨HX4.out.cell 0, HX4.out.cell 1, by rw [← HR.out]; exact HX4.out.cell 2⟩
  clear hK K hd4
  try simp only [Act.put, sLA, sL0, sL1]
  generalize d3.heap.size = g at HG4 ⊢
  refine tkH 7 3 ?_ rfl ?_ ?_
  rotate_left
  · rintro V ⟨z0, z1, z2⟩; go_simp; try with_reducible rfl
  try simp only [Act.put, sLA, sL0, sL1]
  refine wpAnyH_done (by kernel_rfl) ?_ _
  have hAK : AskIs w0 d4 g pb A A' c c' t (psAll t 0) := ⟨by rw [psAll_len, HR.out]; exact HG4.out, HP4.out, HPB.out, HB4.out⟩
  have HAK := Lib.hid hAK
  have y0 : d4.cell? ⟨xb, 0, none⟩ = some (.slice A t.l.length c) := HX4.out.cell 0
  clear hAK HG4 HP4 HX4 HB4 HP3 HX3 HB3 HXd Hd0 hHeld HD
  go_wp2_with fail
  clear y0
  go_loopw [39] (fun i wr => ∃ k : Nat, k ≤ t.l.length ∧ i = .int .i64 k ∧ NodesOk t k ∧ AskIs w0 wr g pb A A' c c' t (psAll t k)) (fun i _ => t.l.length - (intOf i).toNat)
  case atStart => exact ⟨0, by omega, rfl, fun i h => absurd h (by omega), HAK.out⟩
  case round =>
    obtain ⟨k, hk, rfl, hok, hA⟩ := hrel
    have HOK := Lib.hid hok
    have HA := Lib.hid hA
    clear hok hA HAK
    by_cases hlt : k < t.l.length
    · have hlk : (k : Int) < (t.l.length : Int) := by omega
      have hk0 : (0 : Int) ≤ (k : Int) := by omega
      have hxk : t.l[k]? = some t.l[k] := List.getElem?_eq_getElem hlt
      have hxm := HL.out _ (List.getElem_mem hlt)
      have hmm : t.l[k] ∈ t.l := List.getElem_mem hlt
      generalize t.l[k] = x at hxk hxm hmm
      have HXK := Lib.hid hxk
      have HMM := Lib.hid hmm
      have HC := Lib.hid (c23 k x wr HA.out HT.out HS.out hxk (by omega) (psAll_len t k) hxm.1 hxm.2)
      clear hxk hxm hmm
      go_wp2_with fail
      refine HC.out.mono ?_
      rintro e w5 ⟨q, ps', rfl, hp, hA5, hG5, hq1, hq2⟩
      have HA5 := Lib.hid hA5
      clear hA5 hG5 HC
      cases q with
      | false =>
        have HQ := Lib.hid hq2
        clear hq1 hq2
        go_wp2_with fail
        go_ret
        exact GoodEnd.no (next_ HB0.out HA5.out.low) (fun h s => by
          have h8 := h.nodes k hlt x HXK.out
          have h9 := HQ.out h8.1 (s x HMM.out) h8.2
          cases h9)
      | true =>
        obtain ⟨q1, q2, q3⟩ := hq1 rfl
        subst q3
        have HQ := Lib.hid (And.intro q1 q2)
        clear hq2 q1 q2 hq1
        go_wp2_with fail
        go_roundw
        case rel => exact ⟨k + 1, by omega, by go_num, fun i hi y hy => by
            by_cases hik : i = k
            · subst hik
              have e9 := HXK.out
              rw [hy] at e9
              obtain rfl := Option.some.inj e9
              exact HQ.out
            · exact HOK.out i (by omega) y hy, by
            have e9 : psAll t (k + 1) = psK (ofL x).1 x k (psAll t k) 3 := by
              show (match t.l[k]? with | some x => psK (ofL x).1 x k (psAll t k) 3 | none => psAll t k) = _
              rw [HXK.out]
            rw [e9]
            exact HA5.out⟩
        case measure => simp [intOf]; omega
    · obtain rfl : k = t.l.length := by omega
      have hlk : ¬ ((t.l.length : Int) < (t.l.length : Int)) := by omega
      have y1 : wr.cell? ⟨xb, 1, none⟩ = some (.slice A' t.y.length c') := (HX.out.next HA.out.low).cell 1
      go_wp2_with fail
      clear y1
      have HOKN := HOK
      have hA0 := HA
      clear HOK HA
      go_loopw [5, 50] (fun l i wr => ∃ j : Nat, j ≤ t.y.length ∧ i = .int .i64 j ∧ l = .int .i64 (prevY t j) ∧ -1 ≤ prevY t j ∧ TyOk t j ∧ AskIs w0 wr g pb A A' c c' t (psY (psAll t t.l.length) (t.y.take j))) (fun _ i _ => t.y.length - (intOf i).toNat)
      case atStart => exact ⟨0, by omega, rfl, rfl, by show (-1 : Int) ≤ -1; decide, fun i h => absurd h (by omega), by simpa [psY] using hA0.out⟩
      case round =>
        obtain ⟨j, hj, rfl, rfl, hm, hok, hA⟩ := hrel
        have HOK := Lib.hid hok
        have HA := Lib.hid hA
        clear hok hA hA0
        by_cases hlt : j < t.y.length
        · have hlk : (j : Int) < (t.y.length : Int) := by omega
          have hj0 : (0 : Int) ≤ (j : Int) := by omega
          obtain ⟨ad, u, rfl, _, hu, hcell⟩ := (HT.out.next HA.out.low).types.at_ hlt
          have hyj : t.y[j]? = some t.y[j] := List.getElem?_eq_getElem hlt
          rw [List.getElem?_map, hyj] at hu
          obtain rfl := Option.some.inj hu
          generalize t.y[j] = k at hyj hcell
          have HYJ := Lib.hid hyj
          replace hcell : wr.cell? (ad.add j) = some (.int .i64 k) := hcell
          clear hyj hu
          go_upto_region 14 with fail
          obtain ⟨l, hl9⟩ : ∃ l, l = prevY t j := ⟨_, rfl⟩
          rw [← hl9] at hm ⊢
          have HLL := Lib.hid hl9
          clear hl9
          have y0 : wr.cell? ⟨xb, 0, none⟩ = some (.slice A t.l.length c) := (HX.out.next HA.out.low).cell 0
          by_cases h5 : k ≤ l
          · go_wp2_with fail
            go_ret
            exact GoodEnd.no (next_ HB0.out HA.out.low) (fun h _ => by have h9 := (h.types j hlt k HYJ.out).1; rw [← HLL.out] at h9; omega)
          by_cases h6 : (t.l.length : Int) ≤ k
          · go_wp2_with fail
            go_ret
            exact GoodEnd.no (next_ HB0.out HA.out.low) (fun h _ => by have h9 := (h.types j hlt k HYJ.out).2.1; omega)
          obtain ⟨kn, rfl⟩ : ∃ kn : Nat, k = (kn : Int) := ⟨k.toNat, by omega⟩
          have hkn : kn < t.l.length := by omega
          have hk0 : (0 : Int) ≤ (kn : Int) := by omega
          have hk1 : (kn : Int) < (t.l.length : Int) := by omega
          have hxk : t.l[kn]? = some t.l[kn] := List.getElem?_eq_getElem hkn
          generalize t.l[kn] = x at hxk
          have HXK := Lib.hid hxk
          obtain ⟨ad3, rfl, _, hcs⟩ := (HT.out.next HA.out.low).nodes.nodAt hxk
          have a0 : wr.cell? (ad3.add (kn * 8)) = some (.int .i64 x.k) := by have h9 := hcs 0 _ rfl; rw [add_of_add] at h9; simpa using h9
          clear hcs hxk
          by_cases h7 : x.k = 42
          case neg =>
            have f7 : (x.k == 42) = false := beq_false_of_ne h7
            have g7 : (x.k != 42) = true := bne_iff_ne.2 h7
            have H7 := Lib.hid h7
            clear h7
            go_wp2_with fail
            go_ret
            exact GoodEnd.no (next_ HB0.out HA.out.low) (fun h _ => by
              obtain ⟨y, h8, h9⟩ := (h.types j hlt kn HYJ.out).2.2
              rw [show ((kn : Nat) : Int).toNat = kn from rfl, HXK.out] at h8
              obtain rfl := Option.some.inj h8
              exact H7.out h9)
          have H7 := Lib.hid h7
          rw [h7] at a0
          clear h7
          go_upto_region 16 with fail
          clear a0 y0
          obtain ⟨ps, hps⟩ : ∃ ps, ps = psY (psAll t t.l.length) (t.y.take j) := ⟨_, rfl⟩
          rw [← hps] at HA
          have HPS := Lib.hid hps
          have hpl : ps.length = t.l.length := by rw [hps, psY_len, psAll_len]
          clear hps
          have hkp : kn < ps.length := by omega
          have x3 : wr.cell? ⟨g, 3, none⟩ = some (.slice (some ⟨pb, 0, none⟩) ps.length ps.length) := HA.out.ask.cell 3
          have pa : wr.cell? ⟨pb, kn, none⟩ = some (.int .i64 ps[kn]) := by
            rw [HA.out.cnt.cell kn]
            simp [intV, List.getElem?_eq_getElem hkp]
          have fz := HA.out.cnt.frozen kn
          have HA1 := Lib.hid (HA.out.bumped hkp)
          have HPL := Lib.hid hpl
          go_upto_region 17 with fail
          clear x3 pa fz
          generalize wr.setCell ⟨pb, kn, none⟩ (.int .i64 (wrap64 (ps[kn] + 1))) = w6 at HA1 ⊢
          go_wp2_with fail
          go_roundw
          case rel =>
            refine ⟨j + 1, by omega, by go_num, ?_, ?_, ?_, ?_⟩
            · show _ = Value.int .i64 (t.y.getD j 0)
              rw [List.getD_eq_getElem?_getD, HYJ.out]
              rfl
            · show (-1 : Int) ≤ t.y.getD j 0
              rw [List.getD_eq_getElem?_getD, HYJ.out]
              show (-1 : Int) ≤ (kn : Int)
              omega
            · intro i hi y hy
              by_cases hij : i = j
              · subst hij
                have e9 := HYJ.out
                rw [hy] at e9
                obtain rfl := Option.some.inj e9
                rw [← HLL.out]
                exact ⟨by omega, hk1, x, HXK.out, H7.out⟩
              · exact HOK.out i (by omega) y hy
            · rw [List.take_add_one, HYJ.out, show (some (kn : Int)).toList = [(kn : Int)] from rfl, psY_snoc, ← HPS.out]
              exact HA1.out
          case measure => simp [intOf]; omega
        · obtain rfl : j = t.y.length := by omega
          have hlk : ¬ ((t.y.length : Int) < (t.y.length : Int)) := by omega
          go_upto_region 19 with fail
          obtain ⟨rn, hrn⟩ : ∃ rn : Nat, (t.l.length : Int) - 1 = (rn : Int) := ⟨t.l.length - 1, by omega⟩
          have hrl : rn < t.l.length := by omega
          rw [List.take_length] at HA
          obtain ⟨ps, hps⟩ : ∃ ps, ps = psY (psAll t t.l.length) t.y := ⟨_, rfl⟩
          rw [← hps] at HA
          have HPS := Lib.hid hps
          have hpl : ps.length = t.l.length := by rw [hps, psY_len, psAll_len]
          clear hps
          have hrp : rn < ps.length := by omega
          have r0 : (0 : Int) ≤ (rn : Int) := by omega
          have r1 : (rn : Int) < (t.l.length : Int) := by omega
          have r2 : (rn : Int) < (ps.length : Int) := by omega
          have x3 : wr.cell? ⟨g, 3, none⟩ = some (.slice (some ⟨pb, 0, none⟩) ps.length ps.length) := HA.out.ask.cell 3
          have x2 : wr.cell? ⟨xb, 2, none⟩ = some (.int .i64 (rn : Int)) := by rw [← hrn, ← HR.out]; exact (HX.out.next HA.out.low).cell 2
          have pa : wr.cell? ⟨pb, rn, none⟩ = some (.int .i64 ps[rn]) := by
            rw [HA.out.cnt.cell rn]
            simp [intV, List.getElem?_eq_getElem hrp]
          have fz := HA.out.cnt.frozen rn
          have HA1 := Lib.hid (HA.out.bumped hrp)
          have HAd := Lib.hid (show AskIs w0 wr.drew g pb A A' c c' t ps from ⟨HA.out.ask, HA.out.cnt, HA.out.le, Below.drew HA.out.low⟩)
          generalize ps[rn] = v0 at pa HA1
          refine wp_region_last (S := fun V => V.cell? ⟨g, 3, none⟩ = some (.slice (some ⟨pb, 0, none⟩) ps.length ps.length) ∧ V.cell? ⟨xb, 2, none⟩ = some (.int .i64 (rn : Int)) ∧ V.cell? ⟨pb, rn, none⟩ = some (.int .i64 v0) ∧ V.frozen? ⟨pb, rn, none⟩ = false) 10 (by kernel_rfl) (by kernel_rfl) (by kernel_rfl) (by kernel_rfl) ⟨x3, x2, pa, fz⟩ (fun hHeld => ?_)
          clear x3 x2 pa fz
          refine tkH 0 84 ?_ rfl ?_ ?_
          rotate_left
          · rintro V ⟨z0, z1, z2, z3⟩; go_simp; try with_reducible rfl
          try simp only [Act.put, sLA, sL0, sL1]
          refine tkH 1 85 ?_ rfl ?_ ?_
          rotate_left
          · rintro V ⟨z0, z1, z2, z3⟩; go_simp; try with_reducible rfl
          try simp only [Act.put, sLA, sL0, sL1]
          refine tkH 2 86 ?_ rfl ?_ ?_
          rotate_left
          · rintro V ⟨z0, z1, z2, z3⟩; go_simp; try with_reducible rfl
          try simp only [Act.put, sLA, sL0, sL1]
          refine tkH 3 87 ?_ rfl ?_ ?_
          rotate_left
          · rintro V ⟨z0, z1, z2, z3⟩; go_simp; try with_reducible rfl
          try simp only [Act.put, sLA, sL0, sL1]
          refine tkH 4 88 ?_ rfl ?_ ?_
          rotate_left
          · rintro V ⟨z0, z1, z2, z3⟩; go_simp; try with_reducible rfl
          try simp only [Act.put, sLA, sL0, sL1]
          refine tkH 5 89 ?_ rfl ?_ ?_
          rotate_left
          · rintro V ⟨z0, z1, z2, z3⟩; go_simp; try with_reducible rfl
          try simp only [Act.put, sLA, sL0, sL1]
          refine tkH 6 90 ?_ rfl ?_ ?_
          rotate_left
          · rintro V ⟨z0, z1, z2, z3⟩; go_simp; try with_reducible rfl
          try simp only [Act.put, sLA, sL0, sL1]
          refine tkH 7 91 ?_ rfl ?_ ?_
          rotate_left
          · rintro V ⟨z0, z1, z2, z3⟩; go_simp; try with_reducible rfl
          try simp only [Act.put, sLA, sL0, sL1]
          refine tkH 8 92 ?_ rfl ?_ ?_
          rotate_left
          · rintro V ⟨z0, z1, z2, z3⟩; go_simp; try with_reducible rfl
          try simp only [Act.put, sLA, sL0, sL1]
          refine tkH 9 93 ?_ rfl ?_ ?_
          rotate_left
          · rintro V ⟨z0, z1, z2, z3⟩; go_simp; try with_reducible rfl
          try simp only [Act.put, sLA, sL0, sL1]
          refine wpAnyH_done (by kernel_rfl) ?_ _
          refine lastPost_run (o := ⟨none, _, _, _, _, _⟩) rfl (fun K hK => ?_)
          obtain ⟨z0, z1, z2, z3⟩ := hHeld
          go_simp
          refine hK.out _ _ ?_
          clear hK K
          have hPE : ps.modify rn bump = psEnd t := by unfold psEnd; rw [HR.out, hrn, show ((rn : Nat) : Int).toNat = rn from rfl, ← HPS.out]
          rw [show IntKind.i64.wrap (v0 + 1) = wrap64 (v0 + 1) by rw [IntKind.wrap_i64]; unfold wrap64; rfl]
          have HA2 := Lib.hid (show AskIs w0 (wr.setCell ⟨pb, rn, none⟩ (.int .i64 (wrap64 (v0 + 1)))).drew g pb A A' c c' t (psEnd t) from by rw [← hPE]; exact ⟨HA1.out.ask, HA1.out.cnt, HA1.out.le, Below.drew HA1.out.low⟩)
          have hql : (psEnd t).length = t.l.length := by rw [← hPE, List.length_modify, hpl]
          generalize (wr.setCell ⟨pb, rn, none⟩ (.int .i64 (wrap64 (v0 + 1)))).drew = w7 at HA2 ⊢
          clear z0 z1 z2 z3 hPE HPS HA1 HAd HA hrp hpl r2
          have x3 : w7.cell? ⟨g, 3, none⟩ = some (.slice (some ⟨pb, 0, none⟩) (psEnd t).length (psEnd t).length) := HA2.out.ask.cell 3
          obtain ⟨pe, hpe⟩ : ∃ pe, pe = psEnd t := ⟨_, rfl⟩
          rw [← hpe] at x3 hql HA2
          have HPE := Lib.hid hpe
          have HQL := Lib.hid hql
          clear hpe
          go_wp2_with fail
          clear x3
          go_loopw [99] (fun i wr => ∃ j : Nat, j ≤ t.l.length ∧ i = .int .i64 j ∧ wr = w7 ∧ ∀ i, i < j → ∀ v, pe[i]? = some v → v = 1) (fun i _ => t.l.length - (intOf i).toNat)
          case atStart => exact ⟨0, by omega, rfl, rfl, fun i h => absurd h (by omega)⟩
          case round =>
            obtain ⟨j, hj, rfl, rfl, hone⟩ := hrel
            have HO := Lib.hid hone
            clear hone
            by_cases hlt : j < t.l.length
            · have hlk : (j : Int) < (t.l.length : Int) := by omega
              have hj0 : (0 : Int) ≤ (j : Int) := by omega
              have hjp : j < pe.length := by omega
              have hpj : pe[j]? = some pe[j] := List.getElem?_eq_getElem hjp
              have pa : wr.cell? ⟨pb, j, none⟩ = some (.int .i64 pe[j]) := by
                rw [HA2.out.cnt.cell j]
                simp [intV, hpj]
              generalize pe[j] = v at hpj pa
              have HPJ := Lib.hid hpj
              clear hpj
              by_cases hv : v = 1
              · have f1 : (v == 1) = true := beq_iff_eq.2 hv
                have f2 : (v != 1) = false := by rw [hv]; rfl
                have HV := Lib.hid hv
                clear hv
                go_wp2_with fail
                go_roundw
                case rel => exact ⟨j + 1, by omega, by go_num, by first | rfl | trivial, fun i hi u hu => by
                    by_cases hij : i = j
                    · subst hij
                      have e9 := HPJ.out
                      rw [hu] at e9
                      obtain rfl := Option.some.inj e9
                      exact HV.out
                    · exact HO.out i (by omega) u hu⟩
                case measure => simp [intOf]; omega
              · have f1 : (v == 1) = false := beq_false_of_ne hv
                have f2 : (v != 1) = true := bne_iff_ne.2 hv
                have HV := Lib.hid hv
                clear hv
                go_wp2_with fail
                go_ret
                exact GoodEnd.no (next_ HB0.out HA2.out.low) (fun h _ => HV.out (h.ones v (by rw [← HPE.out]; exact List.mem_of_getElem? HPJ.out)))
            · obtain rfl : j = t.l.length := by omega
              have hlk : ¬ ((t.l.length : Int) < (t.l.length : Int)) := by omega
              go_upto_region 26 with fail
              have hxr : t.l[rn]? = some t.l[rn] := List.getElem?_eq_getElem hrl
              generalize t.l[rn] = x at hxr
              have HXR := Lib.hid hxr
              obtain ⟨k1, k2⟩ := of_in (HOKN.out rn hrl x hxr).1
              obtain ⟨kk, hkk⟩ : ∃ kk : Nat, x.k = (kk : Int) := ⟨x.k.toNat, by omega⟩
              obtain ⟨r, hr⟩ := rows_at (k := kk) (by omega)
              have hgd : (rowsL.getD x.k.toNat zeroR).is_ = r.is_ := by rw [show x.k.toNat = kk by omega, List.getD_eq_getElem?_getD, hr]; rfl
              have HGD := Lib.hid hgd
              have hc0 : wr.cell? ⟨0, kk * 8, none⟩ = some (.int .u8 r.is_) := by
                have h9 := (HS.out.ast.next HA2.out.low).at_ hr 0 _ rfl
                simpa [Addr.add] using h9
              obtain ⟨ad, rfl, _, hcs⟩ := (HT.out.next HA2.out.low).nodes.nodAt hxr
              have a0 : wr.cell? (ad.add (rn * 8)) = some (.int .i64 (kk : Int)) := by have h9 := hcs 0 _ rfl; rw [add_of_add, hkk] at h9; simpa using h9
              have j0 : (0 : Int) ≤ (kk : Int) := by omega
              have j1 : (kk : Int) < 44 := by omega
              have x0 : wr.cell? ⟨xb, 0, none⟩ = some (.slice (some ad) t.l.length c) := (HX.out.next HA2.out.low).cell 0
              have x2 : wr.cell? ⟨xb, 2, none⟩ = some (.int .i64 (rn : Int)) := by rw [← hrn, ← HR.out]; exact (HX.out.next HA2.out.low).cell 2
              have HRN := Lib.hid hrn
              clear hcs hxr hgd hr hkk k1 k2 hrn
              by_cases hi : r.is_ = 101
              · have f1 : (r.is_ == 101) = true := beq_iff_eq.2 hi
                have HI := Lib.hid hi
                rw [hi] at hc0
                clear hi
                go_wp2_with fail
                go_ret
                exact ⟨_, rfl, next_ HB0.out HA2.out.low, fun _ => ⟨by omega, by omega, HR.out, HOKN.out, HOK.out, fun v hv => by
                    rw [← HPE.out] at hv
                    obtain ⟨i, hi, hiv⟩ := List.mem_iff_getElem.1 hv
                    exact HO.out i (by have := HQL.out; omega) v (by rw [List.getElem?_eq_getElem hi, hiv]), fun y hy => by
                    have e8 := HRN.out
                    rw [show t.l.length - 1 = rn by omega, HXR.out] at hy
                    obtain rfl := Option.some.inj hy
                    rw [HGD.out, HI.out]⟩, fun _ _ => rfl⟩
              · have f1 : (r.is_ == 101) = false := beq_false_of_ne hi
                have HI := Lib.hid hi
                clear hi
                go_wp2_with fail
                go_ret
                refine GoodEnd.no (next_ HB0.out HA2.out.low) (fun h _ => HI.out ?_)
                have h9 := h.is_ x (by rw [show t.l.length - 1 = rn by have := HRN.out; omega]; exact HXR.out)
                rw [HGD.out] at h9
                exact h9
def NodesX (tab : Nat → OpRow) (t : Tre) (k : Nat) : Prop := ∀ i, i < k → ∀ y, t.l[i]? = some y → SureX tab y (ofL y).1
def AllX (tab : Nat → OpRow) (t : Tre) : Prop := ∀ y ∈ t.l, SureX tab y (ofL y).1
theorem AllX.of {tab : Nat → OpRow} {t : Tre} (h : NodesX tab t t.l.length) : AllX tab t := fun y hy => by
  obtain ⟨i, hi⟩ := List.mem_iff_getElem?.1 hy
  exact h i (List.getElem?_eq_some_iff.1 hi).1 y hi
def GoodX (tab : Nat → OpRow) (t : Tre) (w : World) (e : Ending) (w' : World) : Prop := ∃ b, e = .returned (.bool b) ∧ Below w.heap.size w w' ∧ (b = true → GoodN t ∧ AllX tab t) ∧ (GoodN t → AllX tab t → b = true)
theorem GoodX.no {tab : Nat → OpRow} {t : Tre} {w w' : World} (hb : Below w.heap.size w w') (h : GoodN t → AllX tab t → False) : GoodX tab t w (.returned (.bool false)) w' := ⟨false, rfl, hb, fun h => absurd h (by decide), fun a b => (h a b).elim⟩
set_option maxRecDepth 100000 in
set_option maxHeartbeats 8000000 in
theorem x10 {tab : Nat → OpRow} (t : Tre) (A A' : Option Addr) (c c' : Nat) (w : World) (hT : TreIs w A A' t) (hS : TabsX tab w) (hl : t.l.length ≤ 281474976710656) (hy : t.y.length ≤ 281474976710656) (hx : ∀ p ∈ t.l, p.t.length ≤ 281474976710656 ∧ p.t2.length ≤ 281474976710656) :
    Calls Tryd.prog 10 #[treV A c A' c' t] w (GoodX tab t w) := by
  have hX := Blk.new w 25 #[.slice A t.l.length c, .slice A' t.y.length c', .int .i64 t.r]
  have hb0 := below_new w (.cells #[.slice A t.l.length c, .slice A' t.y.length c', .int .i64 t.r] 25)
  have HT := Lib.hid (hT.next hb0)
  have HS := Lib.hid (hS.next hb0)
  have HB0 := Lib.hid hb0
  have HX := Lib.hid hX
  have HL := Lib.hid hx
  clear hT hS hb0 hX hx
  show Calls Tryd.prog 10 #[.agg #[.slice A t.l.length c, .slice A' t.y.length c', .int .i64 t.r]] w _
  generalize hw0 : w.alloc (.cells #[.slice A t.l.length c, .slice A' t.y.length c', .int .i64 t.r] 25) = w0 at HT HS HB0 HX
  go_enter Tryd.func10, Tryd.ntmps10
  go_upto_region 1 with fail
  clear hw0
  generalize hxb : w.heap.size = xb at HX ⊢
  have HXB := Lib.hid hxb
  clear hxb
  have x0 : w0.cell? ⟨xb, 0, none⟩ = some (.slice A t.l.length c) := HX.out.cell 0
  have x1 : w0.cell? ⟨xb, 1, none⟩ = some (.slice A' t.y.length c') := HX.out.cell 1
  have x2 : w0.cell? ⟨xb, 2, none⟩ = some (.int .i64 t.r) := HX.out.cell 2
  by_cases h1 : t.l.length < 1
  · have h1' : (t.l.length : Int) < 1 := by omega
    have H1 := Lib.hid h1
    clear h1
    go_wp2_with fail
    go_ret
    exact GoodX.no HB0.out (fun h _ => by have := h.n1; have := H1.out; omega)
  have h1' : ¬ (t.l.length : Int) < 1 := by omega
  by_cases h2 : 500 < t.l.length
  · have h2' : (500 : Int) < (t.l.length : Int) := by omega
    have H2 := Lib.hid h2
    clear h2
    go_wp2_with fail
    go_ret
    exact GoodX.no HB0.out (fun h _ => by have := h.n2; have := H2.out; omega)
  have h2' : ¬ (500 : Int) < (t.l.length : Int) := by omega
  have hsub : wrap64 ((t.l.length : Int) - 1) = (t.l.length : Int) - 1 := by unfold wrap64; omega
  by_cases h3 : t.r = (t.l.length : Int) - 1
  case neg =>
    have h3' : (t.r == (t.l.length : Int) - 1) = false := beq_false_of_ne h3
    have h3'' : (t.r != (t.l.length : Int) - 1) = true := bne_iff_ne.2 h3
    have H3 := Lib.hid h3
    clear h3
    go_wp2_with fail
    go_ret
    exact GoodX.no HB0.out (fun h _ => H3.out h.root)
  have HR := Lib.hid h3
  rw [h3] at x2
  clear h3
  go_upto_region 3 with fail
  refine wp_region_held_drew (S := fun V => V.cell? ⟨xb, 0, none⟩ = some (.slice A t.l.length c) ∧ V.cell? ⟨xb, 1, none⟩ = some (.slice A' t.y.length c') ∧ V.cell? ⟨xb, 2, none⟩ = some (.int .i64 ((t.l.length : Int) - 1))) (by kernel_rfl) ⟨x0, x1, x2⟩ (fun hHeld => ?_)
  clear x0 x1 x2
  have Hd0 := Lib.hid (Below.drew (Below.refl w0.heap.size w0))
  have HXd := Lib.hid (HX.out.drew)
  generalize hd : w0.drew = d at Hd0 HXd hHeld ⊢
  have HD := Lib.hid hd
  clear hd
  refine tkH 0 29 ?_ rfl ?_ ?_
  rotate_left
  · rintro V ⟨z0, z1, z2⟩; go_simp; try with_reducible rfl
  try simp only [Act.put, sLA, sL0, sL1]
  refine tkH 1 30 ?_ rfl ?_ ?_
  rotate_left
  · rintro V ⟨z0, z1, z2⟩; go_simp; try with_reducible rfl
  try simp only [Act.put, sLA, sL0, sL1]
  refine tkH 2 31 ?_ rfl ?_ ?_
  rotate_left
  · rintro V ⟨z0, z1, z2⟩; go_simp; try with_reducible rfl
  try simp only [Act.put, sLA, sL0, sL1]
  refine tkH 3 32 ?_ rfl ?_ ?_
  rotate_left
  · rintro V ⟨z0, z1, z2⟩; go_simp; try with_reducible rfl
  try simp only [Act.put, sLA, sL0, sL1]
  have hmk := run_ints t.l.length (by omega) d
  have hB3 := below_new d (.cells ((List.replicate t.l.length (0 : Int)).map intV).toArray 3)
  have HP3 := Lib.hid (Blk.new d 3 ((List.replicate t.l.length (0 : Int)).map intV).toArray)
  have HX3 := Lib.hid (HXd.out.next hB3)
  have HB3 := Lib.hid (Hd0.out.trans (hB3.mono Hd0.out.size))
  clear hB3
  generalize hd3 : d.alloc (.cells ((List.replicate t.l.length (0 : Int)).map intV).toArray 3) = d3 at HP3 HX3 HB3 hmk
  refine wpAnyH_ready (rs := [4]) (by kernel_rfl) (by simp) ?_
  refine AllReadyH.cons (o := ⟨some 33, _, _, _, _, _⟩) rfl (fun K hK => ?_) AllReadyH.nil
  go_simp
  refine hK.out _ _ ?_ (fun hHeld => ?_)
  · exact ⟨HX3.out.cell 0, HX3.out.cell 1, by rw [← HR.out]; exact HX3.out.cell 2⟩
  clear hK K hmk
  try simp only [Act.put, sLA, sL0, sL1]
  have HPB := Lib.hid (show w0.heap.size ≤ d.heap.size from Hd0.out.size)
  clear hd3
  generalize d.heap.size = pb at HP3 HPB ⊢
  refine tkH 5 34 ?_ rfl ?_ ?_
  rotate_left
  · rintro V ⟨z0, z1, z2⟩; go_simp; try with_reducible rfl
  try simp only [Act.put, sLA, sL0, sL1]
  have hB4 := below_new d3 (.cells #[.slice A t.l.length c, .slice A' t.y.length c', .int .i64 ((t.l.length : Int) - 1), .slice (some ⟨pb, 0, none⟩) t.l.length t.l.length] 56)
  have HG4 := Lib.hid (Blk.new d3 56 #[.slice A t.l.length c, .slice A' t.y.length c', .int .i64 ((t.l.length : Int) - 1), .slice (some ⟨pb, 0, none⟩) t.l.length t.l.length])
  have HX4 := Lib.hid (HX3.out.next hB4)
  have HP4 := Lib.hid (HP3.out.next hB4)
  have HB4 := Lib.hid (next_ HB3.out hB4)
  clear hB4
  generalize hd4 : d3.alloc (.cells #[.slice A t.l.length c, .slice A' t.y.length c', .int .i64 ((t.l.length : Int) - 1), .slice (some ⟨pb, 0, none⟩) t.l.length t.l.length] 56) = d4 at HG4 HX4 HP4 HB4
  refine wpAnyH_ready (rs := [6]) (by kernel_rfl) (by simp) ?_
  refine AllReadyH.cons (o := ⟨some 35, _, _, _, _, _⟩) rfl (fun K hK => ?_) AllReadyH.nil
  go_simp
  refine hK.out _ _ ?_ (fun hHeld => ?_)
  · exact ⟨HX4.out.cell 0, HX4.out.cell 1, by rw [← HR.out]; exact HX4.out.cell 2⟩
  clear hK K hd4
  try simp only [Act.put, sLA, sL0, sL1]
  generalize d3.heap.size = g at HG4 ⊢
  refine tkH 7 3 ?_ rfl ?_ ?_
  rotate_left
  · rintro V ⟨z0, z1, z2⟩; go_simp; try with_reducible rfl
  try simp only [Act.put, sLA, sL0, sL1]
  refine wpAnyH_done (by kernel_rfl) ?_ _
  have hAK : AskIs w0 d4 g pb A A' c c' t (psAll t 0) := ⟨by rw [psAll_len, HR.out]; exact HG4.out, HP4.out, HPB.out, HB4.out⟩
  have HAK := Lib.hid hAK
  have y0 : d4.cell? ⟨xb, 0, none⟩ = some (.slice A t.l.length c) := HX4.out.cell 0
  clear hAK HG4 HP4 HX4 HB4 HP3 HX3 HB3 HXd Hd0 hHeld HD
  go_wp2_with fail
  clear y0
  go_loopw [39] (fun i wr => ∃ k : Nat, k ≤ t.l.length ∧ i = .int .i64 k ∧ NodesOk t k ∧ NodesX tab t k ∧ AskIs w0 wr g pb A A' c c' t (psAll t k)) (fun i _ => t.l.length - (intOf i).toNat)
  case atStart => exact ⟨0, by omega, rfl, fun i h => absurd h (by omega), fun i h => absurd h (by omega), HAK.out⟩
  case round =>
    obtain ⟨k, hk, rfl, hok, hnx, hA⟩ := hrel
    have HNX := Lib.hid hnx
    clear hnx
    have HOK := Lib.hid hok
    have HA := Lib.hid hA
    clear hok hA HAK
    by_cases hlt : k < t.l.length
    · have hlk : (k : Int) < (t.l.length : Int) := by omega
      have hk0 : (0 : Int) ≤ (k : Int) := by omega
      have hxk : t.l[k]? = some t.l[k] := List.getElem?_eq_getElem hlt
      have hxm := HL.out _ (List.getElem_mem hlt)
      have hmm : t.l[k] ∈ t.l := List.getElem_mem hlt
      generalize t.l[k] = x at hxk hxm hmm
      have HXK := Lib.hid hxk
      have HMM := Lib.hid hmm
      have HC := Lib.hid (x23 k x wr HA.out HT.out HS.out hxk (by omega) (psAll_len t k) hxm.1 hxm.2)
      clear hxk hxm hmm
      go_wp2_with fail
      refine HC.out.mono ?_
      rintro e w5 ⟨q, ps', rfl, hp, hA5, hG5, hq1, hq2⟩
      have HA5 := Lib.hid hA5
      clear hA5 hG5 HC
      cases q with
      | false =>
        have HQ := Lib.hid hq2
        clear hq1 hq2
        go_wp2_with fail
        go_ret
        exact GoodX.no (next_ HB0.out HA5.out.low) (fun h s => by
          have h8 := h.nodes k hlt x HXK.out
          have h9 := HQ.out h8.1 (s x HMM.out) h8.2
          cases h9)
      | true =>
        obtain ⟨q1, q2, q3, q4⟩ := hq1 rfl
        subst q3
        have HSX := Lib.hid q4
        have HQ := Lib.hid (And.intro q1 q2)
        clear hq2 q1 q2 q4 hq1
        go_wp2_with fail
        go_roundw
        case rel => exact ⟨k + 1, by omega, by go_num, fun i hi y hy => by
            by_cases hik : i = k
            · subst hik
              have e9 := HXK.out
              rw [hy] at e9
              obtain rfl := Option.some.inj e9
              exact HQ.out
            · exact HOK.out i (by omega) y hy, fun i hi y hy => by
            by_cases hik : i = k
            · subst hik
              have e9 := HXK.out
              rw [hy] at e9
              obtain rfl := Option.some.inj e9
              exact HSX.out
            · exact HNX.out i (by omega) y hy, by
            have e9 : psAll t (k + 1) = psK (ofL x).1 x k (psAll t k) 3 := by
              show (match t.l[k]? with | some x => psK (ofL x).1 x k (psAll t k) 3 | none => psAll t k) = _
              rw [HXK.out]
            rw [e9]
            exact HA5.out⟩
        case measure => simp [intOf]; omega
    · obtain rfl : k = t.l.length := by omega
      have hlk : ¬ ((t.l.length : Int) < (t.l.length : Int)) := by omega
      have y1 : wr.cell? ⟨xb, 1, none⟩ = some (.slice A' t.y.length c') := (HX.out.next HA.out.low).cell 1
      go_wp2_with fail
      clear y1
      have HOKN := HOK
      have hA0 := HA
      clear HOK HA
      go_loopw [5, 50] (fun l i wr => ∃ j : Nat, j ≤ t.y.length ∧ i = .int .i64 j ∧ l = .int .i64 (prevY t j) ∧ -1 ≤ prevY t j ∧ TyOk t j ∧ AskIs w0 wr g pb A A' c c' t (psY (psAll t t.l.length) (t.y.take j))) (fun _ i _ => t.y.length - (intOf i).toNat)
      case atStart => exact ⟨0, by omega, rfl, rfl, by show (-1 : Int) ≤ -1; decide, fun i h => absurd h (by omega), by simpa [psY] using hA0.out⟩
      case round =>
        obtain ⟨j, hj, rfl, rfl, hm, hok, hA⟩ := hrel
        have HOK := Lib.hid hok
        have HA := Lib.hid hA
        clear hok hA hA0
        by_cases hlt : j < t.y.length
        · have hlk : (j : Int) < (t.y.length : Int) := by omega
          have hj0 : (0 : Int) ≤ (j : Int) := by omega
          obtain ⟨ad, u, rfl, _, hu, hcell⟩ := (HT.out.next HA.out.low).types.at_ hlt
          have hyj : t.y[j]? = some t.y[j] := List.getElem?_eq_getElem hlt
          rw [List.getElem?_map, hyj] at hu
          obtain rfl := Option.some.inj hu
          generalize t.y[j] = k at hyj hcell
          have HYJ := Lib.hid hyj
          replace hcell : wr.cell? (ad.add j) = some (.int .i64 k) := hcell
          clear hyj hu
          go_upto_region 14 with fail
          obtain ⟨l, hl9⟩ : ∃ l, l = prevY t j := ⟨_, rfl⟩
          rw [← hl9] at hm ⊢
          have HLL := Lib.hid hl9
          clear hl9
          have y0 : wr.cell? ⟨xb, 0, none⟩ = some (.slice A t.l.length c) := (HX.out.next HA.out.low).cell 0
          by_cases h5 : k ≤ l
          · go_wp2_with fail
            go_ret
            exact GoodX.no (next_ HB0.out HA.out.low) (fun h _ => by have h9 := (h.types j hlt k HYJ.out).1; rw [← HLL.out] at h9; omega)
          by_cases h6 : (t.l.length : Int) ≤ k
          · go_wp2_with fail
            go_ret
            exact GoodX.no (next_ HB0.out HA.out.low) (fun h _ => by have h9 := (h.types j hlt k HYJ.out).2.1; omega)
          obtain ⟨kn, rfl⟩ : ∃ kn : Nat, k = (kn : Int) := ⟨k.toNat, by omega⟩
          have hkn : kn < t.l.length := by omega
          have hk0 : (0 : Int) ≤ (kn : Int) := by omega
          have hk1 : (kn : Int) < (t.l.length : Int) := by omega
          have hxk : t.l[kn]? = some t.l[kn] := List.getElem?_eq_getElem hkn
          generalize t.l[kn] = x at hxk
          have HXK := Lib.hid hxk
          obtain ⟨ad3, rfl, _, hcs⟩ := (HT.out.next HA.out.low).nodes.nodAt hxk
          have a0 : wr.cell? (ad3.add (kn * 8)) = some (.int .i64 x.k) := by have h9 := hcs 0 _ rfl; rw [add_of_add] at h9; simpa using h9
          clear hcs hxk
          by_cases h7 : x.k = 42
          case neg =>
            have f7 : (x.k == 42) = false := beq_false_of_ne h7
            have g7 : (x.k != 42) = true := bne_iff_ne.2 h7
            have H7 := Lib.hid h7
            clear h7
            go_wp2_with fail
            go_ret
            exact GoodX.no (next_ HB0.out HA.out.low) (fun h _ => by
              obtain ⟨y, h8, h9⟩ := (h.types j hlt kn HYJ.out).2.2
              rw [show ((kn : Nat) : Int).toNat = kn from rfl, HXK.out] at h8
              obtain rfl := Option.some.inj h8
              exact H7.out h9)
          have H7 := Lib.hid h7
          rw [h7] at a0
          clear h7
          go_upto_region 16 with fail
          clear a0 y0
          obtain ⟨ps, hps⟩ : ∃ ps, ps = psY (psAll t t.l.length) (t.y.take j) := ⟨_, rfl⟩
          rw [← hps] at HA
          have HPS := Lib.hid hps
          have hpl : ps.length = t.l.length := by rw [hps, psY_len, psAll_len]
          clear hps
          have hkp : kn < ps.length := by omega
          have x3 : wr.cell? ⟨g, 3, none⟩ = some (.slice (some ⟨pb, 0, none⟩) ps.length ps.length) := HA.out.ask.cell 3
          have pa : wr.cell? ⟨pb, kn, none⟩ = some (.int .i64 ps[kn]) := by
            rw [HA.out.cnt.cell kn]
            simp [intV, List.getElem?_eq_getElem hkp]
          have fz := HA.out.cnt.frozen kn
          have HA1 := Lib.hid (HA.out.bumped hkp)
          have HPL := Lib.hid hpl
          go_upto_region 17 with fail
          clear x3 pa fz
          generalize wr.setCell ⟨pb, kn, none⟩ (.int .i64 (wrap64 (ps[kn] + 1))) = w6 at HA1 ⊢
          go_wp2_with fail
          go_roundw
          case rel =>
            refine ⟨j + 1, by omega, by go_num, ?_, ?_, ?_, ?_⟩
            · show _ = Value.int .i64 (t.y.getD j 0)
              rw [List.getD_eq_getElem?_getD, HYJ.out]
              rfl
            · show (-1 : Int) ≤ t.y.getD j 0
              rw [List.getD_eq_getElem?_getD, HYJ.out]
              show (-1 : Int) ≤ (kn : Int)
              omega
            · intro i hi y hy
              by_cases hij : i = j
              · subst hij
                have e9 := HYJ.out
                rw [hy] at e9
                obtain rfl := Option.some.inj e9
                rw [← HLL.out]
                exact ⟨by omega, hk1, x, HXK.out, H7.out⟩
              · exact HOK.out i (by omega) y hy
            · rw [List.take_add_one, HYJ.out, show (some (kn : Int)).toList = [(kn : Int)] from rfl, psY_snoc, ← HPS.out]
              exact HA1.out
          case measure => simp [intOf]; omega
        · obtain rfl : j = t.y.length := by omega
          have hlk : ¬ ((t.y.length : Int) < (t.y.length : Int)) := by omega
          go_upto_region 19 with fail
          obtain ⟨rn, hrn⟩ : ∃ rn : Nat, (t.l.length : Int) - 1 = (rn : Int) := ⟨t.l.length - 1, by omega⟩
          have hrl : rn < t.l.length := by omega
          rw [List.take_length] at HA
          obtain ⟨ps, hps⟩ : ∃ ps, ps = psY (psAll t t.l.length) t.y := ⟨_, rfl⟩
          rw [← hps] at HA
          have HPS := Lib.hid hps
          have hpl : ps.length = t.l.length := by rw [hps, psY_len, psAll_len]
          clear hps
          have hrp : rn < ps.length := by omega
          have r0 : (0 : Int) ≤ (rn : Int) := by omega
          have r1 : (rn : Int) < (t.l.length : Int) := by omega
          have r2 : (rn : Int) < (ps.length : Int) := by omega
          have x3 : wr.cell? ⟨g, 3, none⟩ = some (.slice (some ⟨pb, 0, none⟩) ps.length ps.length) := HA.out.ask.cell 3
          have x2 : wr.cell? ⟨xb, 2, none⟩ = some (.int .i64 (rn : Int)) := by rw [← hrn, ← HR.out]; exact (HX.out.next HA.out.low).cell 2
          have pa : wr.cell? ⟨pb, rn, none⟩ = some (.int .i64 ps[rn]) := by
            rw [HA.out.cnt.cell rn]
            simp [intV, List.getElem?_eq_getElem hrp]
          have fz := HA.out.cnt.frozen rn
          have HA1 := Lib.hid (HA.out.bumped hrp)
          have HAd := Lib.hid (show AskIs w0 wr.drew g pb A A' c c' t ps from ⟨HA.out.ask, HA.out.cnt, HA.out.le, Below.drew HA.out.low⟩)
          generalize ps[rn] = v0 at pa HA1
          refine wp_region_last (S := fun V => V.cell? ⟨g, 3, none⟩ = some (.slice (some ⟨pb, 0, none⟩) ps.length ps.length) ∧ V.cell? ⟨xb, 2, none⟩ = some (.int .i64 (rn : Int)) ∧ V.cell? ⟨pb, rn, none⟩ = some (.int .i64 v0) ∧ V.frozen? ⟨pb, rn, none⟩ = false) 10 (by kernel_rfl) (by kernel_rfl) (by kernel_rfl) (by kernel_rfl) ⟨x3, x2, pa, fz⟩ (fun hHeld => ?_)
          clear x3 x2 pa fz
          refine tkH 0 84 ?_ rfl ?_ ?_
          rotate_left
          · rintro V ⟨z0, z1, z2, z3⟩; go_simp; try with_reducible rfl
          try simp only [Act.put, sLA, sL0, sL1]
          refine tkH 1 85 ?_ rfl ?_ ?_
          rotate_left
          · rintro V ⟨z0, z1, z2, z3⟩; go_simp; try with_reducible rfl
          try simp only [Act.put, sLA, sL0, sL1]
          refine tkH 2 86 ?_ rfl ?_ ?_
          rotate_left
          · rintro V ⟨z0, z1, z2, z3⟩; go_simp; try with_reducible rfl
          try simp only [Act.put, sLA, sL0, sL1]
          refine tkH 3 87 ?_ rfl ?_ ?_
          rotate_left
          · rintro V ⟨z0, z1, z2, z3⟩; go_simp; try with_reducible rfl
          try simp only [Act.put, sLA, sL0, sL1]
          refine tkH 4 88 ?_ rfl ?_ ?_
          rotate_left
          · rintro V ⟨z0, z1, z2, z3⟩; go_simp; try with_reducible rfl
          try simp only [Act.put, sLA, sL0, sL1]
          refine tkH 5 89 ?_ rfl ?_ ?_
          rotate_left
          · rintro V ⟨z0, z1, z2, z3⟩; go_simp; try with_reducible rfl
          try simp only [Act.put, sLA, sL0, sL1]
          refine tkH 6 90 ?_ rfl ?_ ?_
          rotate_left
          · rintro V ⟨z0, z1, z2, z3⟩; go_simp; try with_reducible rfl
          try simp only [Act.put, sLA, sL0, sL1]
          refine tkH 7 91 ?_ rfl ?_ ?_
          rotate_left
          · rintro V ⟨z0, z1, z2, z3⟩; go_simp; try with_reducible rfl
          try simp only [Act.put, sLA, sL0, sL1]
          refine tkH 8 92 ?_ rfl ?_ ?_
          rotate_left
          · rintro V ⟨z0, z1, z2, z3⟩; go_simp; try with_reducible rfl
          try simp only [Act.put, sLA, sL0, sL1]
          refine tkH 9 93 ?_ rfl ?_ ?_
          rotate_left
          · rintro V ⟨z0, z1, z2, z3⟩; go_simp; try with_reducible rfl
          try simp only [Act.put, sLA, sL0, sL1]
          refine wpAnyH_done (by kernel_rfl) ?_ _
          refine lastPost_run (o := ⟨none, _, _, _, _, _⟩) rfl (fun K hK => ?_)
          obtain ⟨z0, z1, z2, z3⟩ := hHeld
          go_simp
          refine hK.out _ _ ?_
          clear hK K
          have hPE : ps.modify rn bump = psEnd t := by unfold psEnd; rw [HR.out, hrn, show ((rn : Nat) : Int).toNat = rn from rfl, ← HPS.out]
          rw [show IntKind.i64.wrap (v0 + 1) = wrap64 (v0 + 1) by rw [IntKind.wrap_i64]; unfold wrap64; rfl]
          have HA2 := Lib.hid (show AskIs w0 (wr.setCell ⟨pb, rn, none⟩ (.int .i64 (wrap64 (v0 + 1)))).drew g pb A A' c c' t (psEnd t) from by rw [← hPE]; exact ⟨HA1.out.ask, HA1.out.cnt, HA1.out.le, Below.drew HA1.out.low⟩)
          have hql : (psEnd t).length = t.l.length := by rw [← hPE, List.length_modify, hpl]
          generalize (wr.setCell ⟨pb, rn, none⟩ (.int .i64 (wrap64 (v0 + 1)))).drew = w7 at HA2 ⊢
          clear z0 z1 z2 z3 hPE HPS HA1 HAd HA hrp hpl r2
          have x3 : w7.cell? ⟨g, 3, none⟩ = some (.slice (some ⟨pb, 0, none⟩) (psEnd t).length (psEnd t).length) := HA2.out.ask.cell 3
          obtain ⟨pe, hpe⟩ : ∃ pe, pe = psEnd t := ⟨_, rfl⟩
          rw [← hpe] at x3 hql HA2
          have HPE := Lib.hid hpe
          have HQL := Lib.hid hql
          clear hpe
          go_wp2_with fail
          clear x3
          go_loopw [99] (fun i wr => ∃ j : Nat, j ≤ t.l.length ∧ i = .int .i64 j ∧ wr = w7 ∧ ∀ i, i < j → ∀ v, pe[i]? = some v → v = 1) (fun i _ => t.l.length - (intOf i).toNat)
          case atStart => exact ⟨0, by omega, rfl, rfl, fun i h => absurd h (by omega)⟩
          case round =>
            obtain ⟨j, hj, rfl, rfl, hone⟩ := hrel
            have HO := Lib.hid hone
            clear hone
            by_cases hlt : j < t.l.length
            · have hlk : (j : Int) < (t.l.length : Int) := by omega
              have hj0 : (0 : Int) ≤ (j : Int) := by omega
              have hjp : j < pe.length := by omega
              have hpj : pe[j]? = some pe[j] := List.getElem?_eq_getElem hjp
              have pa : wr.cell? ⟨pb, j, none⟩ = some (.int .i64 pe[j]) := by
                rw [HA2.out.cnt.cell j]
                simp [intV, hpj]
              generalize pe[j] = v at hpj pa
              have HPJ := Lib.hid hpj
              clear hpj
              by_cases hv : v = 1
              · have f1 : (v == 1) = true := beq_iff_eq.2 hv
                have f2 : (v != 1) = false := by rw [hv]; rfl
                have HV := Lib.hid hv
                clear hv
                go_wp2_with fail
                go_roundw
                case rel => exact ⟨j + 1, by omega, by go_num, by first | rfl | trivial, fun i hi u hu => by
                    by_cases hij : i = j
                    · subst hij
                      have e9 := HPJ.out
                      rw [hu] at e9
                      obtain rfl := Option.some.inj e9
                      exact HV.out
                    · exact HO.out i (by omega) u hu⟩
                case measure => simp [intOf]; omega
              · have f1 : (v == 1) = false := beq_false_of_ne hv
                have f2 : (v != 1) = true := bne_iff_ne.2 hv
                have HV := Lib.hid hv
                clear hv
                go_wp2_with fail
                go_ret
                exact GoodX.no (next_ HB0.out HA2.out.low) (fun h _ => HV.out (h.ones v (by rw [← HPE.out]; exact List.mem_of_getElem? HPJ.out)))
            · obtain rfl : j = t.l.length := by omega
              have hlk : ¬ ((t.l.length : Int) < (t.l.length : Int)) := by omega
              go_upto_region 26 with fail
              have hxr : t.l[rn]? = some t.l[rn] := List.getElem?_eq_getElem hrl
              generalize t.l[rn] = x at hxr
              have HXR := Lib.hid hxr
              obtain ⟨k1, k2⟩ := of_in (HOKN.out rn hrl x hxr).1
              obtain ⟨kk, hkk⟩ : ∃ kk : Nat, x.k = (kk : Int) := ⟨x.k.toNat, by omega⟩
              obtain ⟨r, hr⟩ := rows_at (k := kk) (by omega)
              have hgd : (rowsL.getD x.k.toNat zeroR).is_ = r.is_ := by rw [show x.k.toNat = kk by omega, List.getD_eq_getElem?_getD, hr]; rfl
              have HGD := Lib.hid hgd
              have hc0 : wr.cell? ⟨0, kk * 8, none⟩ = some (.int .u8 r.is_) := by
                have h9 := (HS.out.ast.next HA2.out.low).at_ hr 0 _ rfl
                simpa [Addr.add] using h9
              obtain ⟨ad, rfl, _, hcs⟩ := (HT.out.next HA2.out.low).nodes.nodAt hxr
              have a0 : wr.cell? (ad.add (rn * 8)) = some (.int .i64 (kk : Int)) := by have h9 := hcs 0 _ rfl; rw [add_of_add, hkk] at h9; simpa using h9
              have j0 : (0 : Int) ≤ (kk : Int) := by omega
              have j1 : (kk : Int) < 44 := by omega
              have x0 : wr.cell? ⟨xb, 0, none⟩ = some (.slice (some ad) t.l.length c) := (HX.out.next HA2.out.low).cell 0
              have x2 : wr.cell? ⟨xb, 2, none⟩ = some (.int .i64 (rn : Int)) := by rw [← hrn, ← HR.out]; exact (HX.out.next HA2.out.low).cell 2
              have HRN := Lib.hid hrn
              clear hcs hxr hgd hr hkk k1 k2 hrn
              by_cases hi : r.is_ = 101
              · have f1 : (r.is_ == 101) = true := beq_iff_eq.2 hi
                have HI := Lib.hid hi
                rw [hi] at hc0
                clear hi
                go_wp2_with fail
                go_ret
                exact ⟨_, rfl, next_ HB0.out HA2.out.low, fun _ => ⟨⟨by omega, by omega, HR.out, HOKN.out, HOK.out, fun v hv => by
                    rw [← HPE.out] at hv
                    obtain ⟨i, hi, hiv⟩ := List.mem_iff_getElem.1 hv
                    exact HO.out i (by have := HQL.out; omega) v (by rw [List.getElem?_eq_getElem hi, hiv]), fun y hy => by
                    have e8 := HRN.out
                    rw [show t.l.length - 1 = rn by omega, HXR.out] at hy
                    obtain rfl := Option.some.inj hy
                    rw [HGD.out, HI.out]⟩, AllX.of HNX.out⟩, fun _ _ => rfl⟩
              · have f1 : (r.is_ == 101) = false := beq_false_of_ne hi
                have HI := Lib.hid hi
                clear hi
                go_wp2_with fail
                go_ret
                refine GoodX.no (next_ HB0.out HA2.out.low) (fun h _ => HI.out ?_)
                have h9 := h.is_ x (by rw [show t.l.length - 1 = rn by have := HRN.out; omega]; exact HXR.out)
                rw [HGD.out] at h9
                exact h9
set_option maxRecDepth 100000 in
set_option maxHeartbeats 4000000 in
theorem c59 (s : ByteArray) (hs : s.size ≤ 3000) (w : World) : Calls Tryd.prog 59 #[.string s] w (BoolEnd w) := by
  go_enter Tryd.func59, Tryd.ntmps59
  go_wp2_with fail
  generalize hall : (ByteArray.mk (List.toArray (List.append _ _))) = all
  have hz : all.size = 160 := by rw [← hall]; rfl
  clear hall
  go_loopw [4] (fun i wr => ∃ k : Nat, k ≤ 160 ∧ i = .int .i64 k ∧ Below w.heap.size w wr) (fun i _ => 160 - (intOf i).toNat)
  case atStart => exact ⟨0, by omega, rfl, Below.refl _ _⟩
  case round =>
    obtain ⟨k, hk, rfl, hb⟩ := hrel
    have HB := Lib.hid hb
    clear hb
    have w1 : wrap64 ((k : Int) + (s.size : Int)) = ((k + s.size : Nat) : Int) := by unfold wrap64; omega
    have w2 : wrap64 (((k + s.size : Nat) : Int) + 2) = ((k + s.size + 2 : Nat) : Int) := by unfold wrap64; omega
    by_cases hlt : k + s.size + 2 ≤ 160
    · have hle : ((k + s.size + 2 : Nat) : Int) ≤ 160 := by omega
      have hk0 : (0 : Int) ≤ (k : Int) := by omega
      have hkk : (k : Int) ≤ (k : Int) + (s.size : Int) + 2 := by omega
      have hkz : (k : Int) + (s.size : Int) + 2 ≤ 160 := by omega
      go_wp2_with fail
      · go_ret
        exact ⟨_, rfl, HB.out⟩
      · exact ⟨⟨k + 1, by omega, by go_num, HB.out⟩, by simp [intOf]; omega⟩
    · have hle : ¬ ((k : Int) + (s.size : Int) + 2 ≤ 160) := by omega
      go_wp2_with fail
      go_ret
      exact ⟨_, rfl, HB.out⟩
def ParseEnd (w : World) (e : Ending) (w' : World) : Prop := ∃ (v : Int) (r : Bool), e = .returned (.agg #[.int .i64 v, .bool r]) ∧ Below w.heap.size w w'
theorem row2 {w : World} {b : Nat} {t : TypeId} {u0 u1 v0 v1 : Value} (h : Blk w b t #[u0, u1]) : Blk ((w.setCell ⟨b, 0, none⟩ v0).setCell ⟨b, 1, none⟩ v1) b t #[v0, v1] := by
  have h1 := (h.set_ 0 v0).set_ 1 v1
  simpa only [List.setIfInBounds_toArray, List.set_cons_zero, List.set_cons_succ] using h1
theorem low2 {w a : World} {B b : Nat} {v0 v1 : Value} (hB : B ≤ b) (h : Below B a w) : Below B a ((w.setCell ⟨b, 0, none⟩ v0).setCell ⟨b, 1, none⟩ v1) :=
  (h.setCell (p := ⟨b, 0, none⟩) hB v0).setCell (p := ⟨b, 1, none⟩) hB v1
set_option maxRecDepth 100000 in
set_option maxHeartbeats 4000000 in
theorem c61 (s : ByteArray) (hs : s.size ≤ 3000) (w : World) : Calls Tryd.prog 61 #[.string s] w (ParseEnd w) := by
  have hR := Blk.new w 112 #[.int .i64 0, .bool false]
  have hB := below_new w (.cells #[.int .i64 0, .bool false] 112)
  go_enter Tryd.func61, Tryd.ntmps61
  go_upto_region 1 with fail
  generalize w.alloc (.cells #[.int .i64 0, .bool false] 112) = w1 at hR hB ⊢
  have HR := Lib.hid hR
  have HB := Lib.hid hB
  have HLE := Lib.hid (Nat.le_refl w.heap.size)
  generalize hrb : w.heap.size = rb at HR ⊢
  have HLE := Lib.hid (show w.heap.size ≤ rb by omega)
  clear hR hB hrb
  have r0 : w1.cell? ⟨rb, 0, none⟩ = some (.int .i64 0) := HR.out.cell 0
  have r1 : w1.cell? ⟨rb, 1, none⟩ = some (.bool false) := HR.out.cell 1
  have f0 := HR.out.frozen 0
  have f1 := HR.out.frozen 1
  go_wp2_with fail
  any_goals (exact bodyPost_ret (results_cell_row rfl _ _ _ 112 _ (0, 0) _ rfl (row2 HR.out) Tryd.underlying112 rfl (by kernel_rfl)) rfl ⟨_, _, rfl, low2 HLE.out HB.out⟩)
  go_loopw [3, 4] (fun n i wr => ∃ (k : Nat) (m : Int), k ≤ s.size ∧ i = .int .i64 k ∧ n = .int .u64 m ∧ wr = w1) (fun _ i _ => s.size - (intOf i).toNat)
  case atStart => exact ⟨0, 0, by omega, rfl, rfl, rfl⟩
  case round =>
    obtain ⟨k, m, hk, rfl, rfl, rfl⟩ := hrel
    by_cases hlt : k < s.size
    · have hlk : (k : Int) < (s.size : Int) := by omega
      have hk0 : (0 : Int) ≤ (k : Int) := by omega
      go_wp2_with fail
      any_goals (exact bodyPost_ret (results_cell_row rfl _ _ _ 112 _ (0, 0) _ rfl (row2 HR.out) Tryd.underlying112 rfl (by kernel_rfl)) rfl ⟨_, _, rfl, low2 HLE.out HB.out⟩)
      all_goals exact ⟨⟨k + 1, _, by omega, by go_num, rfl, by first | rfl | trivial⟩, by simp [intOf]; omega⟩
    · obtain rfl : k = s.size := by omega
      have hlk : ¬ ((s.size : Int) < (s.size : Int)) := by omega
      go_wp2_with fail
      all_goals (exact bodyPost_ret (results_cell_row rfl _ _ _ 112 _ (0, 0) _ rfl (row2 HR.out) Tryd.underlying112 rfl (by kernel_rfl)) rfl ⟨_, _, rfl, low2 HLE.out HB.out⟩)
def SignEnd (s : ByteArray) (w : World) (e : Ending) (w' : World) : Prop := ∃ n : Nat, e = .returned (.int .i64 (n : Int)) ∧ n ≤ s.size ∧ Below w.heap.size w w'
set_option maxRecDepth 100000 in
set_option maxHeartbeats 4000000 in
theorem c63 (s : ByteArray) (h1 : 1 ≤ s.size) (hs : s.size ≤ 3000) (w : World) : Calls Tryd.prog 63 #[.string s] w (SignEnd s w) := by
  have i1 : (1 : Int) ≤ (s.size : Int) := by omega
  have H1 := Lib.hid h1
  by_cases h2 : 2 ≤ s.size
  · have i2 : (2 : Int) ≤ (s.size : Int) := by omega
    have H2 := Lib.hid h2
    go_enter Tryd.func63, Tryd.ntmps63
    go_wp2_with fail
    any_goals (go_ret; exact ⟨2, rfl, H2.out, Below.refl _ _⟩)
    all_goals (
      go_loopw [3] (fun i wr => ∃ k : Nat, k ≤ 16 ∧ i = .int .i64 k ∧ Below w.heap.size w wr) (fun i _ => 16 - (intOf i).toNat)
      case atStart => exact ⟨0, by omega, rfl, Below.refl _ _⟩
      case round =>
        obtain ⟨k, hk, rfl, hb⟩ := hrel
        have HB := Lib.hid hb
        clear hb
        by_cases hlt : k < 16
        · have hlk : (k : Int) < 16 := by omega
          have hk0 : (0 : Int) ≤ (k : Int) := by omega
          have hi0 : (0 : Int) < (s.size : Int) := by omega
          have hi1 : 0 < s.size := by omega
          go_upto_region 10 with fail
          generalize hq : (ByteArray.mk #[40, 41, 91, 93, 44, 59, 124, 95, 33, 61, 43, 42, 47, 37, 94, 60]) = sg
          have hsg : sg.size = 16 := by rw [← hq]; rfl
          clear hq
          have hks : k < sg.size := by omega
          have HB2 := Lib.hid (Below.drew HB.out)
          refine wp_region_held_drew (S := fun V => True) (by kernel_rfl) trivial (fun hHeld => ?_)
          refine tkH 0 17 ?_ rfl ?_ ?_
          rotate_left
          · intro V hSw
            go_simp
            try with_reducible rfl
          try simp only [Act.put, sLA, sL0, sL1]
          refine tkH 1 18 ?_ rfl ?_ ?_
          rotate_left
          · intro V hSw
            go_simp
            try with_reducible rfl
          try simp only [Act.put, sLA, sL0, sL1]
          refine tkH 2 19 ?_ rfl ?_ ?_
          rotate_left
          · intro V hSw
            go_simp
            try with_reducible rfl
          try simp only [Act.put, sLA, sL0, sL1]
          refine tkH 3 20 ?_ rfl ?_ ?_
          rotate_left
          · intro V hSw
            go_simp
            try with_reducible rfl
          try simp only [Act.put, sLA, sL0, sL1]
          refine tkH 4 21 ?_ rfl ?_ ?_
          rotate_left
          · intro V hSw
            go_simp
            try with_reducible rfl
          try simp only [Act.put, sLA, sL0, sL1]
          refine wpAnyH_done (by kernel_rfl) ?_ _
          generalize wr.drew = wd at HB2 ⊢
          go_wp2_with fail
          any_goals (go_ret; exact ⟨1, rfl, H1.out, HB2.out⟩)
          all_goals exact ⟨⟨k + 1, by omega, by go_num, HB2.out⟩, by simp [intOf]; omega⟩
        · obtain rfl : k = 16 := by omega
          have hi0 : (0 : Int) < (s.size : Int) := by omega
          have hi1 : 0 < s.size := by omega
          go_wp2_with fail
          all_goals first
            | (go_ret; exact ⟨1, rfl, H1.out, HB.out⟩)
            | (go_ret; exact ⟨0, rfl, Nat.zero_le _, HB.out⟩))
  · have i2 : ¬ (2 : Int) ≤ (s.size : Int) := by omega
    go_enter Tryd.func63, Tryd.ntmps63
    go_wp2_with fail
    all_goals (
      go_loopw [3] (fun i wr => ∃ k : Nat, k ≤ 16 ∧ i = .int .i64 k ∧ Below w.heap.size w wr) (fun i _ => 16 - (intOf i).toNat)
      case atStart => exact ⟨0, by omega, rfl, Below.refl _ _⟩
      case round =>
        obtain ⟨k, hk, rfl, hb⟩ := hrel
        have HB := Lib.hid hb
        clear hb
        by_cases hlt : k < 16
        · have hlk : (k : Int) < 16 := by omega
          have hk0 : (0 : Int) ≤ (k : Int) := by omega
          have hi0 : (0 : Int) < (s.size : Int) := by omega
          have hi1 : 0 < s.size := by omega
          go_upto_region 10 with fail
          generalize hq : (ByteArray.mk #[40, 41, 91, 93, 44, 59, 124, 95, 33, 61, 43, 42, 47, 37, 94, 60]) = sg
          have hsg : sg.size = 16 := by rw [← hq]; rfl
          clear hq
          have hks : k < sg.size := by omega
          have HB2 := Lib.hid (Below.drew HB.out)
          refine wp_region_held_drew (S := fun V => True) (by kernel_rfl) trivial (fun hHeld => ?_)
          refine tkH 0 17 ?_ rfl ?_ ?_
          rotate_left
          · intro V hSw
            go_simp
            try with_reducible rfl
          try simp only [Act.put, sLA, sL0, sL1]
          refine tkH 1 18 ?_ rfl ?_ ?_
          rotate_left
          · intro V hSw
            go_simp
            try with_reducible rfl
          try simp only [Act.put, sLA, sL0, sL1]
          refine tkH 2 19 ?_ rfl ?_ ?_
          rotate_left
          · intro V hSw
            go_simp
            try with_reducible rfl
          try simp only [Act.put, sLA, sL0, sL1]
          refine tkH 3 20 ?_ rfl ?_ ?_
          rotate_left
          · intro V hSw
            go_simp
            try with_reducible rfl
          try simp only [Act.put, sLA, sL0, sL1]
          refine tkH 4 21 ?_ rfl ?_ ?_
          rotate_left
          · intro V hSw
            go_simp
            try with_reducible rfl
          try simp only [Act.put, sLA, sL0, sL1]
          refine wpAnyH_done (by kernel_rfl) ?_ _
          generalize wr.drew = wd at HB2 ⊢
          go_wp2_with fail
          any_goals (go_ret; exact ⟨1, rfl, H1.out, HB2.out⟩)
          all_goals exact ⟨⟨k + 1, by omega, by go_num, HB2.out⟩, by simp [intOf]; omega⟩
        · obtain rfl : k = 16 := by omega
          have hi0 : (0 : Int) < (s.size : Int) := by omega
          have hi1 : 0 < s.size := by omega
          go_wp2_with fail
          all_goals first
            | (go_ret; exact ⟨1, rfl, H1.out, HB.out⟩)
            | (go_ret; exact ⟨0, rfl, Nat.zero_le _, HB.out⟩))
def sB (x : Int) : Bool := (decide (97 ≤ x) && decide (x ≤ 122)) || x == 95
def vB (x : Int) : Bool := sB x || gB x || dB x
set_option maxRecDepth 100000 in
set_option maxHeartbeats 4000000 in
theorem c57 (x : Int) (w : World) : Calls Tryd.prog 57 #[.int .u8 x] w fun e w' => e = .returned (.bool (gB x)) ∧ w = w' := by
  by_cases h1 : 65 ≤ x
  · by_cases h2 : x ≤ 90
    · have H := Lib.hid (show gB x = true by simp [gB, h1, h2])
      go_enter Tryd.func57, Tryd.ntmps57
      go_wp2_with fail
      go_ret
      exact ⟨by rw [H.out]; rfl, rfl⟩
    · have H := Lib.hid (show gB x = false by simp [gB, h1, h2])
      go_enter Tryd.func57, Tryd.ntmps57
      go_wp2_with fail
      go_ret
      exact ⟨by rw [H.out]; rfl, rfl⟩
  · have H := Lib.hid (show gB x = false by simp [gB, h1])
    go_enter Tryd.func57, Tryd.ntmps57
    go_wp2_with fail
    go_ret
    exact ⟨by rw [H.out]; rfl, rfl⟩
set_option maxRecDepth 100000 in
set_option maxHeartbeats 4000000 in
theorem c60 (x : Int) (w : World) : Calls Tryd.prog 60 #[.int .u8 x] w fun e w' => e = .returned (.bool (dB x)) ∧ w = w' := by
  by_cases h1 : 48 ≤ x
  · by_cases h2 : x ≤ 57
    · have H := Lib.hid (show dB x = true by simp [dB, h1, h2])
      go_enter Tryd.func60, Tryd.ntmps60
      go_wp2_with fail
      go_ret
      exact ⟨by rw [H.out]; rfl, rfl⟩
    · have H := Lib.hid (show dB x = false by simp [dB, h1, h2])
      go_enter Tryd.func60, Tryd.ntmps60
      go_wp2_with fail
      go_ret
      exact ⟨by rw [H.out]; rfl, rfl⟩
  · have H := Lib.hid (show dB x = false by simp [dB, h1])
    go_enter Tryd.func60, Tryd.ntmps60
    go_wp2_with fail
    go_ret
    exact ⟨by rw [H.out]; rfl, rfl⟩
set_option maxRecDepth 100000 in
set_option maxHeartbeats 4000000 in
theorem c56 (x : Int) (w : World) : Calls Tryd.prog 56 #[.int .u8 x] w fun e w' => e = .returned (.bool (sB x)) ∧ w = w' := by
  by_cases h5 : x = 95
  · subst h5
    have H := Lib.hid (show sB 95 = true by rfl)
    go_enter Tryd.func56, Tryd.ntmps56
    go_wp2_with fail
    go_ret
    exact ⟨by rw [H.out]; rfl, rfl⟩
  have f5 : (x == 95) = false := beq_false_of_ne h5
  by_cases h1 : 97 ≤ x
  · by_cases h2 : x ≤ 122
    · skip
      have H := Lib.hid (show sB x = true by simp [sB, h1, h2])
      go_enter Tryd.func56, Tryd.ntmps56
      go_wp2_with fail
      go_ret
      exact ⟨by rw [H.out]; rfl, rfl⟩
    · skip
      have H := Lib.hid (show sB x = false by simp [sB, h1, h2, f5])
      go_enter Tryd.func56, Tryd.ntmps56
      go_wp2_with fail
      go_ret
      exact ⟨by rw [H.out]; rfl, rfl⟩
  · skip
    have H := Lib.hid (show sB x = false by simp [sB, h1, f5])
    go_enter Tryd.func56, Tryd.ntmps56
    go_wp2_with fail
    go_ret
    exact ⟨by rw [H.out]; rfl, rfl⟩
set_option maxRecDepth 100000 in
set_option maxHeartbeats 4000000 in
theorem c58 (x : Int) (w : World) : Calls Tryd.prog 58 #[.int .u8 x] w fun e w' => e = .returned (.bool (vB x)) ∧ w = w' := by
  have C1 := Lib.hid (c56 x w)
  have C2 := Lib.hid (c57 x w)
  have C3 := Lib.hid (c60 x w)
  go_enter Tryd.func58, Tryd.ntmps58
  go_wp2_with fail
  refine C1.out.mono ?_
  rintro e _ ⟨rfl, rfl⟩
  cases h1 : sB x with
  | true =>
    have H := Lib.hid (show vB x = true by unfold vB; rw [h1]; rfl)
    clear h1
    go_wp2_with fail
    go_ret
    exact ⟨by rw [H.out]; rfl, rfl⟩
  | false =>
    have H1 := Lib.hid h1
    clear h1
    go_wp2_with fail
    refine C2.out.mono ?_
    rintro e _ ⟨rfl, rfl⟩
    cases h2 : gB x with
    | true =>
      have H := Lib.hid (show vB x = true by unfold vB; rw [H1.out, h2]; rfl)
      clear h2
      go_wp2_with fail
      go_ret
      exact ⟨by rw [H.out]; rfl, rfl⟩
    | false =>
      have H := Lib.hid (show vB x = dB x by unfold vB; rw [H1.out, h2]; rfl)
      clear h2
      go_wp2_with fail
      refine C3.out.mono ?_
      rintro e _ ⟨rfl, rfl⟩
      go_wp2_with fail
      go_ret
      exact ⟨by rw [H.out]; rfl, rfl⟩
structure Tok where
  k : Int
  s : ByteArray
  at_ : Int
def tokC (t : Tok) : List Value := [.int .i64 t.k, .string t.s, .int .i64 t.at_]
theorem tok_one (l : List Tok) : ∀ u ∈ l.flatMap tokC, u.oneCell' = true := fun u hu => by
  obtain ⟨p, _, h⟩ := List.mem_flatMap.1 hu
  simp [tokC] at h
  rcases h with rfl | rfl | rfl <;> rfl
theorem tok_info : (Tryd.prog.info? 109).map (fun i => (i.zero, i.size, i.bytes)) = some (some (.agg #[.int .i64 0, .string ⟨#[]⟩, .int .i64 0]), 3, 32) := by kernel_rfl
structure TokSt (w0 w : World) (gb rb : Nat) (A : Option Addr) (c : Nat) (T : List Tok) : Prop where
  g : Blk w gb 92 #[.slice A T.length c, .int .i64 0, .int .i64 0]
  r : Blk w rb 92 #[.slice none 0 0, .int .i64 0, .int .i64 0]
  own : w.ownsRow w0.heap.size 109 3 (.slice A T.length c) T.length (T.flatMap tokC)
  low : Below w0.heap.size w0 w
  gle : w0.heap.size ≤ gb
  rle : w0.heap.size ≤ rb
  ne : gb ≠ rb
theorem TokSt.next {w0 w w' : World} {gb rb : Nat} {A : Option Addr} {c : Nat} {T : List Tok} (h : TokSt w0 w gb rb A c T) (hb : Below w.heap.size w w') : TokSt w0 w' gb rb A c T :=
  ⟨h.g.next hb, h.r.next hb, own_next h.own hb, next_ h.low hb, h.gle, h.rle, h.ne⟩
theorem TokSt.tok {w0 w : World} {gb rb tb : Nat} {A : Option Addr} {c : Nat} {T : List Tok} {cs : Array Value} (h : TokSt w0 w gb rb A c T) (hb : Blk w tb 109 cs) (hn : (Value.slice A T.length c).ownBlock ≠ some tb) (hl : w0.heap.size ≤ tb) (i : Nat) (u : Value) :
    TokSt w0 (w.setCell ⟨tb, i, none⟩ u) gb rb A c T :=
  ⟨h.g.far (h.g.ne_ hb (by decide)) _, h.r.far (h.r.ne_ hb (by decide)) _, h.own.kept (grown_set w tb i u) (.inr hn), h.low.setCell (p := ⟨tb, i, none⟩) hl _, h.gle, h.rle, h.ne⟩
theorem TokSt.fresh {w0 w : World} {gb rb tb : Nat} {A : Option Addr} {c : Nat} {T : List Tok} (h : TokSt w0 w gb rb A c T) (hb : w.heap.size ≤ tb) : (Value.slice A T.length c).ownBlock ≠ some tb := fun e => by
  have := (h.own.lt tb e).2
  omega
theorem TokSt.push {w0 w w' : World} {gb rb : Nat} {A : Option Addr} {c : Nat} {T : List Tok} (h : TokSt w0 w gb rb A c T) (x : Tok) {v' : Value} (o : w'.ownsRow w0.heap.size 109 3 v' (T.length + 1) (T.flatMap tokC ++ tokC x))
    (g : w.grownBy w' (Value.ownBlock (.slice A T.length c))) : ∃ A' c', v' = .slice A' (T ++ [x]).length c' ∧ TokSt w0 (w'.setCell ⟨gb, 0, none⟩ v') gb rb A' c' (T ++ [x]) ∧ Blk w' gb 92 #[.slice A T.length c, .int .i64 0, .int .i64 0] := by
  have o' : w'.ownsRow w0.heap.size 109 3 v' (T ++ [x]).length ((T ++ [x]).flatMap tokC) := by
    rw [List.flatMap_append, List.length_append]
    simpa using o
  obtain ⟨A', c', rfl⟩ := own_form o'
  have hg := blk_row h.g h.own g (by decide)
  have hr := blk_row h.r h.own g (by decide)
  have hs := hg.set_ 0 (.slice A' (T ++ [x]).length c')
  simp only [sLA, sL0, sL1] at hs
  refine ⟨A', c', rfl, ⟨hs, hr.far (p := ⟨gb, 0, none⟩) (fun e => h.ne e.symm) _, own_set o' hg (by decide), ?_, h.gle, h.rle, h.ne⟩, hg⟩
  exact (h.low.grown g h.low.size (fun k hk => (h.own.lt k hk).1)).setCell (p := ⟨gb, 0, none⟩) h.gle _
theorem row3 {w : World} {b : Nat} {t : TypeId} {u0 u1 u2 v0 v1 v2 : Value} (h : Blk w b t #[u0, u1, u2]) : Blk (((w.setCell ⟨b, 0, none⟩ v0).setCell ⟨b, 1, none⟩ v1).setCell ⟨b, 2, none⟩ v2) b t #[v0, v1, v2] := by
  have h1 := ((h.set_ 0 v0).set_ 1 v1).set_ 2 v2
  simpa only [List.setIfInBounds_toArray, List.set_cons_zero, List.set_cons_succ] using h1
theorem low3 {w a : World} {B b : Nat} {v0 v1 v2 : Value} (hB : B ≤ b) (h : Below B a w) : Below B a (((w.setCell ⟨b, 0, none⟩ v0).setCell ⟨b, 1, none⟩ v1).setCell ⟨b, 2, none⟩ v2) :=
  ((h.setCell (p := ⟨b, 0, none⟩) hB v0).setCell (p := ⟨b, 1, none⟩) hB v1).setCell (p := ⟨b, 2, none⟩) hB v2
def TokEnd (w : World) (e : Ending) (w' : World) : Prop := ∃ (T : List Tok) (A : Option Addr) (c : Nat) (x y : Int), e = .returned (.agg #[.slice A T.length c, .int .i64 x, .int .i64 y]) ∧ Reads w' w'.heap.size 3 A T.length (T.flatMap tokC) ∧ Below w.heap.size w w'
theorem TokSt.none_ {w0 w : World} {gb rb : Nat} {A : Option Addr} {c : Nat} {T : List Tok} (h : TokSt w0 w gb rb A c T) (x y : Int) :
    TokEnd w0 (.returned (.agg #[.slice none 0 0, .int .i64 x, .int .i64 y])) (((w.setCell ⟨rb, 0, none⟩ (.slice none 0 0)).setCell ⟨rb, 1, none⟩ (.int .i64 x)).setCell ⟨rb, 2, none⟩ (.int .i64 y)) :=
  ⟨[], none, 0, x, y, rfl, Reads.none_, low3 h.rle h.low⟩
theorem TokSt.all_ {w0 w : World} {gb rb : Nat} {A : Option Addr} {c : Nat} {T : List Tok} (h : TokSt w0 w gb rb A c T) (x y : Int) :
    TokEnd w0 (.returned (.agg #[.slice A T.length c, .int .i64 x, .int .i64 y])) (((w.setCell ⟨rb, 0, none⟩ (.slice A T.length c)).setCell ⟨rb, 1, none⟩ (.int .i64 x)).setCell ⟨rb, 2, none⟩ (.int .i64 y)) := by
  refine ⟨T, A, c, x, y, rfl, ?_, low3 h.rle h.low⟩
  have r1 := h.r.set_ 0 (.slice A T.length c)
  have r2 := r1.set_ 1 (.int .i64 x)
  exact Reads.of_own (own_set (own_set (own_set h.own h.r (by decide)) r1 (by decide)) r2 (by decide))
structure Rd where
  L : List Tok
  en : Int
  at_ : Nat
  nodes : List Nod
  types : List Int
  deep : Nat
def req {α : Type} (b : Bool) (x : Option α) : Option α := if b then x else none
theorem req_some {α : Type} {b : Bool} {x : Option α} {y : α} : req b x = some y ↔ b = true ∧ x = some y := by
  unfold req
  cases b <;> simp
def isF (k : Int) (s : ByteArray) (S : Rd) : Bool := match S.L[S.at_]? with
  | some t => t.k == k && (s == ⟨#[]⟩ || t.s == s)
  | none => false
def takeF (k : Int) (s : ByteArray) (S : Rd) : Option (Rd × Tok) := req (isF k s S) ((S.L[S.at_]?).map fun t => ({ S with at_ := S.at_ + 1 }, t))
def hereF (S : Rd) : Int := match S.L[S.at_]? with
  | some t => t.at_
  | none => S.en
def nodeF (x : Nod) (S : Rd) : Option (Rd × Int) := req (decide (S.nodes.length < 500)) (some ({ S with nodes := S.nodes ++ [x] }, (S.nodes.length : Int)))
def openF (S : Rd) : Option Rd := req (decide (S.deep < 160)) (some { S with deep := S.deep + 1 })
def closeF (S : Rd) : Option Rd := req (decide (0 < S.deep)) (some { S with deep := S.deep - 1 })
structure Rw where
  A : Option Addr
  c : Nat
  A' : Option Addr
  c' : Nat
abbrev blkOf (A : Option Addr) : Option Nat := A.map Addr.block
theorem own_blkOf (A : Option Addr) (n c : Nat) : (Value.slice A n c).ownBlock = blkOf A := by cases A <;> rfl
def rdC (AL : Option Addr) (cL : Nat) (S : Rd) (R : Rw) : Array Value :=
  #[.slice AL S.L.length cL, .int .i64 (S.at_ : Int), .int .i64 S.en, .slice R.A S.nodes.length R.c, .slice R.A' S.types.length R.c', .int .i64 0, .int .i64 (S.deep : Int), .int .i64 0, .int .i64 0]
structure RdSt (B : Nat) (AL : Option Addr) (cL g : Nat) (S : Rd) (R : Rw) (w : World) : Prop where
  blk : Blk w g 96 (rdC AL cL S R)
  nod : w.ownsRow B 30 8 (.slice R.A S.nodes.length R.c) S.nodes.length (S.nodes.flatMap nodC)
  typ : w.ownsRow B 3 1 (.slice R.A' S.types.length R.c') S.types.length (S.types.map intV)
  tok : Reads w B 3 AL S.L.length (S.L.flatMap tokC)
  gB : B ≤ g
  len : S.L.length ≤ 3000
  dp : S.deep ≤ 160
structure To (g : Nat) (R : Rw) (w : World) (R' : Rw) (w' : World) : Prop where
  os : w'.os = w.os
  tape : w'.tape = w.tape
  output : w'.output = w.output
  size : w.heap.size ≤ w'.heap.size
  block : ∀ k, k < w.heap.size → k ≠ g → some k ≠ blkOf R.A → some k ≠ blkOf R.A' → w'.heap[k]? = w.heap[k]?
  n1 : ∀ k, blkOf R'.A = some k → blkOf R.A = some k ∨ w.heap.size ≤ k
  n2 : ∀ k, blkOf R'.A' = some k → blkOf R.A' = some k ∨ w.heap.size ≤ k
theorem To.refl (g : Nat) (R : Rw) (w : World) : To g R w R w := ⟨rfl, rfl, rfl, Nat.le_refl _, fun _ _ _ _ _ => rfl, fun _ h => .inl h, fun _ h => .inl h⟩
theorem To.trans {g : Nat} {R R' R'' : Rw} {w w' w'' : World} (h : To g R w R' w') (k : To g R' w' R'' w'') : To g R w R'' w'' := by
  refine ⟨k.os.trans h.os, k.tape.trans h.tape, k.output.trans h.output, Nat.le_trans h.size k.size, fun i hi h1 h2 h3 => ?_, fun i hi => ?_, fun i hi => ?_⟩
  · refine (k.block i (Nat.lt_of_lt_of_le hi h.size) h1 (fun e => ?_) (fun e => ?_)).trans (h.block i hi h1 h2 h3)
    · rcases h.n1 i e.symm with h4 | h4
      · exact h2 h4.symm
      · omega
    · rcases h.n2 i e.symm with h4 | h4
      · exact h3 h4.symm
      · omega
  · rcases k.n1 i hi with h4 | h4
    · exact h.n1 i h4
    · exact .inr (Nat.le_trans h.size h4)
  · rcases k.n2 i hi with h4 | h4
    · exact h.n2 i h4
    · exact .inr (Nat.le_trans h.size h4)
theorem To.below {g : Nat} {R R' : Rw} {w w' w'' : World} (h : To g R w R' w') (k : Below w'.heap.size w' w'') : To g R w R' w'' :=
  h.trans ⟨k.os, k.tape, k.output, k.size, fun i hi _ _ _ => k.block i hi, fun _ h => .inl h, fun _ h => .inl h⟩
theorem To.set {g : Nat} {R R' : Rw} {w w' : World} (h : To g R w R' w') {p : Addr} (hp : p.block = g ∨ w.heap.size ≤ p.block) (u : Value) : To g R w R' (w'.setCell p u) := by
  have hs := Below.setCell (B := p.block) (Below.refl _ w') (Nat.le_refl _) u
  refine ⟨hs.os.trans h.os, hs.tape.trans h.tape, hs.output.trans h.output, Nat.le_trans h.size hs.size, fun i hi h1 h2 h3 => ?_, h.n1, h.n2⟩
  refine (Below.heap_setCell w' p u i ?_).trans (h.block i hi h1 h2 h3)
  rintro rfl
  rcases hp with hp | hp
  · exact h1 hp
  · omega
structure Pr (B g : Nat) (R : Rw) (w : World) (b : Nat) (t : TypeId) (cs : Array Value) : Prop where
  blk : Blk w b t cs
  ge : B ≤ b
  ng : b ≠ g
  n1 : some b ≠ blkOf R.A
  n2 : some b ≠ blkOf R.A'
section
variable {B : Nat} {AL : Option Addr} {cL g : Nat} {S : Rd} {R R' : Rw} {w w' : World} {b : Nat} {t : TypeId} {cs : Array Value}
theorem Pr.to (h : Pr B g R w b t cs) (k : To g R w R' w') : Pr B g R' w' b t cs := by
  refine ⟨(k.block b h.blk.lt h.ng h.n1 h.n2).trans h.blk, h.ge, h.ng, fun e => ?_, fun e => ?_⟩
  · rcases k.n1 b e.symm with h4 | h4
    · exact h.n1 h4.symm
    · have := h.blk.lt; omega
  · rcases k.n2 b e.symm with h4 | h4
    · exact h.n2 h4.symm
    · have := h.blk.lt; omega
theorem Pr.next (h : Pr B g R w b t cs) (k : Below w.heap.size w w') : Pr B g R w' b t cs := ⟨h.blk.next k, h.ge, h.ng, h.n1, h.n2⟩
theorem Pr.set (h : Pr B g R w b t cs) (i : Nat) (u : Value) : Pr B g R (w.setCell ⟨b, i, none⟩ u) b t (cs.setIfInBounds i u) := ⟨h.blk.set_ i u, h.ge, h.ng, h.n1, h.n2⟩
theorem Pr.far (h : Pr B g R w b t cs) {p : Addr} (hp : b ≠ p.block) (u : Value) : Pr B g R (w.setCell p u) b t cs := ⟨h.blk.far hp u, h.ge, h.ng, h.n1, h.n2⟩
theorem RdSt.next (h : RdSt B AL cL g S R w) (k : Below w.heap.size w w') (hB : B ≤ w.heap.size) : RdSt B AL cL g S R w' :=
  ⟨h.blk.next k, own_next h.nod k, own_next h.typ k, h.tok.keep fun p hp => k.cell (by omega), h.gB, h.len, h.dp⟩
theorem RdSt.size (h : RdSt B AL cL g S R w) : B ≤ w.heap.size := by have := h.blk.lt; have := h.gB; omega
theorem RdSt.below (h : RdSt B AL cL g S R w) (k : Below w.heap.size w w') : RdSt B AL cL g S R w' := h.next k h.size
theorem RdSt.lt1 (h : RdSt B AL cL g S R w) {k : Nat} (hk : blkOf R.A = some k) : B ≤ k ∧ k < w.heap.size := h.nod.lt k (by rw [own_blkOf]; exact hk)
theorem RdSt.lt2 (h : RdSt B AL cL g S R w) {k : Nat} (hk : blkOf R.A' = some k) : B ≤ k ∧ k < w.heap.size := h.typ.lt k (by rw [own_blkOf]; exact hk)
theorem RdSt.new (h : RdSt B AL cL g S R w) (t : TypeId) (cs : Array Value) : Pr B g R (w.alloc (.cells cs t)) w.heap.size t cs :=
  ⟨Blk.new w t cs, h.size, by have := h.blk.lt; omega, fun e => by have := h.lt1 e.symm; omega, fun e => by have := h.lt2 e.symm; omega⟩
theorem RdSt.drewN (h : RdSt B AL cL g S R w) (n : Nat) : RdSt B AL cL g S R (w.drewN n) := ⟨h.blk, h.nod, h.typ, h.tok, h.gB, h.len, h.dp⟩
theorem Pr.drewN (h : Pr B g R w b t cs) (n : Nat) : Pr B g R (w.drewN n) b t cs := ⟨h.blk, h.ge, h.ng, h.n1, h.n2⟩
theorem To.drewN (h : To g R w R' w') (n : Nat) : To g R w R' (w'.drewN n) := h.below (below_drewN (Below.refl _ _) n)
theorem RdSt.g0 (h : RdSt B AL cL g S R w) : w.cell? ⟨g, 0, none⟩ = some (.slice AL S.L.length cL) := h.blk.cell 0
theorem RdSt.g1 (h : RdSt B AL cL g S R w) : w.cell? ⟨g, 1, none⟩ = some (.int .i64 (S.at_ : Int)) := h.blk.cell 1
theorem RdSt.g2 (h : RdSt B AL cL g S R w) : w.cell? ⟨g, 2, none⟩ = some (.int .i64 S.en) := h.blk.cell 2
theorem RdSt.g3 (h : RdSt B AL cL g S R w) : w.cell? ⟨g, 3, none⟩ = some (.slice R.A S.nodes.length R.c) := h.blk.cell 3
theorem RdSt.g4 (h : RdSt B AL cL g S R w) : w.cell? ⟨g, 4, none⟩ = some (.slice R.A' S.types.length R.c') := h.blk.cell 4
theorem RdSt.g5 (h : RdSt B AL cL g S R w) : w.cell? ⟨g, 5, none⟩ = some (.int .i64 0) := h.blk.cell 5
theorem RdSt.g6 (h : RdSt B AL cL g S R w) : w.cell? ⟨g, 6, none⟩ = some (.int .i64 (S.deep : Int)) := h.blk.cell 6
theorem RdSt.g7 (h : RdSt B AL cL g S R w) : w.cell? ⟨g, 7, none⟩ = some (.int .i64 0) := h.blk.cell 7
theorem RdSt.fz (h : RdSt B AL cL g S R w) (i : Nat) : w.frozen? ⟨g, i, none⟩ = false := h.blk.frozen i
theorem RdSt.far (h : RdSt B AL cL g S R w) (hp : Pr B g R w b t cs) (i : Nat) (u : Value) : RdSt B AL cL g S R (w.setCell ⟨b, i, none⟩ u) :=
  ⟨h.blk.far (fun e => hp.ng e.symm) u, h.nod.kept (grown_set w b i u) (.inr (by rw [own_blkOf]; exact fun e => hp.n1 e.symm)), h.typ.kept (grown_set w b i u) (.inr (by rw [own_blkOf]; exact fun e => hp.n2 e.symm)), h.tok.setCell hp.ge u, h.gB, h.len, h.dp⟩
theorem RdSt.setAt (h : RdSt B AL cL g S R w) (k : Nat) : RdSt B AL cL g { S with at_ := k } R (w.setCell ⟨g, 1, none⟩ (.int .i64 (k : Int))) :=
  ⟨h.blk.set_ 1 _, own_set h.nod h.blk (by decide), own_set h.typ h.blk (by decide), h.tok.setCell h.gB _, h.gB, h.len, h.dp⟩
theorem RdSt.setDeep (h : RdSt B AL cL g S R w) (k : Nat) (hk : k ≤ 160) : RdSt B AL cL g { S with deep := k } R (w.setCell ⟨g, 6, none⟩ (.int .i64 (k : Int))) :=
  ⟨h.blk.set_ 6 _, own_set h.nod h.blk (by decide), own_set h.typ h.blk (by decide), h.tok.setCell h.gB _, h.gB, h.len, hk⟩
theorem ne_blk (h : RdSt B AL cL g S R w) : some g ≠ blkOf R.A ∧ some g ≠ blkOf R.A' :=
  ⟨fun e => own_blk_ne h.nod h.blk (by decide) (by rw [own_blkOf]; exact e.symm), fun e => own_blk_ne h.typ h.blk (by decide) (by rw [own_blkOf]; exact e.symm)⟩
theorem RdSt.push (h : RdSt B AL cL g S R w) (x : Nod) {v : Value} (o : w'.ownsRow B 30 8 v (S.nodes.length + 1) (S.nodes.flatMap nodC ++ nodC x)) (gr : w.grownBy w' (Value.ownBlock (.slice R.A S.nodes.length R.c)))
    (hn : v.ownBlock = Value.ownBlock (.slice R.A S.nodes.length R.c) ∨ v.ownBlock = some w.heap.size) :
    ∃ A c, v = .slice A (S.nodes.length + 1) c ∧ RdSt B AL cL g { S with nodes := S.nodes ++ [x] } ⟨A, c, R.A', R.c'⟩ (w'.setCell ⟨g, 3, none⟩ v) ∧ Blk w' g 96 (rdC AL cL S R) ∧ To g R w ⟨A, c, R.A', R.c'⟩ (w'.setCell ⟨g, 3, none⟩ v) := by
  obtain ⟨A, c, rfl⟩ := own_form o
  have hl : (S.nodes ++ [x]).length = S.nodes.length + 1 := by rw [List.length_append]; rfl
  have hg : Blk w' g 96 (rdC AL cL S R) := blk_row h.blk h.nod gr (by decide)
  have o' : w'.ownsRow B 30 8 (.slice A (S.nodes ++ [x]).length c) (S.nodes ++ [x]).length ((S.nodes ++ [x]).flatMap nodC) := by
    rw [List.flatMap_append, hl]
    simpa using o
  have ht : w'.ownsRow B 3 1 (.slice R.A' S.types.length R.c') S.types.length (S.types.map intV) := own_row h.typ h.nod gr (by decide)
  have hs := hg.set_ 3 (.slice A (S.nodes.length + 1) c)
  rw [← hl] at hs
  refine ⟨A, c, rfl, ⟨?_, own_set o' hg (by decide), own_set ht hg (by decide), ?_, h.gB, h.len, h.dp⟩, hg, ?_⟩
  · rw [← hl]
    exact hs
  · refine Reads.setCell (h.tok.keep fun p hp => World.cell?_of_block (gr.block _ (by have := h.size; omega) fun e => ?_)) h.gB _
    have := h.nod.lt _ e.symm
    omega
  · refine To.set (R := R) (w := w) (R' := ⟨A, c, R.A', R.c'⟩) (w' := w') (p := ⟨g, 3, none⟩) ⟨gr.os, gr.tape, gr.output, gr.size, fun k hk h1 h2 h3 => gr.block k hk (by rw [own_blkOf]; exact h2), fun k hk => ?_, fun k hk => .inl hk⟩ (.inl rfl) _
    rw [own_blkOf, own_blkOf] at hn
    rcases hn with hn | hn
    · exact .inl (hn.symm.trans hk)
    · refine .inr ?_
      have := Option.some.inj (hn.symm.trans hk)
      omega
theorem RdSt.pushT (h : RdSt B AL cL g S R w) (x : Int) {v : Value} (o : w'.ownsRow B 3 1 v (S.types.length + 1) (S.types.map intV ++ [intV x])) (gr : w.grownBy w' (Value.ownBlock (.slice R.A' S.types.length R.c')))
    (hn : v.ownBlock = Value.ownBlock (.slice R.A' S.types.length R.c') ∨ v.ownBlock = some w.heap.size) :
    ∃ A c, v = .slice A (S.types.length + 1) c ∧ RdSt B AL cL g { S with types := S.types ++ [x] } ⟨R.A, R.c, A, c⟩ (w'.setCell ⟨g, 4, none⟩ v) ∧ Blk w' g 96 (rdC AL cL S R) ∧ To g R w ⟨R.A, R.c, A, c⟩ (w'.setCell ⟨g, 4, none⟩ v) := by
  obtain ⟨A, c, rfl⟩ := own_form o
  have hl : (S.types ++ [x]).length = S.types.length + 1 := by rw [List.length_append]; rfl
  have hg : Blk w' g 96 (rdC AL cL S R) := blk_row h.blk h.typ gr (by decide)
  have o' : w'.ownsRow B 3 1 (.slice A (S.types ++ [x]).length c) (S.types ++ [x]).length ((S.types ++ [x]).map intV) := by
    rw [List.map_append, hl]
    simpa using o
  have ht : w'.ownsRow B 30 8 (.slice R.A S.nodes.length R.c) S.nodes.length (S.nodes.flatMap nodC) := own_row h.nod h.typ gr (by decide)
  have hs := hg.set_ 4 (.slice A (S.types.length + 1) c)
  rw [← hl] at hs
  refine ⟨A, c, rfl, ⟨?_, own_set ht hg (by decide), own_set o' hg (by decide), ?_, h.gB, h.len, h.dp⟩, hg, ?_⟩
  · rw [← hl]
    exact hs
  · refine Reads.setCell (h.tok.keep fun p hp => World.cell?_of_block (gr.block _ (by have := h.size; omega) fun e => ?_)) h.gB _
    have := h.typ.lt _ e.symm
    omega
  · refine To.set (R := R) (w := w) (R' := ⟨R.A, R.c, A, c⟩) (w' := w') (p := ⟨g, 4, none⟩) ⟨gr.os, gr.tape, gr.output, gr.size, fun k hk h1 h2 h3 => gr.block k hk (by rw [own_blkOf]; exact h3), fun k hk => .inl hk, fun k hk => ?_⟩ (.inl rfl) _
    rw [own_blkOf, own_blkOf] at hn
    rcases hn with hn | hn
    · exact .inl (hn.symm.trans hk)
    · refine .inr ?_
      have := Option.some.inj (hn.symm.trans hk)
      omega
end
def REnd (B : Nat) (AL : Option Addr) (cL g : Nat) (R : Rw) (w : World) (S' : Rd) (v : Value) (e : Ending) (w' : World) : Prop :=
  e = .returned v ∧ ∃ R', RdSt B AL cL g S' R' w' ∧ To g R w R' w'
def Spec (N : Nat) (f : Rd → Option (Rd × Int)) : Prop := ∀ (B : Nat) (AL : Option Addr) (cL g : Nat) (S S' : Rd) (r : Int) (R : Rw) (w : World), RdSt B AL cL g S R w → f S = some (S', r) →
  Calls Tryd.prog N #[ptr g] w (REnd B AL cL g R w S' (.int .i64 r))
end Go.Proofs.YtphojigdapaaiaaDoor
