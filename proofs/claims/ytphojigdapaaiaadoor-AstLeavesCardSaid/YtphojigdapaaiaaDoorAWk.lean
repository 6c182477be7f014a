/- wakes. -/
import Derived.Test.YtphojigdapaaiaaDoorAPp
import Derived.Test.YtphojigdapaaiaaDoorAPl
import Derived.Test.YtphojigdapaaiaaDoorAS2
namespace Go.Proofs.YtphojigdapaaiaaDoor
open Go.ChangeShapes Go.WideShapes Go.ChangeAt Go.RowKit
set_option linter.unusedVariables false
set_option linter.unusedSimpArgs false
def smP (n' : Int) (p q : Int) : Bool := p == 0 || n' == 1
theorem sameP (h' n' : Int) (hn : n' = 1 ∨ n' = 2) (k : Nat) (x y : Nod) (hx : (plusV 0 1).l[k]? = some x) (hy : (plusV h' n').l[k]? = some y) : sameB x y (smP n') = smP n' (k : Int) (k : Int) ∧ x.k ≠ 43 ∧ kidsL x = kidsL y ∧ ∀ p ∈ kidsL x, 0 ≤ p ∧ p < k := by
  have hk : k < 4 := (List.getElem?_eq_some_iff.1 hx).1
  rcases hn with rfl | rfl
  all_goals
    rcases (by omega : k = 0 ∨ k = 1 ∨ k = 2 ∨ k = 3) with rfl | rfl | rfl | rfl
    all_goals
      obtain rfl := Option.some.inj hx
      obtain rfl := Option.some.inj hy
      refine ⟨by kernel_rfl, by decide, by kernel_rfl, ?_⟩
  all_goals decide
/-- A tree of four nodes in a block. -/
theorem tree_blk {w : World} {g : Nat} {h n : Int} (hg : Blk w g 30 ((plusV h n).l.flatMap nodC).toArray) : TreOk w (some ⟨g, 0, none⟩) none (plusV h n) :=
  ⟨⟨(reads_blkN hg rfl).more hg.lt, Reads.none_⟩, by show 4 ≤ _; omega, by show 0 ≤ _; omega, fun p hp => by
    simp only [plusV, List.mem_cons, List.not_mem_nil, or_false] at hp
    rcases hp with rfl | rfl | rfl | rfl <;> exact ⟨by show _ ≤ _; simp, by show _ ≤ _; simp⟩⟩
theorem plus_same {g g' : Nat} {h' n' : Int} (hn : n' = 1 ∨ n' = 2) : ∀ (m k : Nat), k < m → k < 4 → ∀ (w : World), Blk w g 30 ((plusV 0 1).l.flatMap nodC).toArray → Blk w g' 30 ((plusV h' n').l.flatMap nodC).toArray → AstTab w →
    Calls Tryd.prog 25 #[treV (some ⟨g, 0, none⟩) 4 none 0 (plusV 0 1), treV (some ⟨g', 0, none⟩) 4 none 0 (plusV h' n'), .int .i64 (k : Int), .int .i64 (k : Int)] w (SameEnd (smP n' (k : Int) (k : Int)) w) := by
  intro m
  induction m with
  | zero => intro k hk; omega
  | succ m ih =>
    intro k hk hk4 w hg hg' hS
    obtain ⟨x, hx⟩ : ∃ x, (plusV 0 1).l[k]? = some x := ⟨(plusV 0 1).l[k]'hk4, List.getElem?_eq_getElem _⟩
    obtain ⟨y, hy⟩ : ∃ y, (plusV h' n').l[k]? = some y := ⟨(plusV h' n').l[k]'hk4, List.getElem?_eq_getElem _⟩
    obtain ⟨h1, h2, h3, h4⟩ := sameP h' n' hn k x y hx hy
    rw [← h1]
    refine c25 (plusV 0 1) (plusV h' n') (some ⟨g, 0, none⟩) none (some ⟨g', 0, none⟩) none 4 0 4 0 k k x y (smP n') w (tree_blk hg).is_ (tree_blk hg').is_ hS hx hy h2 (by show 4 ≤ _; omega) (by show 4 ≤ _; omega) ?_
    intro w' hb i p q hp hq
    rw [← h3, hp] at hq
    obtain rfl := Option.some.inj hq
    obtain ⟨p0, p1⟩ := h4 p (List.mem_of_getElem? hp)
    obtain ⟨pn, rfl⟩ : ∃ pn : Nat, p = (pn : Int) := ⟨p.toNat, by omega⟩
    exact ih pn (by omega) (by omega) w' (hg.next hb) (hg'.next hb) (hS.next hb)
def WakeEnd (w : World) (e : Ending) (w' : World) : Prop := e = .returned (.bool true) ∧ Below w.heap.size w w'
set_option maxRecDepth 100000 in
set_option maxHeartbeats 16000000 in
theorem c8 (w : World) (hS : Tabs w) : Calls Tryd.prog 8 #[] w (WakeEnd w) := by
  have HS := Lib.hid hS
  clear hS
  go_enter Tryd.func8, Tryd.ntmps8
  go_wp2_with fail
  refine (c21 w).mono ?_
  rintro e w1 ⟨gA, rfl, hgA, hgA0, hb1⟩
  have HGA := Lib.hid hgA
  have HB1 := Lib.hid hb1
  clear hgA hgA0 hb1
  go_wp2_with fail
  refine (c21 w1).mono ?_
  rintro e w2 ⟨gB, rfl, hgB, hgB0, hb2⟩
  have HGA2 := Lib.hid (HGA.out.next hb2)
  have HGB := Lib.hid hgB
  have HAB := Lib.hid (show gA < gB from Nat.lt_of_lt_of_le HGA.out.lt hgB0)
  have HWB := Lib.hid (show w.heap.size ≤ gB from Nat.le_trans HB1.out.size hgB0)
  have HB2 := Lib.hid (next_ HB1.out hb2)
  clear hgB hgB0 hb2 HGA HB1
  rw [show treV (some ⟨gA, 0, none⟩) 4 none 0 plusT = .agg #[.slice (some ⟨gA, 0, none⟩) 4 4, .slice none 0 0, .int .i64 3] from rfl, show treV (some ⟨gB, 0, none⟩) 4 none 0 plusT = .agg #[.slice (some ⟨gB, 0, none⟩) 4 4, .slice none 0 0, .int .i64 3] from rfl]
  go_upto_region 2 with fail
  have XA3 := Lib.hid ((Blk.new w2 25 #[.slice (some ⟨gA, 0, none⟩) 4 4, .slice none 0 0, .int .i64 3]).alloc (.cells #[.slice (some ⟨gB, 0, none⟩) 4 4, .slice none 0 0, .int .i64 3] 25))
  have hxb := Blk.new (w2.alloc (.cells #[.slice (some ⟨gA, 0, none⟩) 4 4, .slice none 0 0, .int .i64 3] 25)) 25 #[.slice (some ⟨gB, 0, none⟩) 4 4, .slice none 0 0, .int .i64 3]
  rw [World.size_alloc] at hxb
  have XB3 := Lib.hid hxb
  have hb3 := (below_new w2 (.cells #[.slice (some ⟨gA, 0, none⟩) 4 4, .slice none 0 0, .int .i64 3] 25)).alloc (below_new w2 (.cells #[.slice (some ⟨gA, 0, none⟩) 4 4, .slice none 0 0, .int .i64 3] 25)).size (.cells #[.slice (some ⟨gB, 0, none⟩) 4 4, .slice none 0 0, .int .i64 3] 25)
  have GA3 := Lib.hid (HGA2.out.next hb3)
  have GB3 := Lib.hid (HGB.out.next hb3)
  have HB3 := Lib.hid (next_ HB2.out hb3)
  generalize (w2.alloc (.cells #[.slice (some ⟨gA, 0, none⟩) 4 4, .slice none 0 0, .int .i64 3] 25)).alloc (.cells #[.slice (some ⟨gB, 0, none⟩) 4 4, .slice none 0 0, .int .i64 3] 25) = w3 at XA3 XB3 GA3 GB3 HB3 ⊢
  generalize w2.heap.size + 1 = xb at XB3 ⊢
  generalize w2.heap.size = xa at XA3 ⊢
  clear hxb hb3 HGA2 HGB HB2
  have q0 : w3.cell? ⟨xb, 0, none⟩ = some (.slice (some ⟨gB, 0, none⟩) 4 4) := XB3.out.cell 0
  have q7 : w3.cell? ⟨gB, 7, none⟩ = some (.int .i64 0) := GB3.out.cell 7
  have f7 := GB3.out.frozen 7
  have GB4 := Lib.hid (show Blk (w3.setCell ⟨gB, 7, none⟩ (.int .i64 7)) gB 30 ((plusV 7 1).l.flatMap nodC).toArray from GB3.out.set_ 7 (.int .i64 7))
  have GA4 := Lib.hid (show Blk (w3.setCell ⟨gB, 7, none⟩ (.int .i64 7)) gA 30 ((plusV 0 1).l.flatMap nodC).toArray from GA3.out.far (p := ⟨gB, 7, none⟩) (by show gA ≠ gB; have := HAB.out; omega) _)
  have XA4 := Lib.hid (XA3.out.far (p := ⟨gB, 7, none⟩) (XA3.out.ne_ GB3.out (by decide)) (.int .i64 7))
  have XB4 := Lib.hid (XB3.out.far (p := ⟨gB, 7, none⟩) (XB3.out.ne_ GB3.out (by decide)) (.int .i64 7))
  have HB4 := Lib.hid (HB3.out.setCell (p := ⟨gB, 7, none⟩) (by show w.heap.size ≤ gB; exact HWB.out) (.int .i64 7))
  go_upto_region 3 with fail
  clear q0 q7 f7 XA3 XB3 GA3 GB3 HB3
  generalize w3.setCell ⟨gB, 7, none⟩ (.int .i64 7) = w4 at GB4 GA4 XA4 XB4 HB4 ⊢
  go_wp2_with fail
  refine (c21 w4).mono ?_
  rintro e w5 ⟨gC, rfl, hgC, hgC0, hb⟩
  have GC5 := Lib.hid hgC
  have HAC := Lib.hid (show gA < gC from Nat.lt_of_lt_of_le GA4.out.lt hgC0)
  have HBC := Lib.hid (show gB < gC from Nat.lt_of_lt_of_le GB4.out.lt hgC0)
  have HWC := Lib.hid (show w.heap.size ≤ gC from Nat.le_trans HB4.out.size hgC0)
  have XA5 := Lib.hid (XA4.out.next hb)
  have XB5 := Lib.hid (XB4.out.next hb)
  have GA5 := Lib.hid (GA4.out.next hb)
  have GB5 := Lib.hid (GB4.out.next hb)
  have HB5 := Lib.hid (next_ HB4.out hb)
  clear hgC hgC0 hb XA4 XB4 GA4 GB4 HB4
  rw [show treV (some ⟨gC, 0, none⟩) 4 none 0 plusT = .agg #[.slice (some ⟨gC, 0, none⟩) 4 4, .slice none 0 0, .int .i64 3] from rfl]
  have hxc := Blk.new w5 25 #[.slice (some ⟨gC, 0, none⟩) 4 4, .slice none 0 0, .int .i64 3]
  have hb := below_new w5 (.cells #[.slice (some ⟨gC, 0, none⟩) 4 4, .slice none 0 0, .int .i64 3] 25)
  have XA6 := Lib.hid (XA5.out.next hb)
  have XB6 := Lib.hid (XB5.out.next hb)
  have GA6 := Lib.hid (GA5.out.next hb)
  have GB6 := Lib.hid (GB5.out.next hb)
  have GC6 := Lib.hid (GC5.out.next hb)
  have HB6 := Lib.hid (next_ HB5.out hb)
  generalize hw6 : w5.alloc (.cells #[.slice (some ⟨gC, 0, none⟩) 4 4, .slice none 0 0, .int .i64 3] 25) = w6 at hxc XA6 XB6 GA6 GB6 GC6 HB6
  have XC6 := Lib.hid hxc
  clear hxc hb XA5 XB5 GA5 GB5 GC5 HB5
  go_upto_region 4 with fail
  clear hw6
  generalize w5.heap.size = xc at XC6 ⊢
  have q0 : w6.cell? ⟨xc, 0, none⟩ = some (.slice (some ⟨gC, 0, none⟩) 4 4) := XC6.out.cell 0
  have q7 : w6.cell? ⟨gC, 11, none⟩ = some (.int .i64 1) := GC6.out.cell 11
  have f7 := GC6.out.frozen 11
  have GC7 := Lib.hid (show Blk (w6.setCell ⟨gC, 11, none⟩ (.int .i64 2)) gC 30 ((plusV 0 2).l.flatMap nodC).toArray from GC6.out.set_ 11 (.int .i64 2))
  have GA7 := Lib.hid (GA6.out.far (p := ⟨gC, 11, none⟩) (by show gA ≠ gC; have := HAC.out; omega) (.int .i64 2))
  have GB7 := Lib.hid (GB6.out.far (p := ⟨gC, 11, none⟩) (by show gB ≠ gC; have := HBC.out; omega) (.int .i64 2))
  have XA7 := Lib.hid (XA6.out.far (p := ⟨gC, 11, none⟩) (XA6.out.ne_ GC6.out (by decide)) (.int .i64 2))
  have XB7 := Lib.hid (XB6.out.far (p := ⟨gC, 11, none⟩) (XB6.out.ne_ GC6.out (by decide)) (.int .i64 2))
  have XC7 := Lib.hid (XC6.out.far (p := ⟨gC, 11, none⟩) (XC6.out.ne_ GC6.out (by decide)) (.int .i64 2))
  have HB7 := Lib.hid (HB6.out.setCell (p := ⟨gC, 11, none⟩) (by show w.heap.size ≤ gC; exact HWC.out) (.int .i64 2))
  go_upto_region 5 with fail
  clear q0 q7 f7 XA6 XB6 XC6 GA6 GB6 GC6 HB6
  generalize w6.setCell ⟨gC, 11, none⟩ (.int .i64 2) = w7 at GC7 GA7 GB7 XA7 XB7 XC7 HB7 ⊢
  have HG1 := Lib.hid (plus_good 0 1)
  have HU1 := Lib.hid (plus_sure 0 1 (by omega) (by omega))
  have x0 : w7.cell? ⟨xa, 0, none⟩ = some (.slice (some ⟨gA, 0, none⟩) 4 4) := XA7.out.cell 0
  have x1 : w7.cell? ⟨xa, 1, none⟩ = some (.slice none 0 0) := XA7.out.cell 1
  have x2 : w7.cell? ⟨xa, 2, none⟩ = some (.int .i64 3) := XA7.out.cell 2
  go_wp2_with fail
  refine (show Calls Tryd.prog 10 #[.agg #[.slice (some ⟨gA, 0, none⟩) 4 4, .slice none 0 0, .int .i64 3]] w7 (GoodEnd (plusV 0 1) w7) from c10 (plusV 0 1) (some ⟨gA, 0, none⟩) none 4 0 w7 (tree_blk GA7.out).is_ (HS.out.next HB7.out) (tree_blk GA7.out).l (tree_blk GA7.out).y (tree_blk GA7.out).x).mono ?_
  rintro e w8 ⟨b, rfl, hb, _, hg⟩
  obtain rfl := hg HG1.out HU1.out
  clear hg x0 x1 x2
  have XA8 := Lib.hid (XA7.out.next hb)
  have XB8 := Lib.hid (XB7.out.next hb)
  have XC8 := Lib.hid (XC7.out.next hb)
  have GA8 := Lib.hid (GA7.out.next hb)
  have GB8 := Lib.hid (GB7.out.next hb)
  have GC8 := Lib.hid (GC7.out.next hb)
  have HB8 := Lib.hid (next_ HB7.out hb)
  clear hb XA7 XB7 XC7 GA7 GB7 GC7 HB7
  have x0 : w8.cell? ⟨xa, 0, none⟩ = some (.slice (some ⟨gA, 0, none⟩) 4 4) := XA8.out.cell 0
  have x1 : w8.cell? ⟨xa, 1, none⟩ = some (.slice none 0 0) := XA8.out.cell 1
  have x2 : w8.cell? ⟨xa, 2, none⟩ = some (.int .i64 3) := XA8.out.cell 2
  have y0 : w8.cell? ⟨xb, 0, none⟩ = some (.slice (some ⟨gB, 0, none⟩) 4 4) := XB8.out.cell 0
  have y1 : w8.cell? ⟨xb, 1, none⟩ = some (.slice none 0 0) := XB8.out.cell 1
  have y2 : w8.cell? ⟨xb, 2, none⟩ = some (.int .i64 3) := XB8.out.cell 2
  go_wp2_with fail
  refine (show Calls Tryd.prog 13 #[.agg #[.slice (some ⟨gA, 0, none⟩) 4 4, .slice none 0 0, .int .i64 3], .agg #[.slice (some ⟨gB, 0, none⟩) 4 4, .slice none 0 0, .int .i64 3]] w8 (Same2End (plusV 0 1) (plusV 7 1) true w8) from c13 (plusV 0 1) (plusV 7 1) (some ⟨gA, 0, none⟩) none (some ⟨gB, 0, none⟩) none 4 0 4 0 true w8 (tree_blk GA8.out) (tree_blk GB8.out) (HS.out.next HB8.out) (fun _ _ => ⟨rfl, rfl⟩) (fun _ _ w' hb => plus_same (g := gA) (g' := gB) (h' := 7) (n' := 1) (by omega) 4 3 (by omega) (by omega) w' (GA8.out.next hb) (GB8.out.next hb) ((HS.out.ast.next HB8.out).next hb))).mono ?_
  rintro e w9 ⟨b, rfl, hb, _, hg⟩
  obtain rfl := hg HG1.out HU1.out (plus_good 7 1) (plus_sure 7 1 (by omega) (by omega))
  clear hg x0 x1 x2 y0 y1 y2
  have XA9 := Lib.hid (XA8.out.next hb)
  have XB9 := Lib.hid (XB8.out.next hb)
  have XC9 := Lib.hid (XC8.out.next hb)
  have GA9 := Lib.hid (GA8.out.next hb)
  have GB9 := Lib.hid (GB8.out.next hb)
  have GC9 := Lib.hid (GC8.out.next hb)
  have HB9 := Lib.hid (next_ HB8.out hb)
  clear hb XA8 XB8 XC8 GA8 GB8 GC8 HB8
  have x0 : w9.cell? ⟨xa, 0, none⟩ = some (.slice (some ⟨gA, 0, none⟩) 4 4) := XA9.out.cell 0
  have x1 : w9.cell? ⟨xa, 1, none⟩ = some (.slice none 0 0) := XA9.out.cell 1
  have x2 : w9.cell? ⟨xa, 2, none⟩ = some (.int .i64 3) := XA9.out.cell 2
  have y0 : w9.cell? ⟨xc, 0, none⟩ = some (.slice (some ⟨gC, 0, none⟩) 4 4) := XC9.out.cell 0
  have y1 : w9.cell? ⟨xc, 1, none⟩ = some (.slice none 0 0) := XC9.out.cell 1
  have y2 : w9.cell? ⟨xc, 2, none⟩ = some (.int .i64 3) := XC9.out.cell 2
  go_wp2_with fail
  refine (show Calls Tryd.prog 13 #[.agg #[.slice (some ⟨gA, 0, none⟩) 4 4, .slice none 0 0, .int .i64 3], .agg #[.slice (some ⟨gC, 0, none⟩) 4 4, .slice none 0 0, .int .i64 3]] w9 (Same2End (plusV 0 1) (plusV 0 2) false w9) from c13 (plusV 0 1) (plusV 0 2) (some ⟨gA, 0, none⟩) none (some ⟨gC, 0, none⟩) none 4 0 4 0 false w9 (tree_blk GA9.out) (tree_blk GC9.out) (HS.out.next HB9.out) (fun _ _ => ⟨rfl, rfl⟩) (fun _ _ w' hb => plus_same (g := gA) (g' := gC) (h' := 0) (n' := 2) (by omega) 4 3 (by omega) (by omega) w' (GA9.out.next hb) (GC9.out.next hb) ((HS.out.ast.next HB9.out).next hb))).mono ?_
  rintro e w10 ⟨b, rfl, hb, _, hg⟩
  obtain rfl := hg HG1.out HU1.out (plus_good 0 2) (plus_sure 0 2 (by omega) (by omega))
  clear hg x0 x1 x2 y0 y1 y2
  have XA10 := Lib.hid (XA9.out.next hb)
  have XB10 := Lib.hid (XB9.out.next hb)
  have XC10 := Lib.hid (XC9.out.next hb)
  have GA10 := Lib.hid (GA9.out.next hb)
  have GB10 := Lib.hid (GB9.out.next hb)
  have GC10 := Lib.hid (GC9.out.next hb)
  have HB10 := Lib.hid (next_ HB9.out hb)
  clear hb XA9 XB9 XC9 GA9 GB9 GC9 HB9
  have x0 : w10.cell? ⟨xa, 0, none⟩ = some (.slice (some ⟨gA, 0, none⟩) 4 4) := XA10.out.cell 0
  have x1 : w10.cell? ⟨xa, 1, none⟩ = some (.slice none 0 0) := XA10.out.cell 1
  have x2 : w10.cell? ⟨xa, 2, none⟩ = some (.int .i64 3) := XA10.out.cell 2
  go_wp2_with fail
  refine (show Calls Tryd.prog 12 #[.agg #[.slice (some ⟨gA, 0, none⟩) 4 4, .slice none 0 0, .int .i64 3]] w10 (DeepEnd (plusV 0 1) w10) from c12 (plusV 0 1) (some ⟨gA, 0, none⟩) none 4 0 w10 (tree_blk GA10.out).is_ (HS.out.next HB10.out) (tree_blk GA10.out).l (tree_blk GA10.out).y (tree_blk GA10.out).x).mono ?_
  rintro e w11 ⟨v, rfl, hb, _, hg⟩
  have hv := hg HG1.out HU1.out
  rw [plus_deep] at hv
  subst hv
  clear hg x0 x1 x2
  have XA11 := Lib.hid (XA10.out.next hb)
  have XB11 := Lib.hid (XB10.out.next hb)
  have XC11 := Lib.hid (XC10.out.next hb)
  have GA11 := Lib.hid (GA10.out.next hb)
  have GB11 := Lib.hid (GB10.out.next hb)
  have GC11 := Lib.hid (GC10.out.next hb)
  have HB11 := Lib.hid (next_ HB10.out hb)
  clear hb XA10 XB10 XC10 GA10 GB10 GC10 HB10
  have x0 : w11.cell? ⟨xa, 0, none⟩ = some (.slice (some ⟨gA, 0, none⟩) 4 4) := XA11.out.cell 0
  have x1 : w11.cell? ⟨xa, 1, none⟩ = some (.slice none 0 0) := XA11.out.cell 1
  have x2 : w11.cell? ⟨xa, 2, none⟩ = some (.int .i64 3) := XA11.out.cell 2
  go_wp2_with fail
  refine (show Calls Tryd.prog 11 #[.agg #[.slice (some ⟨gA, 0, none⟩) 4 4, .slice none 0 0, .int .i64 3], .int .i64 2] w11 (Kids2End (plusV 0 1) 2 w11) from c11 (plusV 0 1) (some ⟨gA, 0, none⟩) none 4 0 2 w11 (tree_blk GA11.out).is_ (HS.out.next HB11.out) (tree_blk GA11.out).l (tree_blk GA11.out).y (tree_blk GA11.out).x).mono ?_
  rintro e w12 ⟨L, A2, c2, rfl, hI, _, _, hg⟩
  obtain rfl : L = [0, 1] := hg HG1.out HU1.out 2 ⟨15, [], [], 12, 0, 1, 0, 0⟩ rfl rfl
  have hb := hI.low
  have HL12 := Lib.hid (Reads.of_own hI.own)
  clear hg hI x0 x1 x2
  have XA12 := Lib.hid (XA11.out.next hb)
  have GA12 := Lib.hid (GA11.out.next hb)
  have HB12 := Lib.hid (next_ HB11.out hb)
  clear hb XA11 XB11 XC11 GA11 GB11 GC11 HB11
  have hM := Blk.new w12 3 (([0, 1] : List Int).map intV).toArray
  have hb := below_new w12 (.cells (([0, 1] : List Int).map intV).toArray 3)
  have HL13 := Lib.hid (HL12.out.below hb)
  have XA13 := Lib.hid (XA12.out.next hb)
  have GA13 := Lib.hid (GA12.out.next hb)
  have HB13 := Lib.hid (next_ HB12.out hb)
  generalize hw13 : w12.alloc (.cells (([0, 1] : List Int).map intV).toArray 3) = w13 at hM hb HL13 XA13 GA13 HB13
  have HM13 := Lib.hid (reads_blkN (size := 1) (n := 2) hM rfl)
  have HML := Lib.hid hM.lt
  have HSZ := Lib.hid hb.size
  replace hw13 : w12.alloc (.cells #[.int .i64 0, .int .i64 1] 3) = w13 := hw13
  clear hM hb XA12 GA12 HB12
  go_wp2_with fail
  clear hw13
  refine (show Calls Tryd.prog 22 #[.slice A2 2 c2, .slice (some ⟨w12.heap.size, 0, none⟩) 2 2] w13 (KeepEnd [0, 1] [0, 1] w13) from c22 [0, 1] [0, 1] A2 (some ⟨w12.heap.size, 0, none⟩) c2 2 w13 (HL13.out.more HSZ.out) (HM13.out.more HML.out) (by show 2 ≤ _; omega) (by show 2 ≤ _; omega)).mono ?_
  rintro e w14 ⟨r, rfl, hb, hr⟩
  obtain rfl := hr rfl
  have XA14 := Lib.hid (XA13.out.next hb)
  have GA14 := Lib.hid (GA13.out.next hb)
  have HB14 := Lib.hid (next_ HB13.out hb)
  clear hr hb XA13 GA13 HB13
  go_wp2_with fail
  refine (show Calls Tryd.prog 10 #[.agg #[.slice none 0 0, .slice none 0 0, .int .i64 0]] w14 (GoodEnd ⟨[], [], 0⟩ w14) from c10 ⟨[], [], 0⟩ none none 0 0 w14 ⟨Reads.none_, Reads.none_⟩ (HS.out.next HB14.out) (by show 0 ≤ _; omega) (by show 0 ≤ _; omega) (fun p hp => by cases hp)).mono ?_
  rintro e w15 ⟨b, rfl, hb, hg, _⟩
  have XA15 := Lib.hid (XA14.out.next hb)
  have GA15 := Lib.hid (GA14.out.next hb)
  have HB15 := Lib.hid (next_ HB14.out hb)
  cases b with
  | true => exact absurd (hg rfl).n1 (by show ¬ 1 ≤ 0; omega)
  | false =>
  clear hg hb XA14 GA14 HB14
  have x0 : w15.cell? ⟨xa, 0, none⟩ = some (.slice (some ⟨gA, 0, none⟩) 4 4) := XA15.out.cell 0
  have x1 : w15.cell? ⟨xa, 1, none⟩ = some (.slice none 0 0) := XA15.out.cell 1
  have x2 : w15.cell? ⟨xa, 2, none⟩ = some (.int .i64 3) := XA15.out.cell 2
  go_wp2_with fail
  refine (show Calls Tryd.prog 11 #[.agg #[.slice (some ⟨gA, 0, none⟩) 4 4, .slice none 0 0, .int .i64 3], .int .i64 9] w15 (Kids2End (plusV 0 1) 9 w15) from c11 (plusV 0 1) (some ⟨gA, 0, none⟩) none 4 0 9 w15 (tree_blk GA15.out).is_ (HS.out.next HB15.out) (tree_blk GA15.out).l (tree_blk GA15.out).y (tree_blk GA15.out).x).mono ?_
  rintro e w16 ⟨L, A2, c2, rfl, hI, _, hg, _⟩
  obtain rfl : L = [] := hg (.inr (by show (4 : Int) ≤ 9; omega))
  have HB16 := Lib.hid (next_ HB15.out hI.low)
  clear hg hI x0 x1 x2
  go_wp2_with fail
  go_ret
  exact ⟨rfl, HB16.out⟩
end Go.Proofs.YtphojigdapaaiaaDoor
