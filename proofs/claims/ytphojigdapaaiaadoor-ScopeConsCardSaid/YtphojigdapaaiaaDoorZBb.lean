/- ast.many, exactly. -/
import Derived.Test.YtphojigdapaaiaaDoorZBa
namespace Go.Proofs.YtphojigdapaaiaaDoor
open Go.ChangeShapes Go.WideShapes Go.ChangeAt Go.RowKit
set_option linter.unusedVariables false
set_option linter.unusedSimpArgs false
def primL (n : Int) : Bool := decide (n = 29 ∨ n = 30 ∨ n = 31 ∨ n = 32 ∨ n = 24 ∨ n = 25 ∨ n = 26 ∨ n = 27)
def hostL (n : Int) : Int := if n = 0 ∨ n = 1 then 1 else if n = 2 then 2 else 0
def manyL (tab : Nat → OpRow) (x : Nod) : Int × Bool :=
  if x.k = 15 then (if binL x.n then (2, true) else (0, false)) else if x.k = 24 then (if primL x.n then (effT tab x.n.toNat, true) else (0, false)) else (hostL x.n, true)
def ManyX (tab : Nat → OpRow) (x : Nod) (w : World) (e : Ending) (w' : World) : Prop := e = .returned (.tuple #[.int .i64 (manyL tab x).1, .bool (manyL tab x).2]) ∧ Below w.heap.size w w'
theorem ManyX.of {tab : Nat → OpRow} {x : Nod} {w : World} {e : Ending} {w' : World} {a : Int} {b : Bool} (h : manyL tab x = (a, b)) (he : e = .returned (.tuple #[.int .i64 a, .bool b])) (hb : Below w.heap.size w w') : ManyX tab x w e w' := by
  unfold ManyX
  rw [h]
  exact ⟨he, hb⟩
set_option maxRecDepth 100000 in
set_option maxHeartbeats 8000000 in
theorem x54 {tab : Nat → OpRow} (x : Nod) (w : World) (ht : OpIs tab w) (hk : x.k = 15 ∨ x.k = 24 ∨ x.k = 25) (hn : x.k = 25 → 0 ≤ x.n ∧ x.n < 4) : Calls Tryd.prog 54 #[.agg (nodC x).toArray] w (ManyX tab x w) := by
  obtain ⟨xk, xt, xt2, xn, xa, xb, xc, xh⟩ := x
  simp only at hk hn
  show Calls Tryd.prog 54 #[.agg #[.int .i64 xk, strV xt, strV xt2, .int .i64 xn, .int .i64 xa, .int .i64 xb, .int .i64 xc, .int .i64 xh]] w _
  have hb := below_new w (.cells #[.int .i64 xk, strV xt, strV xt2, .int .i64 xn, .int .i64 xa, .int .i64 xb, .int .i64 xc, .int .i64 xh] 30)
  have HX := Lib.hid (Blk.new w 30 #[.int .i64 xk, strV xt, strV xt2, .int .i64 xn, .int .i64 xa, .int .i64 xb, .int .i64 xc, .int .i64 xh])
  have HT := Lib.hid (ht.next hb)
  have HB := Lib.hid hb
  clear hb ht
  rcases hk with rfl | rfl | rfl
  · clear hn
    by_cases h12 : xn = 12
    · subst h12
      go_enter Tryd.func54, Tryd.ntmps54
      go_wp2_with fail
      go_ret2
      exact ManyX.of (a := 2) (b := true) rfl rfl HB.out
    by_cases h13 : xn = 13
    · subst h13
      go_enter Tryd.func54, Tryd.ntmps54
      go_wp2_with fail
      go_ret2
      exact ManyX.of (a := 2) (b := true) rfl rfl HB.out
    by_cases h14 : xn = 14
    · subst h14
      go_enter Tryd.func54, Tryd.ntmps54
      go_wp2_with fail
      go_ret2
      exact ManyX.of (a := 2) (b := true) rfl rfl HB.out
    by_cases h15 : xn = 15
    · subst h15
      go_enter Tryd.func54, Tryd.ntmps54
      go_wp2_with fail
      go_ret2
      exact ManyX.of (a := 2) (b := true) rfl rfl HB.out
    by_cases h16 : xn = 16
    · subst h16
      go_enter Tryd.func54, Tryd.ntmps54
      go_wp2_with fail
      go_ret2
      exact ManyX.of (a := 2) (b := true) rfl rfl HB.out
    by_cases h17 : xn = 17
    · subst h17
      go_enter Tryd.func54, Tryd.ntmps54
      go_wp2_with fail
      go_ret2
      exact ManyX.of (a := 2) (b := true) rfl rfl HB.out
    by_cases h18 : xn = 18
    · subst h18
      go_enter Tryd.func54, Tryd.ntmps54
      go_wp2_with fail
      go_ret2
      exact ManyX.of (a := 2) (b := true) rfl rfl HB.out
    by_cases h28 : xn = 28
    · subst h28
      go_enter Tryd.func54, Tryd.ntmps54
      go_wp2_with fail
      go_ret2
      exact ManyX.of (a := 2) (b := true) rfl rfl HB.out
    have f12 : (xn == 12) = false := beq_false_of_ne h12
    have f13 : (xn == 13) = false := beq_false_of_ne h13
    have f14 : (xn == 14) = false := beq_false_of_ne h14
    have f15 : (xn == 15) = false := beq_false_of_ne h15
    have f16 : (xn == 16) = false := beq_false_of_ne h16
    have f17 : (xn == 17) = false := beq_false_of_ne h17
    have f18 : (xn == 18) = false := beq_false_of_ne h18
    have f28 : (xn == 28) = false := beq_false_of_ne h28
    have HN := Lib.hid (show binL xn = false by unfold binL; exact decide_eq_false (by omega))
    clear h12 h13 h14 h15 h16 h17 h18 h28
    go_enter Tryd.func54, Tryd.ntmps54
    go_wp2_with fail
    go_ret2
    exact ManyX.of (a := 0) (b := false) (by unfold manyL; rw [if_pos rfl, HN.out]; rfl) rfl HB.out
  · clear hn
    by_cases h29 : xn = 29
    · subst h29
      have HC := Lib.hid (show Calls Tryd.prog 73 #[.agg #[.int .i64 29, .int .i64 0, .int .i64 0]] _ _ from x73 29 (by decide) (by decide) (by decide) (by decide) _ HT.out)
      go_enter Tryd.func54, Tryd.ntmps54
      go_wp2_with fail
      refine HC.out.mono ?_
      rintro e w2 ⟨b, r, rfl, hb2⟩
      have HB2 := Lib.hid (next_ HB.out hb2)
      clear hb2
      go_wp2_with fail
      go_ret2
      exact ManyX.of (a := effT tab 29) (b := true) rfl rfl HB2.out
    by_cases h30 : xn = 30
    · subst h30
      have HC := Lib.hid (show Calls Tryd.prog 73 #[.agg #[.int .i64 30, .int .i64 0, .int .i64 0]] _ _ from x73 30 (by decide) (by decide) (by decide) (by decide) _ HT.out)
      go_enter Tryd.func54, Tryd.ntmps54
      go_wp2_with fail
      refine HC.out.mono ?_
      rintro e w2 ⟨b, r, rfl, hb2⟩
      have HB2 := Lib.hid (next_ HB.out hb2)
      clear hb2
      go_wp2_with fail
      go_ret2
      exact ManyX.of (a := effT tab 30) (b := true) rfl rfl HB2.out
    by_cases h31 : xn = 31
    · subst h31
      have HC := Lib.hid (show Calls Tryd.prog 73 #[.agg #[.int .i64 31, .int .i64 0, .int .i64 0]] _ _ from x73 31 (by decide) (by decide) (by decide) (by decide) _ HT.out)
      go_enter Tryd.func54, Tryd.ntmps54
      go_wp2_with fail
      refine HC.out.mono ?_
      rintro e w2 ⟨b, r, rfl, hb2⟩
      have HB2 := Lib.hid (next_ HB.out hb2)
      clear hb2
      go_wp2_with fail
      go_ret2
      exact ManyX.of (a := effT tab 31) (b := true) rfl rfl HB2.out
    by_cases h32 : xn = 32
    · subst h32
      have HC := Lib.hid (show Calls Tryd.prog 73 #[.agg #[.int .i64 32, .int .i64 0, .int .i64 0]] _ _ from x73 32 (by decide) (by decide) (by decide) (by decide) _ HT.out)
      go_enter Tryd.func54, Tryd.ntmps54
      go_wp2_with fail
      refine HC.out.mono ?_
      rintro e w2 ⟨b, r, rfl, hb2⟩
      have HB2 := Lib.hid (next_ HB.out hb2)
      clear hb2
      go_wp2_with fail
      go_ret2
      exact ManyX.of (a := effT tab 32) (b := true) rfl rfl HB2.out
    by_cases h24 : xn = 24
    · subst h24
      have HC := Lib.hid (show Calls Tryd.prog 73 #[.agg #[.int .i64 24, .int .i64 0, .int .i64 0]] _ _ from x73 24 (by decide) (by decide) (by decide) (by decide) _ HT.out)
      go_enter Tryd.func54, Tryd.ntmps54
      go_wp2_with fail
      refine HC.out.mono ?_
      rintro e w2 ⟨b, r, rfl, hb2⟩
      have HB2 := Lib.hid (next_ HB.out hb2)
      clear hb2
      go_wp2_with fail
      go_ret2
      exact ManyX.of (a := effT tab 24) (b := true) rfl rfl HB2.out
    by_cases h25 : xn = 25
    · subst h25
      have HC := Lib.hid (show Calls Tryd.prog 73 #[.agg #[.int .i64 25, .int .i64 0, .int .i64 0]] _ _ from x73 25 (by decide) (by decide) (by decide) (by decide) _ HT.out)
      go_enter Tryd.func54, Tryd.ntmps54
      go_wp2_with fail
      refine HC.out.mono ?_
      rintro e w2 ⟨b, r, rfl, hb2⟩
      have HB2 := Lib.hid (next_ HB.out hb2)
      clear hb2
      go_wp2_with fail
      go_ret2
      exact ManyX.of (a := effT tab 25) (b := true) rfl rfl HB2.out
    by_cases h26 : xn = 26
    · subst h26
      have HC := Lib.hid (show Calls Tryd.prog 73 #[.agg #[.int .i64 26, .int .i64 0, .int .i64 0]] _ _ from x73 26 (by decide) (by decide) (by decide) (by decide) _ HT.out)
      go_enter Tryd.func54, Tryd.ntmps54
      go_wp2_with fail
      refine HC.out.mono ?_
      rintro e w2 ⟨b, r, rfl, hb2⟩
      have HB2 := Lib.hid (next_ HB.out hb2)
      clear hb2
      go_wp2_with fail
      go_ret2
      exact ManyX.of (a := effT tab 26) (b := true) rfl rfl HB2.out
    by_cases h27 : xn = 27
    · subst h27
      have HC := Lib.hid (show Calls Tryd.prog 73 #[.agg #[.int .i64 27, .int .i64 0, .int .i64 0]] _ _ from x73 27 (by decide) (by decide) (by decide) (by decide) _ HT.out)
      go_enter Tryd.func54, Tryd.ntmps54
      go_wp2_with fail
      refine HC.out.mono ?_
      rintro e w2 ⟨b, r, rfl, hb2⟩
      have HB2 := Lib.hid (next_ HB.out hb2)
      clear hb2
      go_wp2_with fail
      go_ret2
      exact ManyX.of (a := effT tab 27) (b := true) rfl rfl HB2.out
    have f29 : (xn == 29) = false := beq_false_of_ne h29
    have f30 : (xn == 30) = false := beq_false_of_ne h30
    have f31 : (xn == 31) = false := beq_false_of_ne h31
    have f32 : (xn == 32) = false := beq_false_of_ne h32
    have f24 : (xn == 24) = false := beq_false_of_ne h24
    have f25 : (xn == 25) = false := beq_false_of_ne h25
    have f26 : (xn == 26) = false := beq_false_of_ne h26
    have f27 : (xn == 27) = false := beq_false_of_ne h27
    have HN := Lib.hid (show primL xn = false by unfold primL; exact decide_eq_false (by omega))
    clear h29 h30 h31 h32 h24 h25 h26 h27
    go_enter Tryd.func54, Tryd.ntmps54
    go_wp2_with fail
    go_ret2
    exact ManyX.of (a := 0) (b := false) (by unfold manyL; rw [if_neg (by show ¬ (24 : Int) = 15; decide), if_pos rfl, HN.out]; rfl) rfl HB.out
  · obtain ⟨n0, n1⟩ := hn rfl
    clear hn
    rcases (by omega : xn = 0 ∨ xn = 1 ∨ xn = 2 ∨ xn = 3) with rfl | rfl | rfl | rfl
    · have hx := fun w => run_index_int Tryd.underlying123 (cs := #[.int .i64 1, .int .i64 1, .int .i64 2, .int .i64 0]) (i := 0) (k := .i64) (by decide) rfl w
      replace hx : ∀ w, (Instr.index 123 (.agg #[.int .i64 1, .int .i64 1, .int .i64 2, .int .i64 0]) (.int .i64 0)).run Tryd.prog w = .ok _ w := hx
      go_enter Tryd.func54, Tryd.ntmps54
      go_wp2_with fail
      go_ret2
      exact ManyX.of (a := 1) (b := true) rfl rfl HB.out
    · have hx := fun w => run_index_int Tryd.underlying123 (cs := #[.int .i64 1, .int .i64 1, .int .i64 2, .int .i64 0]) (i := 1) (k := .i64) (by decide) rfl w
      replace hx : ∀ w, (Instr.index 123 (.agg #[.int .i64 1, .int .i64 1, .int .i64 2, .int .i64 0]) (.int .i64 1)).run Tryd.prog w = .ok _ w := hx
      go_enter Tryd.func54, Tryd.ntmps54
      go_wp2_with fail
      go_ret2
      exact ManyX.of (a := 1) (b := true) rfl rfl HB.out
    · have hx := fun w => run_index_int Tryd.underlying123 (cs := #[.int .i64 1, .int .i64 1, .int .i64 2, .int .i64 0]) (i := 2) (k := .i64) (by decide) rfl w
      replace hx : ∀ w, (Instr.index 123 (.agg #[.int .i64 1, .int .i64 1, .int .i64 2, .int .i64 0]) (.int .i64 2)).run Tryd.prog w = .ok _ w := hx
      go_enter Tryd.func54, Tryd.ntmps54
      go_wp2_with fail
      go_ret2
      exact ManyX.of (a := 2) (b := true) rfl rfl HB.out
    · have hx := fun w => run_index_int Tryd.underlying123 (cs := #[.int .i64 1, .int .i64 1, .int .i64 2, .int .i64 0]) (i := 3) (k := .i64) (by decide) rfl w
      replace hx : ∀ w, (Instr.index 123 (.agg #[.int .i64 1, .int .i64 1, .int .i64 2, .int .i64 0]) (.int .i64 3)).run Tryd.prog w = .ok _ w := hx
      go_enter Tryd.func54, Tryd.ntmps54
      go_wp2_with fail
      go_ret2
      exact ManyX.of (a := 0) (b := true) rfl rfl HB.out
def pos (v : Int) : Bool := decide (0 ≤ v)
def lt_ (j a : Int) : Bool := decide (j < a)
def countL (tab : Nat → OpRow) (x : Nod) : Bool :=
  if x.k = 15 then binL x.n
  else if x.k = 24 then (manyL tab x).2 && ((pos x.a == lt_ 0 (manyL tab x).1) && (pos x.b == lt_ 1 (manyL tab x).1) && (pos x.c == lt_ 2 (manyL tab x).1))
  else if x.k = 25 then (pos x.a == lt_ 0 (manyL tab x).1) && (pos x.b == lt_ 1 (manyL tab x).1)
  else true
def CountX (tab : Nat → OpRow) (x : Nod) (w : World) (e : Ending) (w' : World) : Prop := e = .returned (.bool (countL tab x)) ∧ Below w.heap.size w w'
theorem CountX.of {tab : Nat → OpRow} {x : Nod} {w : World} {e : Ending} {w' : World} {b : Bool} (h : countL tab x = b) (he : e = .returned (.bool b)) (hb : Below w.heap.size w w') : CountX tab x w e w' := by
  unfold CountX
  rw [h]
  exact ⟨he, hb⟩
theorem many_bin (tab : Nat → OpRow) (xt xt2 : List UInt8) (xn xa xb xc xh : Int) : countL tab ⟨15, xt, xt2, xn, xa, xb, xc, xh⟩ = (manyL tab ⟨15, xt, xt2, xn, xa, xb, xc, xh⟩).2 := by
  show binL xn = (if binL xn = true then ((2 : Int), true) else (0, false)).2
  cases binL xn <;> rfl
theorem count_prim (tab : Nat → OpRow) (xt xt2 : List UInt8) (xn xa xb xc xh : Int) : countL tab ⟨24, xt, xt2, xn, xa, xb, xc, xh⟩ = ((manyL tab ⟨24, xt, xt2, xn, xa, xb, xc, xh⟩).2 && ((pos xa == lt_ 0 (manyL tab ⟨24, xt, xt2, xn, xa, xb, xc, xh⟩).1) && (pos xb == lt_ 1 (manyL tab ⟨24, xt, xt2, xn, xa, xb, xc, xh⟩).1) && (pos xc == lt_ 2 (manyL tab ⟨24, xt, xt2, xn, xa, xb, xc, xh⟩).1))) := rfl
theorem count_host (tab : Nat → OpRow) (xt xt2 : List UInt8) (xn xa xb xc xh : Int) : countL tab ⟨25, xt, xt2, xn, xa, xb, xc, xh⟩ = ((pos xa == lt_ 0 (manyL tab ⟨25, xt, xt2, xn, xa, xb, xc, xh⟩).1) && (pos xb == lt_ 1 (manyL tab ⟨25, xt, xt2, xn, xa, xb, xc, xh⟩).1)) := rfl
theorem many_host (tab : Nat → OpRow) (xt xt2 : List UInt8) (xn xa xb xc xh : Int) : (manyL tab ⟨25, xt, xt2, xn, xa, xb, xc, xh⟩).2 = true := rfl
set_option maxRecDepth 100000 in
set_option maxHeartbeats 16000000 in
theorem x36 {tab : Nat → OpRow} (x : Nod) (w : World) (ht : OpIs tab w) (hn : x.k = 25 → 0 ≤ x.n ∧ x.n < 4) : Calls Tryd.prog 36 #[.agg (nodC x).toArray] w (CountX tab x w) := by
  obtain ⟨xk, xt, xt2, xn, xa, xb, xc, xh⟩ := x
  simp only at hn
  show Calls Tryd.prog 36 #[.agg #[.int .i64 xk, strV xt, strV xt2, .int .i64 xn, .int .i64 xa, .int .i64 xb, .int .i64 xc, .int .i64 xh]] w _
  have hb := below_new w (.cells #[.int .i64 xk, strV xt, strV xt2, .int .i64 xn, .int .i64 xa, .int .i64 xb, .int .i64 xc, .int .i64 xh] 30)
  have HX := Lib.hid (Blk.new w 30 #[.int .i64 xk, strV xt, strV xt2, .int .i64 xn, .int .i64 xa, .int .i64 xb, .int .i64 xc, .int .i64 xh])
  have HT := Lib.hid (ht.next hb)
  have HB := Lib.hid hb
  have HN := Lib.hid hn
  clear hb ht hn
  by_cases h15 : xk = 15
  case neg =>
    by_cases h24 : xk = 24
    case neg =>
      by_cases h25 : xk = 25
      case neg =>
        have f15 : (xk == 15) = false := beq_false_of_ne h15
        have f24 : (xk == 24) = false := beq_false_of_ne h24
        have f25 : (xk == 25) = false := beq_false_of_ne h25
        have HK := Lib.hid (show countL tab ⟨xk, xt, xt2, xn, xa, xb, xc, xh⟩ = true by simp only [countL]; rw [if_neg h15, if_neg h24, if_neg h25])
        have g15 : (xk != 15) = true := bne_iff_ne.2 h15
        have g24 : (xk != 24) = true := bne_iff_ne.2 h24
        have g25 : (xk != 25) = true := bne_iff_ne.2 h25
        clear h15 h24 h25
        go_enter Tryd.func36, Tryd.ntmps36
        go_wp2_with fail
        go_ret
        exact CountX.of HK.out rfl HB.out
      case pos =>
        subst h25
        have hmn := x54 ⟨25, xt, xt2, xn, xa, xb, xc, xh⟩ _ HT.out (.inr (.inr rfl)) (fun h => HN.out (rfl))
        have hcl := count_host tab xt xt2 xn xa xb xc xh
        have hrr := many_host tab xt xt2 xn xa xb xc xh
        unfold ManyX at hmn
        obtain ⟨a, ha⟩ : ∃ a, a = (manyL tab ⟨25, xt, xt2, xn, xa, xb, xc, xh⟩).1 := ⟨_, rfl⟩
        obtain ⟨r, hr⟩ : ∃ r, r = (manyL tab ⟨25, xt, xt2, xn, xa, xb, xc, xh⟩).2 := ⟨_, rfl⟩
        rw [← ha, ← hr] at hmn
        rw [← ha] at hcl
        rw [← hr] at hrr
        subst hrr
        have HCL := Lib.hid hcl
        have HC := Lib.hid (show Calls Tryd.prog 54 #[.agg #[.int .i64 25, strV xt, strV xt2, .int .i64 xn, .int .i64 xa, .int .i64 xb, .int .i64 xc, .int .i64 xh]] _ _ from hmn)
        clear ha hr hcl hmn
        go_enter Tryd.func36, Tryd.ntmps36
        go_wp2_with fail
        refine HC.out.mono ?_
        rintro e w2 ⟨rfl, hb2⟩
        have HB2 := Lib.hid (next_ HB.out hb2)
        have HX2 := Lib.hid (HX.out.next hb2)
        clear hb2 HX HC
        generalize w.heap.size = xb0 at HX2 ⊢
        have x0 : w2.cell? ⟨xb0, 0, none⟩ = some (.int .i64 25) := HX2.out.cell 0
        have x4 : w2.cell? ⟨xb0, 4, none⟩ = some (.int .i64 xa) := HX2.out.cell 4
        have x5 : w2.cell? ⟨xb0, 5, none⟩ = some (.int .i64 xb) := HX2.out.cell 5
        have x6 : w2.cell? ⟨xb0, 6, none⟩ = some (.int .i64 xc) := HX2.out.cell 6
        go_wp2_with fail
        have hx0 : ∀ w, (Instr.index 51 (.agg #[.int .i64 xa, .int .i64 xb, .int .i64 xc]) (.int .i64 0)).run Tryd.prog w = .ok (.int .i64 xa) w := fun w => run_index_int Tryd.underlying51 (cs := #[.int .i64 xa, .int .i64 xb, .int .i64 xc]) (i := 0) (k := .i64) (by decide) rfl w
        have hx1 : ∀ w, (Instr.index 51 (.agg #[.int .i64 xa, .int .i64 xb, .int .i64 xc]) (.int .i64 1)).run Tryd.prog w = .ok (.int .i64 xb) w := fun w => run_index_int Tryd.underlying51 (cs := #[.int .i64 xa, .int .i64 xb, .int .i64 xc]) (i := 1) (k := .i64) (by decide) rfl w
        have hx2 : ∀ w, (Instr.index 51 (.agg #[.int .i64 xa, .int .i64 xb, .int .i64 xc]) (.int .i64 2)).run Tryd.prog w = .ok (.int .i64 xc) w := fun w => run_index_int Tryd.underlying51 (cs := #[.int .i64 xa, .int .i64 xb, .int .i64 xc]) (i := 2) (k := .i64) (by decide) rfl w
        go_loopw [34] (fun i wr => ∃ k : Nat, k ≤ 3 ∧ i = .int .i64 k ∧ wr = w2 ∧ (0 < k → (pos xa == lt_ 0 a) = true) ∧ (1 < k → (pos xb == lt_ 1 a) = true) ∧ (2 < k → (pos xc == lt_ 2 a) = true)) (fun i _ => 3 - (intOf i).toNat)
        case atStart => exact ⟨0, by omega, rfl, rfl, fun h => by omega, fun h => by omega, fun h => by omega⟩
        case round =>
          obtain ⟨k, hk, rfl, rfl, h0, h1, h2⟩ := hrel
          have H0 := Lib.hid h0
          have H1 := Lib.hid h1
          have H2 := Lib.hid h2
          clear h0 h1 h2
          rcases (by omega : k = 0 ∨ k = 1 ∨ k = 2 ∨ k = 3) with rfl | rfl | rfl | rfl
          · by_cases hv : 0 ≤ xa
            · by_cases ha : (0 : Int) < a
              · have HE := Lib.hid (show (pos xa == lt_ 0 a) = true by unfold pos lt_; rw [decide_eq_true hv, decide_eq_true ha]; rfl)
                go_wp2_with fail
                go_roundw
                case rel => exact ⟨1, by omega, by go_num, by first | rfl | trivial, fun _ => HE.out, fun h => by omega, fun h => by omega⟩
                case measure => simp [intOf]
              · have HE := Lib.hid (show (pos xa == lt_ 0 a) = false by unfold pos lt_; rw [decide_eq_true hv, decide_eq_false ha]; rfl)
                go_wp2_with fail
                go_ret
                exact CountX.of (b := false) (by rw [HCL.out, HE.out]; simp) rfl HB2.out
            · by_cases ha : (0 : Int) < a
              · have HE := Lib.hid (show (pos xa == lt_ 0 a) = false by unfold pos lt_; rw [decide_eq_false hv, decide_eq_true ha]; rfl)
                go_wp2_with fail
                go_ret
                exact CountX.of (b := false) (by rw [HCL.out, HE.out]; simp) rfl HB2.out
              · have HE := Lib.hid (show (pos xa == lt_ 0 a) = true by unfold pos lt_; rw [decide_eq_false hv, decide_eq_false ha]; rfl)
                go_wp2_with fail
                go_roundw
                case rel => exact ⟨1, by omega, by go_num, by first | rfl | trivial, fun _ => HE.out, fun h => by omega, fun h => by omega⟩
                case measure => simp [intOf]
          · by_cases hv : 0 ≤ xb
            · by_cases ha : (1 : Int) < a
              · have HE := Lib.hid (show (pos xb == lt_ 1 a) = true by unfold pos lt_; rw [decide_eq_true hv, decide_eq_true ha]; rfl)
                go_wp2_with fail
                go_roundw
                case rel => exact ⟨2, by omega, by go_num, by first | rfl | trivial, fun _ => H0.out (by omega), fun _ => HE.out, fun h => by omega⟩
                case measure => simp [intOf]
              · have HE := Lib.hid (show (pos xb == lt_ 1 a) = false by unfold pos lt_; rw [decide_eq_true hv, decide_eq_false ha]; rfl)
                go_wp2_with fail
                go_ret
                exact CountX.of (b := false) (by rw [HCL.out, HE.out]; simp) rfl HB2.out
            · by_cases ha : (1 : Int) < a
              · have HE := Lib.hid (show (pos xb == lt_ 1 a) = false by unfold pos lt_; rw [decide_eq_false hv, decide_eq_true ha]; rfl)
                go_wp2_with fail
                go_ret
                exact CountX.of (b := false) (by rw [HCL.out, HE.out]; simp) rfl HB2.out
              · have HE := Lib.hid (show (pos xb == lt_ 1 a) = true by unfold pos lt_; rw [decide_eq_false hv, decide_eq_false ha]; rfl)
                go_wp2_with fail
                go_roundw
                case rel => exact ⟨2, by omega, by go_num, by first | rfl | trivial, fun _ => H0.out (by omega), fun _ => HE.out, fun h => by omega⟩
                case measure => simp [intOf]
          · go_wp2_with fail
            go_ret
            exact CountX.of (b := true) (by rw [HCL.out, H0.out (by omega), H1.out (by omega)]; rfl) rfl HB2.out
          · go_wp2_with fail
            go_ret
            exact CountX.of (b := true) (by rw [HCL.out, H0.out (by omega), H1.out (by omega)]; rfl) rfl HB2.out
    case pos =>
      subst h24
      have hmn := x54 ⟨24, xt, xt2, xn, xa, xb, xc, xh⟩ _ HT.out (.inr (.inl rfl)) (fun h => HN.out (by simp at h))
      have hcl := count_prim tab xt xt2 xn xa xb xc xh
      unfold ManyX at hmn
      obtain ⟨a, ha⟩ : ∃ a, a = (manyL tab ⟨24, xt, xt2, xn, xa, xb, xc, xh⟩).1 := ⟨_, rfl⟩
      obtain ⟨r, hr⟩ : ∃ r, r = (manyL tab ⟨24, xt, xt2, xn, xa, xb, xc, xh⟩).2 := ⟨_, rfl⟩
      rw [← ha, ← hr] at hmn
      rw [← ha, ← hr] at hcl
      have HCL := Lib.hid hcl
      have HC := Lib.hid (show Calls Tryd.prog 54 #[.agg #[.int .i64 24, strV xt, strV xt2, .int .i64 xn, .int .i64 xa, .int .i64 xb, .int .i64 xc, .int .i64 xh]] _ _ from hmn)
      clear ha hr hcl hmn
      go_enter Tryd.func36, Tryd.ntmps36
      go_wp2_with fail
      refine HC.out.mono ?_
      rintro e w2 ⟨rfl, hb2⟩
      have HB2 := Lib.hid (next_ HB.out hb2)
      have HX2 := Lib.hid (HX.out.next hb2)
      clear hb2 HX HC
      generalize w.heap.size = xb0 at HX2 ⊢
      have x0 : w2.cell? ⟨xb0, 0, none⟩ = some (.int .i64 24) := HX2.out.cell 0
      have x4 : w2.cell? ⟨xb0, 4, none⟩ = some (.int .i64 xa) := HX2.out.cell 4
      have x5 : w2.cell? ⟨xb0, 5, none⟩ = some (.int .i64 xb) := HX2.out.cell 5
      have x6 : w2.cell? ⟨xb0, 6, none⟩ = some (.int .i64 xc) := HX2.out.cell 6
      cases r with
      | false =>
        go_wp2_with fail
        go_ret
        exact CountX.of (b := false) (by rw [HCL.out]; rfl) rfl HB2.out
      | true =>
        go_wp2_with fail
        have hx0 : ∀ w, (Instr.index 51 (.agg #[.int .i64 xa, .int .i64 xb, .int .i64 xc]) (.int .i64 0)).run Tryd.prog w = .ok (.int .i64 xa) w := fun w => run_index_int Tryd.underlying51 (cs := #[.int .i64 xa, .int .i64 xb, .int .i64 xc]) (i := 0) (k := .i64) (by decide) rfl w
        have hx1 : ∀ w, (Instr.index 51 (.agg #[.int .i64 xa, .int .i64 xb, .int .i64 xc]) (.int .i64 1)).run Tryd.prog w = .ok (.int .i64 xb) w := fun w => run_index_int Tryd.underlying51 (cs := #[.int .i64 xa, .int .i64 xb, .int .i64 xc]) (i := 1) (k := .i64) (by decide) rfl w
        have hx2 : ∀ w, (Instr.index 51 (.agg #[.int .i64 xa, .int .i64 xb, .int .i64 xc]) (.int .i64 2)).run Tryd.prog w = .ok (.int .i64 xc) w := fun w => run_index_int Tryd.underlying51 (cs := #[.int .i64 xa, .int .i64 xb, .int .i64 xc]) (i := 2) (k := .i64) (by decide) rfl w
        go_loopw [34] (fun i wr => ∃ k : Nat, k ≤ 3 ∧ i = .int .i64 k ∧ wr = w2 ∧ (0 < k → (pos xa == lt_ 0 a) = true) ∧ (1 < k → (pos xb == lt_ 1 a) = true) ∧ (2 < k → (pos xc == lt_ 2 a) = true)) (fun i _ => 3 - (intOf i).toNat)
        case atStart => exact ⟨0, by omega, rfl, rfl, fun h => by omega, fun h => by omega, fun h => by omega⟩
        case round =>
          obtain ⟨k, hk, rfl, rfl, h0, h1, h2⟩ := hrel
          have H0 := Lib.hid h0
          have H1 := Lib.hid h1
          have H2 := Lib.hid h2
          clear h0 h1 h2
          rcases (by omega : k = 0 ∨ k = 1 ∨ k = 2 ∨ k = 3) with rfl | rfl | rfl | rfl
          · by_cases hv : 0 ≤ xa
            · by_cases ha : (0 : Int) < a
              · have HE := Lib.hid (show (pos xa == lt_ 0 a) = true by unfold pos lt_; rw [decide_eq_true hv, decide_eq_true ha]; rfl)
                go_wp2_with fail
                go_roundw
                case rel => exact ⟨1, by omega, by go_num, by first | rfl | trivial, fun _ => HE.out, fun h => by omega, fun h => by omega⟩
                case measure => simp [intOf]
              · have HE := Lib.hid (show (pos xa == lt_ 0 a) = false by unfold pos lt_; rw [decide_eq_true hv, decide_eq_false ha]; rfl)
                go_wp2_with fail
                go_ret
                exact CountX.of (b := false) (by rw [HCL.out, HE.out]; simp) rfl HB2.out
            · by_cases ha : (0 : Int) < a
              · have HE := Lib.hid (show (pos xa == lt_ 0 a) = false by unfold pos lt_; rw [decide_eq_false hv, decide_eq_true ha]; rfl)
                go_wp2_with fail
                go_ret
                exact CountX.of (b := false) (by rw [HCL.out, HE.out]; simp) rfl HB2.out
              · have HE := Lib.hid (show (pos xa == lt_ 0 a) = true by unfold pos lt_; rw [decide_eq_false hv, decide_eq_false ha]; rfl)
                go_wp2_with fail
                go_roundw
                case rel => exact ⟨1, by omega, by go_num, by first | rfl | trivial, fun _ => HE.out, fun h => by omega, fun h => by omega⟩
                case measure => simp [intOf]
          · by_cases hv : 0 ≤ xb
            · by_cases ha : (1 : Int) < a
              · have HE := Lib.hid (show (pos xb == lt_ 1 a) = true by unfold pos lt_; rw [decide_eq_true hv, decide_eq_true ha]; rfl)
                go_wp2_with fail
                go_roundw
                case rel => exact ⟨2, by omega, by go_num, by first | rfl | trivial, fun _ => H0.out (by omega), fun _ => HE.out, fun h => by omega⟩
                case measure => simp [intOf]
              · have HE := Lib.hid (show (pos xb == lt_ 1 a) = false by unfold pos lt_; rw [decide_eq_true hv, decide_eq_false ha]; rfl)
                go_wp2_with fail
                go_ret
                exact CountX.of (b := false) (by rw [HCL.out, HE.out]; simp) rfl HB2.out
            · by_cases ha : (1 : Int) < a
              · have HE := Lib.hid (show (pos xb == lt_ 1 a) = false by unfold pos lt_; rw [decide_eq_false hv, decide_eq_true ha]; rfl)
                go_wp2_with fail
                go_ret
                exact CountX.of (b := false) (by rw [HCL.out, HE.out]; simp) rfl HB2.out
              · have HE := Lib.hid (show (pos xb == lt_ 1 a) = true by unfold pos lt_; rw [decide_eq_false hv, decide_eq_false ha]; rfl)
                go_wp2_with fail
                go_roundw
                case rel => exact ⟨2, by omega, by go_num, by first | rfl | trivial, fun _ => H0.out (by omega), fun _ => HE.out, fun h => by omega⟩
                case measure => simp [intOf]
          · by_cases hv : 0 ≤ xc
            · by_cases ha : (2 : Int) < a
              · have HE := Lib.hid (show (pos xc == lt_ 2 a) = true by unfold pos lt_; rw [decide_eq_true hv, decide_eq_true ha]; rfl)
                go_wp2_with fail
                go_roundw
                case rel => exact ⟨3, by omega, by go_num, by first | rfl | trivial, fun _ => H0.out (by omega), fun _ => H1.out (by omega), fun _ => HE.out⟩
                case measure => simp [intOf]
              · have HE := Lib.hid (show (pos xc == lt_ 2 a) = false by unfold pos lt_; rw [decide_eq_true hv, decide_eq_false ha]; rfl)
                go_wp2_with fail
                go_ret
                exact CountX.of (b := false) (by rw [HCL.out, HE.out]; simp) rfl HB2.out
            · by_cases ha : (2 : Int) < a
              · have HE := Lib.hid (show (pos xc == lt_ 2 a) = false by unfold pos lt_; rw [decide_eq_false hv, decide_eq_true ha]; rfl)
                go_wp2_with fail
                go_ret
                exact CountX.of (b := false) (by rw [HCL.out, HE.out]; simp) rfl HB2.out
              · have HE := Lib.hid (show (pos xc == lt_ 2 a) = true by unfold pos lt_; rw [decide_eq_false hv, decide_eq_false ha]; rfl)
                go_wp2_with fail
                go_roundw
                case rel => exact ⟨3, by omega, by go_num, by first | rfl | trivial, fun _ => H0.out (by omega), fun _ => H1.out (by omega), fun _ => HE.out⟩
                case measure => simp [intOf]
          · go_wp2_with fail
            go_ret
            exact CountX.of (b := true) (by rw [HCL.out, H0.out (by omega), H1.out (by omega), H2.out (by omega)]; rfl) rfl HB2.out
  case pos =>
    subst h15
    have hmn := x54 ⟨15, xt, xt2, xn, xa, xb, xc, xh⟩ _ HT.out (.inl rfl) (fun h => HN.out (by simp at h))
    have hcl := many_bin tab xt xt2 xn xa xb xc xh
    unfold ManyX at hmn
    obtain ⟨a, ha⟩ : ∃ a, a = (manyL tab ⟨15, xt, xt2, xn, xa, xb, xc, xh⟩).1 := ⟨_, rfl⟩
    obtain ⟨r, hr⟩ : ∃ r, r = (manyL tab ⟨15, xt, xt2, xn, xa, xb, xc, xh⟩).2 := ⟨_, rfl⟩
    rw [← ha, ← hr] at hmn
    rw [← hr] at hcl
    have HCL := Lib.hid hcl
    have HC := Lib.hid (show Calls Tryd.prog 54 #[.agg #[.int .i64 15, strV xt, strV xt2, .int .i64 xn, .int .i64 xa, .int .i64 xb, .int .i64 xc, .int .i64 xh]] _ _ from hmn)
    clear ha hr hcl hmn
    go_enter Tryd.func36, Tryd.ntmps36
    go_wp2_with fail
    refine HC.out.mono ?_
    rintro e w2 ⟨rfl, hb2⟩
    have HB2 := Lib.hid (next_ HB.out hb2)
    have HX2 := Lib.hid (HX.out.next hb2)
    clear hb2 HX HC
    generalize w.heap.size = xb0 at HX2 ⊢
    have x0 : w2.cell? ⟨xb0, 0, none⟩ = some (.int .i64 15) := HX2.out.cell 0
    have x4 : w2.cell? ⟨xb0, 4, none⟩ = some (.int .i64 xa) := HX2.out.cell 4
    have x5 : w2.cell? ⟨xb0, 5, none⟩ = some (.int .i64 xb) := HX2.out.cell 5
    have x6 : w2.cell? ⟨xb0, 6, none⟩ = some (.int .i64 xc) := HX2.out.cell 6
    cases r with
    | false =>
      go_wp2_with fail
      go_ret
      exact CountX.of (b := false) (by rw [HCL.out]) rfl HB2.out
    | true =>
      go_wp2_with fail
      have hx0 : ∀ w, (Instr.index 51 (.agg #[.int .i64 xa, .int .i64 xb, .int .i64 xc]) (.int .i64 0)).run Tryd.prog w = .ok (.int .i64 xa) w := fun w => run_index_int Tryd.underlying51 (cs := #[.int .i64 xa, .int .i64 xb, .int .i64 xc]) (i := 0) (k := .i64) (by decide) rfl w
      have hx1 : ∀ w, (Instr.index 51 (.agg #[.int .i64 xa, .int .i64 xb, .int .i64 xc]) (.int .i64 1)).run Tryd.prog w = .ok (.int .i64 xb) w := fun w => run_index_int Tryd.underlying51 (cs := #[.int .i64 xa, .int .i64 xb, .int .i64 xc]) (i := 1) (k := .i64) (by decide) rfl w
      have hx2 : ∀ w, (Instr.index 51 (.agg #[.int .i64 xa, .int .i64 xb, .int .i64 xc]) (.int .i64 2)).run Tryd.prog w = .ok (.int .i64 xc) w := fun w => run_index_int Tryd.underlying51 (cs := #[.int .i64 xa, .int .i64 xb, .int .i64 xc]) (i := 2) (k := .i64) (by decide) rfl w
      go_loopw [34] (fun i wr => ∃ k : Nat, k ≤ 3 ∧ i = .int .i64 k ∧ wr = w2) (fun i _ => 3 - (intOf i).toNat)
      case atStart => exact ⟨0, by omega, rfl, rfl⟩
      case round =>
        obtain ⟨k, hk, rfl, rfl⟩ := hrel
        rcases (by omega : k = 0 ∨ k = 1 ∨ k = 2 ∨ k = 3) with rfl | rfl | rfl | rfl
        · go_wp2_with fail
          go_roundw
          case rel => exact ⟨1, by omega, by go_num, by first | rfl | trivial⟩
          case measure => simp [intOf]
        · go_wp2_with fail
          go_roundw
          case rel => exact ⟨2, by omega, by go_num, by first | rfl | trivial⟩
          case measure => simp [intOf]
        · go_wp2_with fail
          go_roundw
          case rel => exact ⟨3, by omega, by go_num, by first | rfl | trivial⟩
          case measure => simp [intOf]
        · go_wp2_with fail
          go_ret
          exact CountX.of (b := true) HCL.out rfl HB2.out
def okQ (q : UInt8) : Bool := decide (q.toNat = 10) || (decide (32 ≤ q.toNat) && decide (q.toNat ≤ 126))
def quoteB (s : List UInt8) : Bool := decide (s.length ≤ 60) && s.all okQ
theorem okQ_ten {q : UInt8} (h : (q.toNat : Int) = 10) : okQ q = true := by unfold okQ; rw [decide_eq_true (by omega)]; rfl
theorem okQ_in {q : UInt8} (h : (32 : Int) ≤ (q.toNat : Int)) (h2 : (q.toNat : Int) ≤ 126) : okQ q = true := by unfold okQ; rw [decide_eq_true (show 32 ≤ q.toNat by omega), decide_eq_true (show q.toNat ≤ 126 by omega)]; simp
theorem okQ_lo {q : UInt8} (h : ¬ (q.toNat : Int) = 10) (h2 : ¬ (32 ≤ q.toNat ∧ q.toNat ≤ 126)) : okQ q = false := by
  unfold okQ
  rw [decide_eq_false (show ¬ q.toNat = 10 by omega)]
  by_cases h3 : 32 ≤ q.toNat
  · rw [decide_eq_false (show ¬ q.toNat ≤ 126 by omega)]; simp
  · rw [decide_eq_false h3]; rfl
theorem quote_bad {s : List UInt8} {k : Nat} {q : UInt8} (h : s[k]? = some q) (hq : okQ q = false) : quoteB s = false := by
  unfold quoteB
  have : s.all okQ = false := by
    rw [List.all_eq_false]
    exact ⟨q, List.mem_of_getElem? h, by rw [hq]; decide⟩
  rw [this, Bool.and_false]
theorem all_snoc {s : List UInt8} {k : Nat} {q : UInt8} (h : s[k]? = some q) (ha : (s.take k).all okQ = true) (hq : okQ q = true) : (s.take (k + 1)).all okQ = true := by
  rw [List.take_add_one, h, List.all_append, ha]
  simp [hq]
theorem quote_all {s : List UInt8} (hl : s.length ≤ 60) (h : (s.take s.length).all okQ = true) : quoteB s = true := by
  rw [List.take_length] at h
  unfold quoteB
  rw [h, decide_eq_true hl]
  rfl
theorem quote_long {s : List UInt8} (hl : ¬ s.length ≤ 60) : quoteB s = false := by
  unfold quoteB
  rw [decide_eq_false hl]
  rfl
def QuoteX (s : List UInt8) (w : World) (e : Ending) (w' : World) : Prop := ∃ s' : ByteArray, e = .returned (.tuple #[.string s', .bool (quoteB s)]) ∧ Below w.heap.size w w'
set_option maxRecDepth 100000 in
set_option maxHeartbeats 4000000 in
theorem x53 (s : List UInt8) (hs : s.length ≤ 281474976710656) (w : World) : Calls Tryd.prog 53 #[strV s] w (QuoteX s w) := by
  have hz := strV_size s
  show Calls Tryd.prog 53 #[.string ⟨s.toArray⟩] w _
  obtain ⟨i5, fi5, hz0, hz1, hz2⟩ := info_parts u8_info
  have H5 := Lib.hid (show i5.zero = some (.int .u8 0) ∧ i5.size = 1 ∧ i5.bytes = 1 from ⟨hz0, hz1, hz2⟩)
  clear hz0 hz1 hz2
  by_cases hl : s.length ≤ 60
  · have hl' : (s.length : Int) ≤ 60 := by omega
    have hB0 : BRow w (w.alloc (.cells #[.int .u8 34] 5)) (some ⟨w.heap.size, 0, none⟩) 1 [34] := ⟨own_new w (Nat.le_refl _) rfl (by unfold maxLen; decide), below_new w _⟩
    have HB0 := Lib.hid hB0
    clear hB0
    go_enter Tryd.func53, Tryd.ntmps53
    go_wp2_with fail
    generalize w.alloc (.cells #[.int .u8 34] 5) = w0 at HB0 ⊢
    generalize w.heap.size = xb at HB0 ⊢
    go_loopw [4, 13] (fun b i wr => ∃ (k : Nat) (L : List UInt8) (A : Option Addr) (c : Nat), (s.take k).all okQ = true ∧ k ≤ s.length ∧ i = .int .i64 k ∧ b = .slice A L.length c ∧ BRow w wr A c L ∧ L.length ≤ 2 * k + 1) (fun _ i _ => s.length - (intOf i).toNat)
    case atStart => exact ⟨0, [34], _, 1, rfl, by omega, rfl, rfl, HB0.out, by simp⟩
    case round =>
      obtain ⟨k, L, A, c, hal, hk, rfl, rfl, hb, hL⟩ := hrel
      have HAL := Lib.hid hal
      clear hal
      have HB := Lib.hid hb
      have HL := Lib.hid (show L.length ≤ 121 by omega)
      have HL2 := Lib.hid hL
      clear hb hL
      by_cases hlt : k < s.length
      · have hlk : (k : Int) < (s.length : Int) := by omega
        have hk0 : (0 : Int) ≤ (k : Int) := by omega
        go_upto_region 9 with fail
        have HQ := Lib.hid (show s[k]? = some ((ByteArray.mk s.toArray)[k]'(by rw [hz]; exact hlt)) from List.getElem?_eq_getElem hlt)
        generalize (ByteArray.mk s.toArray)[k]'(by rw [hz]; exact hlt) = q at HQ ⊢
        by_cases h10 : (q.toNat : Int) = 10
        · have e1 : ((q.toNat : Int) == 10) = true := beq_iff_eq.2 h10
          have OK := Lib.hid (show okQ q = true from okQ_ten h10)
          go_wp2_with (at_builtin; refine wpList_append_any _ rfl (.tmp 26) (.tmp 27) 40 rfl w.heap.size 5 i5 _ 1 1 Tryd.underlying40 fi5 H5.out.1 H5.out.2.1 H5.out.2.2 rfl (by omega) (.slice A L.length c) L.length (cellsB L) rfl (own_next HB.out.own (below_new _ _)) (wr.heap.size + 1) (some ⟨wr.heap.size, 0, none⟩) 2 2 (cellsB [92, 110]) rfl (newB wr [92, 110]) (cellsB_one _) (by unfold maxLen; have := HL.out; omega) (by have := HL.out; omega) (by rw [World.size_alloc]; have := HB.out.low.size; omega) ?_; intro v1 w7 oA gA nA; obtain ⟨A1, c1, rfl, hB1⟩ := HB.out.push oA gA; have HB1 := Lib.hid hB1; clear oA gA nA hB1)
          go_roundw
          case rel => exact ⟨k + 1, _, A1, c1, all_snoc HQ.out HAL.out OK.out, by omega, by go_num, by rw [List.length_append]; rfl, HB1.out, by have := HL2.out; rw [List.length_append]; simp only [List.length_cons, List.length_nil]; omega⟩
          case measure => simp [intOf]; omega
        have e1 : ((q.toNat : Int) == 10) = false := beq_false_of_ne h10
        by_cases h31 : (q.toNat : Int) < 32
        · have NO := Lib.hid (quote_bad HQ.out (okQ_lo h10 (by omega)))
          go_wp2_with fail
          go_ret2
          exact ⟨_, by rw [NO.out]; rfl, HB.out.low⟩
        by_cases h126 : (126 : Int) < (q.toNat : Int)
        · have NO := Lib.hid (quote_bad HQ.out (okQ_lo h10 (by omega)))
          go_wp2_with fail
          go_ret2
          exact ⟨_, by rw [NO.out]; rfl, HB.out.low⟩
        have OK := Lib.hid (show okQ q = true from okQ_in (by omega) (by omega))
        by_cases h34 : (q.toNat : Int) = 34
        · have e2 : ((q.toNat : Int) == 34) = true := beq_iff_eq.2 h34
          go_wp2_with (at_builtin; refine wpList_append_any _ rfl (.tmp 43) (.tmp 45) 40 rfl w.heap.size 5 i5 _ 1 1 Tryd.underlying40 fi5 H5.out.1 H5.out.2.1 H5.out.2.2 rfl (by omega) (.slice A L.length c) L.length (cellsB L) rfl (own_next HB.out.own (below_new _ _)) (wr.heap.size + 1) (some ⟨wr.heap.size, 0, none⟩) 2 2 (cellsB [92, 34]) rfl (newB wr [92, 34]) (cellsB_one _) (by unfold maxLen; have := HL.out; omega) (by have := HL.out; omega) (by rw [World.size_alloc]; have := HB.out.low.size; omega) ?_; intro v1 w7 oA gA nA; obtain ⟨A1, c1, rfl, hB1⟩ := HB.out.push oA gA; have HB1 := Lib.hid hB1; clear oA gA nA hB1)
          go_roundw
          case rel => exact ⟨k + 1, _, A1, c1, all_snoc HQ.out HAL.out OK.out, by omega, by go_num, by rw [List.length_append]; rfl, HB1.out, by have := HL2.out; rw [List.length_append]; simp only [List.length_cons, List.length_nil]; omega⟩
          case measure => simp [intOf]; omega
        have e2 : ((q.toNat : Int) == 34) = false := beq_false_of_ne h34
        by_cases h92 : (q.toNat : Int) = 92
        · have e3 : ((q.toNat : Int) == 92) = true := beq_iff_eq.2 h92
          go_wp2_with (at_builtin; refine wpList_append_any _ rfl (.tmp 43) (.tmp 45) 40 rfl w.heap.size 5 i5 _ 1 1 Tryd.underlying40 fi5 H5.out.1 H5.out.2.1 H5.out.2.2 rfl (by omega) (.slice A L.length c) L.length (cellsB L) rfl (own_next HB.out.own (below_new _ _)) (wr.heap.size + 1) (some ⟨wr.heap.size, 0, none⟩) 2 2 (cellsB [92, 92]) rfl (newB wr [92, 92]) (cellsB_one _) (by unfold maxLen; have := HL.out; omega) (by have := HL.out; omega) (by rw [World.size_alloc]; have := HB.out.low.size; omega) ?_; intro v1 w7 oA gA nA; obtain ⟨A1, c1, rfl, hB1⟩ := HB.out.push oA gA; have HB1 := Lib.hid hB1; clear oA gA nA hB1)
          go_roundw
          case rel => exact ⟨k + 1, _, A1, c1, all_snoc HQ.out HAL.out OK.out, by omega, by go_num, by rw [List.length_append]; rfl, HB1.out, by have := HL2.out; rw [List.length_append]; simp only [List.length_cons, List.length_nil]; omega⟩
          case measure => simp [intOf]; omega
        have e3 : ((q.toNat : Int) == 92) = false := beq_false_of_ne h92
        go_wp2_with (at_builtin; refine wpList_append_any _ rfl (.tmp 19) (.tmp 21) 40 rfl w.heap.size 5 i5 _ 1 1 Tryd.underlying40 fi5 H5.out.1 H5.out.2.1 H5.out.2.2 rfl (by omega) (.slice A L.length c) L.length (cellsB L) rfl (own_next HB.out.own (below_new _ _)) (wr.heap.size + 1) (some ⟨wr.heap.size, 0, none⟩) 1 1 (cellsB [q]) rfl (newB wr [q]) (cellsB_one _) (by unfold maxLen; have := HL.out; omega) (by have := HL.out; omega) (by rw [World.size_alloc]; have := HB.out.low.size; omega) ?_; intro v1 w7 oA gA nA; obtain ⟨A1, c1, rfl, hB1⟩ := HB.out.push oA gA; have HB1 := Lib.hid hB1; clear oA gA nA hB1)
        go_roundw
        case rel => exact ⟨k + 1, _, A1, c1, all_snoc HQ.out HAL.out OK.out, by omega, by go_num, by rw [List.length_append]; rfl, HB1.out, by have := HL2.out; rw [List.length_append]; simp only [List.length_cons, List.length_nil]; omega⟩
        case measure => simp [intOf]; omega
      · obtain rfl : k = s.length := by omega
        have hlk : ¬ ((s.length : Int) < (s.length : Int)) := by omega
        go_upto_region 16 with fail
        go_wp2_with (at_builtin; refine wpList_append_any _ rfl (.tmp 48) (.tmp 49) 40 rfl w.heap.size 5 i5 _ 1 1 Tryd.underlying40 fi5 H5.out.1 H5.out.2.1 H5.out.2.2 rfl (by omega) (.slice A L.length c) L.length (cellsB L) rfl (own_next HB.out.own (below_new _ _)) (wr.heap.size + 1) (some ⟨wr.heap.size, 0, none⟩) 1 1 (cellsB [34]) rfl (newB wr [34]) (cellsB_one _) (by unfold maxLen; have := HL.out; omega) (by have := HL.out; omega) (by rw [World.size_alloc]; have := HB.out.low.size; omega) ?_; intro v1 w7 oA gA nA; obtain ⟨A1, c1, rfl, hB1⟩ := HB.out.push oA gA; have HB1 := Lib.hid hB1; have hcv : (convert 40 9 (.slice A1 (L.length + 1) c1)).run Tryd.prog w7 = .ok (.string ⟨(L ++ [34]).toArray⟩) w7 := run_conv (by rw [List.length_append]; rfl) (by have h9 := Reads.of_own hB1.own; rw [List.length_append] at h9; exact h9); clear oA gA nA hB1)
        go_ret2
        exact ⟨_, by rw [quote_all hl HAL.out]; rfl, HB1.out.low⟩
  · have hl' : (60 : Int) < (s.length : Int) := by omega
    go_enter Tryd.func53, Tryd.ntmps53
    go_wp2_with fail
    go_ret2
    exact ⟨_, by rw [quote_long (by omega)]; rfl, Below.refl _ _⟩
def textQ (s : List UInt8) (k : Int) : Bool := if k = 4 then quoteB s else textL s k
def TextX (s : List UInt8) (k : Int) (w : World) (e : Ending) (w' : World) : Prop := e = .returned (.bool (textQ s k)) ∧ Below w.heap.size w w'
set_option maxRecDepth 100000 in
set_option maxHeartbeats 4000000 in
theorem x35 (s : List UInt8) (k : Int) (hl : s.length ≤ 281474976710656) (w : World) (hw : WordsTab w) : Calls Tryd.prog 35 #[strV s, .int .i64 k] w (TextX s k w) := by
  have H1 := Lib.hid (c51 s hl w hw)
  have H2 := Lib.hid (c52 s hl w hw)
  have H4 := Lib.hid (x53 s hl w)
  clear hw
  show Calls Tryd.prog 35 #[.string ⟨s.toArray⟩, .int .i64 k] w _
  by_cases k1 : k = 1
  · subst k1
    go_enter Tryd.func35, Tryd.ntmps35
    go_wp2_with fail
    refine H1.out.mono ?_
    rintro e w1 ⟨rfl, hb⟩
    have HB := Lib.hid hb
    clear hb
    go_wp2_with fail
    go_ret
    exact ⟨rfl, HB.out⟩
  by_cases k2 : k = 2
  · subst k2
    by_cases h5 : s = [95]
    · have ff : (s == [95]) = true := beq_iff_eq.2 h5
      have F := Lib.hid ff
      clear h5
      go_enter Tryd.func35, Tryd.ntmps35
      go_wp2_with fail
      go_ret
      exact ⟨by rw [show textQ s 2 = true by unfold textQ textL; rw [if_neg (by omega), if_neg (by omega), if_pos rfl, F.out]; rfl]; rfl, Below.refl _ _⟩
    · have ff : (s == [95]) = false := beq_false_of_ne h5
      have F := Lib.hid ff
      clear h5
      go_enter Tryd.func35, Tryd.ntmps35
      go_wp2_with fail
      refine H1.out.mono ?_
      rintro e w1 ⟨rfl, hb⟩
      have HB := Lib.hid hb
      clear hb
      go_wp2_with fail
      go_ret
      exact ⟨by rw [show textQ s 2 = isL s 1 by unfold textQ textL; rw [if_neg (by omega), if_neg (by omega), if_pos rfl, F.out]; rfl]; rfl, HB.out⟩
  by_cases k3 : k = 3
  · subst k3
    go_enter Tryd.func35, Tryd.ntmps35
    go_wp2_with fail
    refine H2.out.mono ?_
    rintro e w1 ⟨rfl, hb⟩
    have HB := Lib.hid hb
    clear hb
    go_wp2_with fail
    go_ret
    exact ⟨rfl, HB.out⟩
  by_cases k4 : k = 4
  · subst k4
    go_enter Tryd.func35, Tryd.ntmps35
    go_wp2_with fail
    refine H4.out.mono ?_
    rintro e w1 ⟨q, rfl, hb⟩
    have HB := Lib.hid hb
    clear hb
    go_wp2_with fail
    go_ret
    exact ⟨rfl, HB.out⟩
  have f1 : (k == 1) = false := beq_false_of_ne k1
  have f2 : (k == 2) = false := beq_false_of_ne k2
  have f3 : (k == 3) = false := beq_false_of_ne k3
  have f4 : (k == 4) = false := beq_false_of_ne k4
  have HK := Lib.hid (show k ≠ 1 ∧ k ≠ 2 ∧ k ≠ 3 ∧ k ≠ 4 from ⟨k1, k2, k3, k4⟩)
  clear k1 k2 k3 k4
  by_cases h5 : s = []
  · have ff : (s == []) = true := beq_iff_eq.2 h5
    have F := Lib.hid ff
    clear h5
    go_enter Tryd.func35, Tryd.ntmps35
    go_wp2_with fail
    go_ret
    exact ⟨by rw [show textQ s k = (s == []) by unfold textQ textL; rw [if_neg HK.out.2.2.2, if_neg HK.out.1, if_neg HK.out.2.1, if_neg HK.out.2.2.1], F.out]; rfl, Below.refl _ _⟩
  · have ff : (s == []) = false := beq_false_of_ne h5
    have F := Lib.hid ff
    clear h5
    go_enter Tryd.func35, Tryd.ntmps35
    go_wp2_with fail
    go_ret
    exact ⟨by rw [show textQ s k = (s == []) by unfold textQ textL; rw [if_neg HK.out.2.2.2, if_neg HK.out.1, if_neg HK.out.2.1, if_neg HK.out.2.2.1], F.out]; rfl, Below.refl _ _⟩
def chC (r : RowA) (x : Nod) : List Value := [.int .u8 r.a, .int .i64 x.a, .int .u8 r.b, .int .i64 x.b, .int .u8 r.c, .int .i64 x.c]
theorem row6 {w : World} {b : Nat} {t : TypeId} {u0 u1 u2 u3 u4 u5 v0 v1 v2 v3 v4 v5 : Value} (h : Blk w b t #[u0, u1, u2, u3, u4, u5]) :
    Blk ((((((w.setCell ⟨b, 0, none⟩ v0).setCell ⟨b, 1, none⟩ v1).setCell ⟨b, 2, none⟩ v2).setCell ⟨b, 3, none⟩ v3).setCell ⟨b, 4, none⟩ v4).setCell ⟨b, 5, none⟩ v5) b t #[v0, v1, v2, v3, v4, v5] := by
  have h1 := (((((h.set_ 0 v0).set_ 1 v1).set_ 2 v2).set_ 3 v3).set_ 4 v4).set_ 5 v5
  simpa only [List.setIfInBounds_toArray, List.set_cons_zero, List.set_cons_succ] using h1
theorem low6 {w a : World} {B b : Nat} {v0 v1 v2 v3 v4 v5 : Value} (hB : B ≤ b) (h : Below B a w) :
    Below B a ((((((w.setCell ⟨b, 0, none⟩ v0).setCell ⟨b, 1, none⟩ v1).setCell ⟨b, 2, none⟩ v2).setCell ⟨b, 3, none⟩ v3).setCell ⟨b, 4, none⟩ v4).setCell ⟨b, 5, none⟩ v5) :=
  (((((h.setCell (p := ⟨b, 0, none⟩) hB v0).setCell (p := ⟨b, 1, none⟩) hB v1).setCell (p := ⟨b, 2, none⟩) hB v2).setCell (p := ⟨b, 3, none⟩) hB v3).setCell (p := ⟨b, 4, none⟩) hB v4).setCell (p := ⟨b, 5, none⟩) hB v5
set_option maxRecDepth 100000 in
set_option maxHeartbeats 4000000 in
theorem c37 (r : RowA) (x : Nod) (w : World) : Calls Tryd.prog 37 #[.agg (rowC r).toArray, .agg (nodC x).toArray] w fun e w' => e = .returned (.agg (chC r x).toArray) ∧ Below w.heap.size w w' := by
  show Calls Tryd.prog 37 #[.agg #[.int .u8 r.is_, .int .u8 r.a, .int .u8 r.b, .int .u8 r.c, .int .i64 r.text, .int .i64 r.second, .int .i64 r.lo, .int .i64 r.hi], .agg #[.int .i64 x.k, strV x.t, strV x.t2, .int .i64 x.n, .int .i64 x.a, .int .i64 x.b, .int .i64 x.c, .int .i64 x.h]] w _
  have a1 := Blk.new w 59 #[.int .u8 r.is_, .int .u8 r.a, .int .u8 r.b, .int .u8 r.c, .int .i64 r.text, .int .i64 r.second, .int .i64 r.lo, .int .i64 r.hi]
  have b1 := below_new w (.cells #[.int .u8 r.is_, .int .u8 r.a, .int .u8 r.b, .int .u8 r.c, .int .i64 r.text, .int .i64 r.second, .int .i64 r.lo, .int .i64 r.hi] 59)
  have s1 : (w.alloc (.cells #[.int .u8 r.is_, .int .u8 r.a, .int .u8 r.b, .int .u8 r.c, .int .i64 r.text, .int .i64 r.second, .int .i64 r.lo, .int .i64 r.hi] 59)).heap.size = w.heap.size + 1 := by rw [World.size_alloc]
  generalize hw1 : w.alloc (.cells #[.int .u8 r.is_, .int .u8 r.a, .int .u8 r.b, .int .u8 r.c, .int .i64 r.text, .int .i64 r.second, .int .i64 r.lo, .int .i64 r.hi] 59) = w1 at a1 b1 s1
  have a2 := Blk.new w1 30 #[.int .i64 x.k, strV x.t, strV x.t2, .int .i64 x.n, .int .i64 x.a, .int .i64 x.b, .int .i64 x.c, .int .i64 x.h]
  have b2 := next_ b1 (below_new w1 (.cells #[.int .i64 x.k, strV x.t, strV x.t2, .int .i64 x.n, .int .i64 x.a, .int .i64 x.b, .int .i64 x.c, .int .i64 x.h] 30))
  have s2 : (w1.alloc (.cells #[.int .i64 x.k, strV x.t, strV x.t2, .int .i64 x.n, .int .i64 x.a, .int .i64 x.b, .int .i64 x.c, .int .i64 x.h] 30)).heap.size = w.heap.size + 1 + 1 := by rw [World.size_alloc, s1]
  have a1' := a1.next (below_new w1 (.cells #[.int .i64 x.k, strV x.t, strV x.t2, .int .i64 x.n, .int .i64 x.a, .int .i64 x.b, .int .i64 x.c, .int .i64 x.h] 30))
  generalize hw2 : w1.alloc (.cells #[.int .i64 x.k, strV x.t, strV x.t2, .int .i64 x.n, .int .i64 x.a, .int .i64 x.b, .int .i64 x.c, .int .i64 x.h] 30) = w2 at a1' a2 b2 s2
  have a3 := Blk.new w2 82 #[.int .u8 0, .int .i64 0, .int .u8 0, .int .i64 0, .int .u8 0, .int .i64 0]
  have b3 := next_ b2 (below_new w2 (.cells #[.int .u8 0, .int .i64 0, .int .u8 0, .int .i64 0, .int .u8 0, .int .i64 0] 82))
  have a1'' := a1'.next (below_new w2 (.cells #[.int .u8 0, .int .i64 0, .int .u8 0, .int .i64 0, .int .u8 0, .int .i64 0] 82))
  have a2' := a2.next (below_new w2 (.cells #[.int .u8 0, .int .i64 0, .int .u8 0, .int .i64 0, .int .u8 0, .int .i64 0] 82))
  generalize hw3 : w2.alloc (.cells #[.int .u8 0, .int .i64 0, .int .u8 0, .int .i64 0, .int .u8 0, .int .i64 0] 82) = w3 at a1'' a2' a3 b3
  have HR := Lib.hid a1''
  have HN := Lib.hid a2'
  have HZ := Lib.hid a3
  have HB := Lib.hid b3
  have HLE := Lib.hid (show w.heap.size ≤ w2.heap.size by omega)
  clear a1'' a2' a3 b3 a1' a2 b2 a1 b1 s1 s2
  go_enter Tryd.func37, Tryd.ntmps37
  go_upto_region 1 with fail
  clear hw1 hw2 hw3
  generalize w2.heap.size = zb at HZ HLE ⊢
  generalize w1.heap.size = nb at HN ⊢
  generalize w.heap.size = rb at HR ⊢
  have r1 : w3.cell? ⟨rb, 1, none⟩ = some (.int .u8 r.a) := HR.out.cell 1
  have r2 : w3.cell? ⟨rb, 2, none⟩ = some (.int .u8 r.b) := HR.out.cell 2
  have r3 : w3.cell? ⟨rb, 3, none⟩ = some (.int .u8 r.c) := HR.out.cell 3
  have n4 : w3.cell? ⟨nb, 4, none⟩ = some (.int .i64 x.a) := HN.out.cell 4
  have n5 : w3.cell? ⟨nb, 5, none⟩ = some (.int .i64 x.b) := HN.out.cell 5
  have n6 : w3.cell? ⟨nb, 6, none⟩ = some (.int .i64 x.c) := HN.out.cell 6
  have z0 : w3.cell? ⟨zb, 0, none⟩ = some (.int .u8 0) := HZ.out.cell 0
  have f0 := HZ.out.frozen 0
  have z1 : w3.cell? ⟨zb, 1, none⟩ = some (.int .i64 0) := HZ.out.cell 1
  have f1 := HZ.out.frozen 1
  have z2 : w3.cell? ⟨zb, 2, none⟩ = some (.int .u8 0) := HZ.out.cell 2
  have f2 := HZ.out.frozen 2
  have z3 : w3.cell? ⟨zb, 3, none⟩ = some (.int .i64 0) := HZ.out.cell 3
  have f3 := HZ.out.frozen 3
  have z4 : w3.cell? ⟨zb, 4, none⟩ = some (.int .u8 0) := HZ.out.cell 4
  have f4 := HZ.out.frozen 4
  have z5 : w3.cell? ⟨zb, 5, none⟩ = some (.int .i64 0) := HZ.out.cell 5
  have f5 := HZ.out.frozen 5
  go_wp2_with fail
  exact bodyPost_ret (results_cell_row rfl _ _ _ 82 _ (0, 0) _ rfl (row6 HZ.out) Tryd.underlying82 rfl (by kernel_rfl)) rfl ⟨rfl, low6 HLE.out HB.out⟩
abbrev ptr (g : Nat) : Value := .pointer (some ⟨g, 0, none⟩)
structure AskIs (W0 w : World) (g pb : Nat) (A A' : Option Addr) (c c' : Nat) (t : Tre) (ps : List Int) : Prop where
  ask : Blk w g 56 #[.slice A t.l.length c, .slice A' t.y.length c', .int .i64 t.r, .slice (some ⟨pb, 0, none⟩) ps.length ps.length]
  cnt : Blk w pb 3 (ps.map intV).toArray
  le : W0.heap.size ≤ pb
  low : Below W0.heap.size W0 w
theorem AskIs.next {W0 w w' : World} {g pb : Nat} {A A' : Option Addr} {c c' : Nat} {t : Tre} {ps : List Int} (h : AskIs W0 w g pb A A' c c' t ps) (hb : Below w.heap.size w w') : AskIs W0 w' g pb A A' c c' t ps :=
  ⟨h.ask.next hb, h.cnt.next hb, h.le, next_ h.low hb⟩
theorem AskIs.ne {W0 w : World} {g pb : Nat} {A A' : Option Addr} {c c' : Nat} {t : Tre} {ps : List Int} (h : AskIs W0 w g pb A A' c c' t ps) : g ≠ pb := h.ask.ne_ h.cnt (by decide)
def bump (v : Int) : Int := wrap64 (v + 1)
theorem AskIs.bumped {W0 w : World} {g pb : Nat} {A A' : Option Addr} {c c' : Nat} {t : Tre} {ps : List Int} (h : AskIs W0 w g pb A A' c c' t ps) {a : Nat} (ha : a < ps.length) :
    AskIs W0 (w.setCell ⟨pb, a, none⟩ (.int .i64 (wrap64 (ps[a] + 1)))) g pb A A' c c' t (ps.modify a bump) := by
  refine ⟨?_, ?_, h.le, h.low.setCell (p := ⟨pb, a, none⟩) h.le _⟩
  · rw [List.length_modify]
    exact h.ask.far h.ne _
  · have h1 := h.cnt.set_ a (.int .i64 (wrap64 (ps[a] + 1)))
    have e : ((ps.map intV).toArray).setIfInBounds a (.int .i64 (wrap64 (ps[a] + 1))) = ((ps.modify a bump).map intV).toArray := by
      rw [List.setIfInBounds_toArray]
      congr 1
      apply List.ext_getElem?
      intro j
      rw [List.getElem?_set, List.getElem?_map, List.getElem?_map, List.getElem?_modify]
      by_cases hj : a = j
      · subst hj
        simp [ha, intV, bump]
      · simp [hj]
    rw [← e]
    exact h1
def bumpL (is at_ : Int) (me : Nat) (ps : List Int) : List Int :=
  if is = 0 then ps else if is < 97 ∧ at_ = -1 then ps else if 0 ≤ at_ ∧ at_ < me then ps.modify at_.toNat bump else ps
def childL (t : Tre) (is at_ : Int) (me : Nat) : Bool :=
  if is = 0 then at_ == 0 else if is < 97 ∧ at_ = -1 then true else if 0 ≤ at_ ∧ at_ < me then (match t.l[at_.toNat]? with | some x => (ofL x).1.is_ == (if is < 97 then is + 32 else is) | none => false) else false
def ChildEnd (W0 : World) (g pb : Nat) (A A' : Option Addr) (c c' : Nat) (t : Tre) (ps : List Int) (is at_ : Int) (me : Nat) (w : World) (e : Ending) (w' : World) : Prop :=
  e = .returned (.bool (childL t is at_ me)) ∧ AskIs W0 w' g pb A A' c c' t (bumpL is at_ me ps) ∧ w.grownBy w' (some pb)
set_option maxRecDepth 100000 in
set_option maxHeartbeats 4000000 in
theorem c38 {W0 : World} {g pb : Nat} {A A' : Option Addr} {c c' : Nat} {t : Tre} {ps : List Int} (is at_ : Int) (me : Nat) (w : World) (hA : AskIs W0 w g pb A A' c c' t ps) (hT : TreIs W0 A A' t) (hS : AstTab W0)
    (hi : 0 ≤ is) (hme : me < t.l.length) (hl : t.l.length ≤ 1000) (hps : ps.length = t.l.length) :
    Calls Tryd.prog 38 #[ptr g, .int .u8 is, .int .i64 at_, .int .i64 (me : Int)] w (ChildEnd W0 g pb A A' c c' t ps is at_ me w) := by
  have HA := Lib.hid hA
  have HT := Lib.hid hT
  have HS := Lib.hid hS
  clear hA hT hS
  have HM := Lib.hid hme
  have HP := Lib.hid hps
  by_cases h0 : is = 0
  · subst h0
    have E1 := Lib.hid (show childL t 0 at_ me = (at_ == 0) from rfl)
    have E2 := Lib.hid (show bumpL 0 at_ me ps = ps from rfl)
    by_cases ha : at_ = 0
    · subst ha
      go_enter Tryd.func38, Tryd.ntmps38
      go_wp2_with fail
      go_ret
      exact ⟨by rw [E1.out]; rfl, by rw [E2.out]; exact HA.out, grown_of_below (Below.refl _ _) _⟩
    · have fa : (at_ == 0) = false := beq_false_of_ne ha
      have FA := Lib.hid fa
      clear ha
      go_enter Tryd.func38, Tryd.ntmps38
      go_wp2_with fail
      go_ret
      exact ⟨by rw [E1.out, FA.out]; rfl, by rw [E2.out]; exact HA.out, grown_of_below (Below.refl _ _) _⟩
  have f0 : (is == 0) = false := beq_false_of_ne h0
  by_cases h97 : is < 97
  · skip
    by_cases hm : at_ = -1
    · subst hm
      have E1 := Lib.hid (show childL t is (-1) me = true by unfold childL; rw [if_neg h0, if_pos ⟨h97, rfl⟩])
      have E2 := Lib.hid (show bumpL is (-1) me ps = ps by unfold bumpL; rw [if_neg h0, if_pos ⟨h97, rfl⟩])
      clear h0
      go_enter Tryd.func38, Tryd.ntmps38
      go_wp2_with fail
      go_ret
      exact ⟨by rw [E1.out]; rfl, by rw [E2.out]; exact HA.out, grown_of_below (Below.refl _ _) _⟩
    have fm : (at_ == -1) = false := beq_false_of_ne hm
    have HM1 := Lib.hid hm
    clear hm
    by_cases hlo : at_ < 0
    · have E1 := Lib.hid (show childL t is at_ me = false by unfold childL; rw [if_neg h0, if_neg (by rintro ⟨_, h⟩; exact HM1.out h), if_neg (by omega)])
      have E2 := Lib.hid (show bumpL is at_ me ps = ps by unfold bumpL; rw [if_neg h0, if_neg (by rintro ⟨_, h⟩; exact HM1.out h), if_neg (by omega)])
      clear HM1 h0
      go_enter Tryd.func38, Tryd.ntmps38
      go_wp2_with fail
      go_ret
      exact ⟨by rw [E1.out]; rfl, by rw [E2.out]; exact HA.out, grown_of_below (Below.refl _ _) _⟩
    by_cases hhi : (me : Int) ≤ at_
    · have E1 := Lib.hid (show childL t is at_ me = false by unfold childL; rw [if_neg h0, if_neg (by rintro ⟨_, h⟩; exact HM1.out h), if_neg (by omega)])
      have E2 := Lib.hid (show bumpL is at_ me ps = ps by unfold bumpL; rw [if_neg h0, if_neg (by rintro ⟨_, h⟩; exact HM1.out h), if_neg (by omega)])
      clear HM1 h0
      go_enter Tryd.func38, Tryd.ntmps38
      go_wp2_with fail
      go_ret
      exact ⟨by rw [E1.out]; rfl, by rw [E2.out]; exact HA.out, grown_of_below (Below.refl _ _) _⟩
    obtain ⟨a, ha⟩ : ∃ a : Nat, at_ = (a : Int) := ⟨at_.toNat, by omega⟩
    have ham : a < me := by omega
    have hal : a < t.l.length := by omega
    have hap : a < ps.length := by omega
    have hxa : t.l[a]? = some t.l[a] := List.getElem?_eq_getElem hal
    obtain ⟨x, hx⟩ : ∃ x, x = t.l[a] := ⟨_, rfl⟩
    rw [← hx] at hxa
    have E1 := Lib.hid (show childL t is at_ me = ((ofL x).1.is_ == is + 32) by unfold childL; rw [if_neg h0, if_neg (by rintro ⟨_, h⟩; exact HM1.out h), if_pos (by omega), ha, show ((a : Int)).toNat = a from rfl, hxa, if_pos h97])
    have E2 := Lib.hid (show bumpL is at_ me ps = ps.modify a bump by unfold bumpL; rw [if_neg h0, if_neg (by rintro ⟨_, h⟩; exact HM1.out h), if_pos (by omega), ha]; rfl)
    rw [ha] at E1 E2 ⊢
    have fm2 : ((a : Int) == -1) = false := beq_false_of_ne (by omega)
    have i1 : (0 : Int) ≤ (a : Int) := by omega
    have i2 : (a : Int) < (me : Int) := by omega
    have i3 : (a : Int) < (ps.length : Int) := by omega
    have i4 : (a : Int) < (t.l.length : Int) := by omega
    have x3 : w.cell? ⟨g, 3, none⟩ = some (.slice (some ⟨pb, 0, none⟩) ps.length ps.length) := HA.out.ask.cell 3
    have pa : w.cell? ⟨pb, a, none⟩ = some (.int .i64 ps[a]) := by
      rw [HA.out.cnt.cell a]
      simp [intV, List.getElem?_eq_getElem hap]
    have fz := HA.out.cnt.frozen a
    have HA1 := Lib.hid (HA.out.bumped hap)
    have HG := Lib.hid (grown_set w pb a (.int .i64 (wrap64 (ps[a] + 1))))
    have HXA := Lib.hid hxa
    clear hx hxa HM1 h0
    go_enter Tryd.func38, Tryd.ntmps38
    go_upto_region 10 with fail
    generalize w.setCell ⟨pb, a, none⟩ (.int .i64 (wrap64 (ps[a] + 1))) = w1 at HA1 HG ⊢
    obtain ⟨ad, rfl, hadb, hcs⟩ := (HT.out.next HA1.out.low).nodes.nodAt HXA.out
    have HCS := Lib.hid hcs
    have HC := Lib.hid (c34 x w1 (HS.out.next HA1.out.low))
    have hps1 : (ps.modify a bump).length = t.l.length := by rw [List.length_modify]; exact HP.out
    have x0 : w1.cell? ⟨g, 0, none⟩ = some (.slice (some ad) t.l.length c) := HA1.out.ask.cell 0
    clear hcs hadb x3 pa fz
    go_upto_region 11 with (first | (refine wpList_load_at rfl 30 (.tmp 46) rfl (ad.add (a * 8)) rfl (nodC x) _ HCS.out Tryd.underlying30 rfl (by kernel_rfl) ?_))
    refine HC.out.mono ?_
    rintro e w2 ⟨rfl, hb2⟩
    have HA2 := Lib.hid (HA1.out.next hb2)
    have HG2 := Lib.hid (HG.out.trans (grown_of_below hb2 _))
    clear hb2 HC HA1 HG x0
    obtain ⟨r, hr⟩ : ∃ r, r = (ofL x).1 := ⟨_, rfl⟩
    rw [← hr] at E1 ⊢
    obtain ⟨u, hu⟩ : ∃ u, u = (ofL x).2 := ⟨_, rfl⟩
    rw [← hu]
    clear hr hu
    rw [show (rowC r).toArray = #[.int .u8 r.is_, .int .u8 r.a, .int .u8 r.b, .int .u8 r.c, .int .i64 r.text, .int .i64 r.second, .int .i64 r.lo, .int .i64 r.hi] from rfl]
    have HA3 := Lib.hid (HA2.out.next (below_new w2 (.cells #[.int .u8 r.is_, .int .u8 r.a, .int .u8 r.b, .int .u8 r.c, .int .i64 r.text, .int .i64 r.second, .int .i64 r.lo, .int .i64 r.hi] 59)))
    have HG3 := Lib.hid (HG2.out.trans (grown_of_below (below_new w2 (.cells #[.int .u8 r.is_, .int .u8 r.a, .int .u8 r.b, .int .u8 r.c, .int .i64 r.text, .int .i64 r.second, .int .i64 r.lo, .int .i64 r.hi] 59)) _))
    go_wp2_with fail
    go_ret
    exact ⟨by rw [E1.out]; rfl, by rw [E2.out]; exact HA3.out, HG3.out⟩
  · have HM1 := Lib.hid h0
    by_cases hlo : at_ < 0
    · have E1 := Lib.hid (show childL t is at_ me = false by unfold childL; rw [if_neg h0, if_neg (by rintro ⟨h, _⟩; omega), if_neg (by omega)])
      have E2 := Lib.hid (show bumpL is at_ me ps = ps by unfold bumpL; rw [if_neg h0, if_neg (by rintro ⟨h, _⟩; omega), if_neg (by omega)])
      clear HM1 h0
      go_enter Tryd.func38, Tryd.ntmps38
      go_wp2_with fail
      go_ret
      exact ⟨by rw [E1.out]; rfl, by rw [E2.out]; exact HA.out, grown_of_below (Below.refl _ _) _⟩
    by_cases hhi : (me : Int) ≤ at_
    · have E1 := Lib.hid (show childL t is at_ me = false by unfold childL; rw [if_neg h0, if_neg (by rintro ⟨h, _⟩; omega), if_neg (by omega)])
      have E2 := Lib.hid (show bumpL is at_ me ps = ps by unfold bumpL; rw [if_neg h0, if_neg (by rintro ⟨h, _⟩; omega), if_neg (by omega)])
      clear HM1 h0
      go_enter Tryd.func38, Tryd.ntmps38
      go_wp2_with fail
      go_ret
      exact ⟨by rw [E1.out]; rfl, by rw [E2.out]; exact HA.out, grown_of_below (Below.refl _ _) _⟩
    obtain ⟨a, ha⟩ : ∃ a : Nat, at_ = (a : Int) := ⟨at_.toNat, by omega⟩
    have ham : a < me := by omega
    have hal : a < t.l.length := by omega
    have hap : a < ps.length := by omega
    have hxa : t.l[a]? = some t.l[a] := List.getElem?_eq_getElem hal
    obtain ⟨x, hx⟩ : ∃ x, x = t.l[a] := ⟨_, rfl⟩
    rw [← hx] at hxa
    have E1 := Lib.hid (show childL t is at_ me = ((ofL x).1.is_ == is) by unfold childL; rw [if_neg h0, if_neg (by rintro ⟨h, _⟩; omega), if_pos (by omega), ha, show ((a : Int)).toNat = a from rfl, hxa, if_neg h97])
    have E2 := Lib.hid (show bumpL is at_ me ps = ps.modify a bump by unfold bumpL; rw [if_neg h0, if_neg (by rintro ⟨h, _⟩; omega), if_pos (by omega), ha]; rfl)
    rw [ha] at E1 E2 ⊢
    
    have i1 : (0 : Int) ≤ (a : Int) := by omega
    have i2 : (a : Int) < (me : Int) := by omega
    have i3 : (a : Int) < (ps.length : Int) := by omega
    have i4 : (a : Int) < (t.l.length : Int) := by omega
    have x3 : w.cell? ⟨g, 3, none⟩ = some (.slice (some ⟨pb, 0, none⟩) ps.length ps.length) := HA.out.ask.cell 3
    have pa : w.cell? ⟨pb, a, none⟩ = some (.int .i64 ps[a]) := by
      rw [HA.out.cnt.cell a]
      simp [intV, List.getElem?_eq_getElem hap]
    have fz := HA.out.cnt.frozen a
    have HA1 := Lib.hid (HA.out.bumped hap)
    have HG := Lib.hid (grown_set w pb a (.int .i64 (wrap64 (ps[a] + 1))))
    have HXA := Lib.hid hxa
    clear hx hxa HM1 h0
    go_enter Tryd.func38, Tryd.ntmps38
    go_upto_region 10 with fail
    generalize w.setCell ⟨pb, a, none⟩ (.int .i64 (wrap64 (ps[a] + 1))) = w1 at HA1 HG ⊢
    obtain ⟨ad, rfl, hadb, hcs⟩ := (HT.out.next HA1.out.low).nodes.nodAt HXA.out
    have HCS := Lib.hid hcs
    have HC := Lib.hid (c34 x w1 (HS.out.next HA1.out.low))
    have hps1 : (ps.modify a bump).length = t.l.length := by rw [List.length_modify]; exact HP.out
    have x0 : w1.cell? ⟨g, 0, none⟩ = some (.slice (some ad) t.l.length c) := HA1.out.ask.cell 0
    clear hcs hadb x3 pa fz
    go_upto_region 11 with (first | (refine wpList_load_at rfl 30 (.tmp 46) rfl (ad.add (a * 8)) rfl (nodC x) _ HCS.out Tryd.underlying30 rfl (by kernel_rfl) ?_))
    refine HC.out.mono ?_
    rintro e w2 ⟨rfl, hb2⟩
    have HA2 := Lib.hid (HA1.out.next hb2)
    have HG2 := Lib.hid (HG.out.trans (grown_of_below hb2 _))
    clear hb2 HC HA1 HG x0
    obtain ⟨r, hr⟩ : ∃ r, r = (ofL x).1 := ⟨_, rfl⟩
    rw [← hr] at E1 ⊢
    obtain ⟨u, hu⟩ : ∃ u, u = (ofL x).2 := ⟨_, rfl⟩
    rw [← hu]
    clear hr hu
    rw [show (rowC r).toArray = #[.int .u8 r.is_, .int .u8 r.a, .int .u8 r.b, .int .u8 r.c, .int .i64 r.text, .int .i64 r.second, .int .i64 r.lo, .int .i64 r.hi] from rfl]
    have HA3 := Lib.hid (HA2.out.next (below_new w2 (.cells #[.int .u8 r.is_, .int .u8 r.a, .int .u8 r.b, .int .u8 r.c, .int .i64 r.text, .int .i64 r.second, .int .i64 r.lo, .int .i64 r.hi] 59)))
    have HG3 := Lib.hid (HG2.out.trans (grown_of_below (below_new w2 (.cells #[.int .u8 r.is_, .int .u8 r.a, .int .u8 r.b, .int .u8 r.c, .int .i64 r.text, .int .i64 r.second, .int .i64 r.lo, .int .i64 r.hi] 59)) _))
    go_wp2_with fail
    go_ret
    exact ⟨by rw [E1.out]; rfl, by rw [E2.out]; exact HA3.out, HG3.out⟩
def CountEnd (x : Nod) (w : World) (e : Ending) (w' : World) : Prop := ∃ r : Bool, e = .returned (.bool r) ∧ (x.k ≠ 15 → x.k ≠ 24 → x.k ≠ 25 → r = true) ∧ (x.k = 15 → r = binL x.n) ∧ Below w.heap.size w w'
set_option maxRecDepth 100000 in
set_option maxHeartbeats 16000000 in
theorem c36 (x : Nod) (w : World) (ht : OpTab w) (hn : x.k = 25 → 0 ≤ x.n ∧ x.n < 4) : Calls Tryd.prog 36 #[.agg (nodC x).toArray] w (CountEnd x w) := by
  obtain ⟨xk, xt, xt2, xn, xa, xb, xc, xh⟩ := x
  simp only at hn
  show Calls Tryd.prog 36 #[.agg #[.int .i64 xk, strV xt, strV xt2, .int .i64 xn, .int .i64 xa, .int .i64 xb, .int .i64 xc, .int .i64 xh]] w _
  have hb := below_new w (.cells #[.int .i64 xk, strV xt, strV xt2, .int .i64 xn, .int .i64 xa, .int .i64 xb, .int .i64 xc, .int .i64 xh] 30)
  have HX := Lib.hid (Blk.new w 30 #[.int .i64 xk, strV xt, strV xt2, .int .i64 xn, .int .i64 xa, .int .i64 xb, .int .i64 xc, .int .i64 xh])
  have HT := Lib.hid (ht.next hb)
  have HB := Lib.hid hb
  have HN := Lib.hid hn
  clear hb ht hn
  by_cases h15 : xk = 15
  case neg =>
    by_cases h24 : xk = 24
    case neg =>
      by_cases h25 : xk = 25
      case neg =>
        have f15 : (xk == 15) = false := beq_false_of_ne h15
        have f24 : (xk == 24) = false := beq_false_of_ne h24
        have f25 : (xk == 25) = false := beq_false_of_ne h25
        have HK := Lib.hid h15
        have g15 : (xk != 15) = true := bne_iff_ne.2 h15
        have g24 : (xk != 24) = true := bne_iff_ne.2 h24
        have g25 : (xk != 25) = true := bne_iff_ne.2 h25
        clear h15 h24 h25
        go_enter Tryd.func36, Tryd.ntmps36
        go_wp2_with fail
        go_ret
        exact ⟨_, rfl, fun _ _ _ => rfl, fun h => absurd h HK.out, HB.out⟩
      case pos =>
        subst h25
        have HC := Lib.hid (show Calls Tryd.prog 54 #[.agg #[.int .i64 25, strV xt, strV xt2, .int .i64 xn, .int .i64 xa, .int .i64 xb, .int .i64 xc, .int .i64 xh]] _ _ from c54 ⟨25, xt, xt2, xn, xa, xb, xc, xh⟩ _ HT.out (.inr (.inr rfl)) (fun h => HN.out (rfl)))
        go_enter Tryd.func36, Tryd.ntmps36
        go_wp2_with fail
        refine HC.out.mono ?_
        rintro e w2 ⟨a, r, rfl, hr, hb2⟩
        have HR := Lib.hid hr
        have HB2 := Lib.hid (next_ HB.out hb2)
        have HX2 := Lib.hid (HX.out.next hb2)
        clear hb2 hr HX HC
        generalize w.heap.size = xb0 at HX2 ⊢
        have x0 : w2.cell? ⟨xb0, 0, none⟩ = some (.int .i64 25) := HX2.out.cell 0
        have x4 : w2.cell? ⟨xb0, 4, none⟩ = some (.int .i64 xa) := HX2.out.cell 4
        have x5 : w2.cell? ⟨xb0, 5, none⟩ = some (.int .i64 xb) := HX2.out.cell 5
        have x6 : w2.cell? ⟨xb0, 6, none⟩ = some (.int .i64 xc) := HX2.out.cell 6
        cases r with
        | false =>
          go_wp2_with fail
          go_ret
          exact ⟨_, rfl, fun h1 h2 h3 => absurd rfl h3, fun h => absurd (show (25 : Int) = 15 from h) (by decide), HB2.out⟩
        | true =>
          go_wp2_with fail
          have hx0 : ∀ w, (Instr.index 51 (.agg #[.int .i64 xa, .int .i64 xb, .int .i64 xc]) (.int .i64 0)).run Tryd.prog w = .ok (.int .i64 xa) w := fun w => run_index_int Tryd.underlying51 (cs := #[.int .i64 xa, .int .i64 xb, .int .i64 xc]) (i := 0) (k := .i64) (by decide) rfl w
          have hx1 : ∀ w, (Instr.index 51 (.agg #[.int .i64 xa, .int .i64 xb, .int .i64 xc]) (.int .i64 1)).run Tryd.prog w = .ok (.int .i64 xb) w := fun w => run_index_int Tryd.underlying51 (cs := #[.int .i64 xa, .int .i64 xb, .int .i64 xc]) (i := 1) (k := .i64) (by decide) rfl w
          have hx2 : ∀ w, (Instr.index 51 (.agg #[.int .i64 xa, .int .i64 xb, .int .i64 xc]) (.int .i64 2)).run Tryd.prog w = .ok (.int .i64 xc) w := fun w => run_index_int Tryd.underlying51 (cs := #[.int .i64 xa, .int .i64 xb, .int .i64 xc]) (i := 2) (k := .i64) (by decide) rfl w
          go_loopw [34] (fun i wr => ∃ k : Nat, k ≤ 3 ∧ i = .int .i64 k ∧ wr = w2) (fun i _ => 3 - (intOf i).toNat)
          case atStart => exact ⟨0, by omega, rfl, rfl⟩
          case round =>
            obtain ⟨k, hk, rfl, rfl⟩ := hrel
            rcases (by omega : k = 0 ∨ k = 1 ∨ k = 2 ∨ k = 3) with rfl | rfl | rfl | rfl
            · by_cases hv : 0 ≤ xa
              · by_cases ha : (0 : Int) < a
                · go_wp2_with fail
                  go_roundw
                  case rel => exact ⟨1, by omega, by go_num, by first | rfl | trivial⟩
                  case measure => simp [intOf]
                · go_wp2_with fail
                  go_ret
                  exact ⟨_, rfl, fun h1 h2 h3 => absurd rfl h3, fun h => absurd (show (25 : Int) = 15 from h) (by decide), HB2.out⟩
              · by_cases ha : (0 : Int) < a
                · go_wp2_with fail
                  go_ret
                  exact ⟨_, rfl, fun h1 h2 h3 => absurd rfl h3, fun h => absurd (show (25 : Int) = 15 from h) (by decide), HB2.out⟩
                · go_wp2_with fail
                  go_roundw
                  case rel => exact ⟨1, by omega, by go_num, by first | rfl | trivial⟩
                  case measure => simp [intOf]
            · by_cases hv : 0 ≤ xb
              · by_cases ha : (1 : Int) < a
                · go_wp2_with fail
                  go_roundw
                  case rel => exact ⟨2, by omega, by go_num, by first | rfl | trivial⟩
                  case measure => simp [intOf]
                · go_wp2_with fail
                  go_ret
                  exact ⟨_, rfl, fun h1 h2 h3 => absurd rfl h3, fun h => absurd (show (25 : Int) = 15 from h) (by decide), HB2.out⟩
              · by_cases ha : (1 : Int) < a
                · go_wp2_with fail
                  go_ret
                  exact ⟨_, rfl, fun h1 h2 h3 => absurd rfl h3, fun h => absurd (show (25 : Int) = 15 from h) (by decide), HB2.out⟩
                · go_wp2_with fail
                  go_roundw
                  case rel => exact ⟨2, by omega, by go_num, by first | rfl | trivial⟩
                  case measure => simp [intOf]
            · go_wp2_with fail
              go_ret
              exact ⟨_, rfl, fun h1 h2 h3 => absurd rfl h3, fun h => absurd (show (25 : Int) = 15 from h) (by decide), HB2.out⟩
            · go_wp2_with fail
              go_ret
              exact ⟨_, rfl, fun h1 h2 h3 => absurd rfl h3, fun h => absurd (show (25 : Int) = 15 from h) (by decide), HB2.out⟩
    case pos =>
      subst h24
      have HC := Lib.hid (show Calls Tryd.prog 54 #[.agg #[.int .i64 24, strV xt, strV xt2, .int .i64 xn, .int .i64 xa, .int .i64 xb, .int .i64 xc, .int .i64 xh]] _ _ from c54 ⟨24, xt, xt2, xn, xa, xb, xc, xh⟩ _ HT.out (.inr (.inl rfl)) (fun h => HN.out (by simp at h)))
      go_enter Tryd.func36, Tryd.ntmps36
      go_wp2_with fail
      refine HC.out.mono ?_
      rintro e w2 ⟨a, r, rfl, hr, hb2⟩
      have HR := Lib.hid hr
      have HB2 := Lib.hid (next_ HB.out hb2)
      have HX2 := Lib.hid (HX.out.next hb2)
      clear hb2 hr HX HC
      generalize w.heap.size = xb0 at HX2 ⊢
      have x0 : w2.cell? ⟨xb0, 0, none⟩ = some (.int .i64 24) := HX2.out.cell 0
      have x4 : w2.cell? ⟨xb0, 4, none⟩ = some (.int .i64 xa) := HX2.out.cell 4
      have x5 : w2.cell? ⟨xb0, 5, none⟩ = some (.int .i64 xb) := HX2.out.cell 5
      have x6 : w2.cell? ⟨xb0, 6, none⟩ = some (.int .i64 xc) := HX2.out.cell 6
      cases r with
      | false =>
        go_wp2_with fail
        go_ret
        exact ⟨_, rfl, fun h1 h2 h3 => absurd rfl h2, fun h => absurd (show (24 : Int) = 15 from h) (by decide), HB2.out⟩
      | true =>
        go_wp2_with fail
        have hx0 : ∀ w, (Instr.index 51 (.agg #[.int .i64 xa, .int .i64 xb, .int .i64 xc]) (.int .i64 0)).run Tryd.prog w = .ok (.int .i64 xa) w := fun w => run_index_int Tryd.underlying51 (cs := #[.int .i64 xa, .int .i64 xb, .int .i64 xc]) (i := 0) (k := .i64) (by decide) rfl w
        have hx1 : ∀ w, (Instr.index 51 (.agg #[.int .i64 xa, .int .i64 xb, .int .i64 xc]) (.int .i64 1)).run Tryd.prog w = .ok (.int .i64 xb) w := fun w => run_index_int Tryd.underlying51 (cs := #[.int .i64 xa, .int .i64 xb, .int .i64 xc]) (i := 1) (k := .i64) (by decide) rfl w
        have hx2 : ∀ w, (Instr.index 51 (.agg #[.int .i64 xa, .int .i64 xb, .int .i64 xc]) (.int .i64 2)).run Tryd.prog w = .ok (.int .i64 xc) w := fun w => run_index_int Tryd.underlying51 (cs := #[.int .i64 xa, .int .i64 xb, .int .i64 xc]) (i := 2) (k := .i64) (by decide) rfl w
        go_loopw [34] (fun i wr => ∃ k : Nat, k ≤ 3 ∧ i = .int .i64 k ∧ wr = w2) (fun i _ => 3 - (intOf i).toNat)
        case atStart => exact ⟨0, by omega, rfl, rfl⟩
        case round =>
          obtain ⟨k, hk, rfl, rfl⟩ := hrel
          rcases (by omega : k = 0 ∨ k = 1 ∨ k = 2 ∨ k = 3) with rfl | rfl | rfl | rfl
          · by_cases hv : 0 ≤ xa
            · by_cases ha : (0 : Int) < a
              · go_wp2_with fail
                go_roundw
                case rel => exact ⟨1, by omega, by go_num, by first | rfl | trivial⟩
                case measure => simp [intOf]
              · go_wp2_with fail
                go_ret
                exact ⟨_, rfl, fun h1 h2 h3 => absurd rfl h2, fun h => absurd (show (24 : Int) = 15 from h) (by decide), HB2.out⟩
            · by_cases ha : (0 : Int) < a
              · go_wp2_with fail
                go_ret
                exact ⟨_, rfl, fun h1 h2 h3 => absurd rfl h2, fun h => absurd (show (24 : Int) = 15 from h) (by decide), HB2.out⟩
              · go_wp2_with fail
                go_roundw
                case rel => exact ⟨1, by omega, by go_num, by first | rfl | trivial⟩
                case measure => simp [intOf]
          · by_cases hv : 0 ≤ xb
            · by_cases ha : (1 : Int) < a
              · go_wp2_with fail
                go_roundw
                case rel => exact ⟨2, by omega, by go_num, by first | rfl | trivial⟩
                case measure => simp [intOf]
              · go_wp2_with fail
                go_ret
                exact ⟨_, rfl, fun h1 h2 h3 => absurd rfl h2, fun h => absurd (show (24 : Int) = 15 from h) (by decide), HB2.out⟩
            · by_cases ha : (1 : Int) < a
              · go_wp2_with fail
                go_ret
                exact ⟨_, rfl, fun h1 h2 h3 => absurd rfl h2, fun h => absurd (show (24 : Int) = 15 from h) (by decide), HB2.out⟩
              · go_wp2_with fail
                go_roundw
                case rel => exact ⟨2, by omega, by go_num, by first | rfl | trivial⟩
                case measure => simp [intOf]
          · by_cases hv : 0 ≤ xc
            · by_cases ha : (2 : Int) < a
              · go_wp2_with fail
                go_roundw
                case rel => exact ⟨3, by omega, by go_num, by first | rfl | trivial⟩
                case measure => simp [intOf]
              · go_wp2_with fail
                go_ret
                exact ⟨_, rfl, fun h1 h2 h3 => absurd rfl h2, fun h => absurd (show (24 : Int) = 15 from h) (by decide), HB2.out⟩
            · by_cases ha : (2 : Int) < a
              · go_wp2_with fail
                go_ret
                exact ⟨_, rfl, fun h1 h2 h3 => absurd rfl h2, fun h => absurd (show (24 : Int) = 15 from h) (by decide), HB2.out⟩
              · go_wp2_with fail
                go_roundw
                case rel => exact ⟨3, by omega, by go_num, by first | rfl | trivial⟩
                case measure => simp [intOf]
          · go_wp2_with fail
            go_ret
            exact ⟨_, rfl, fun h1 h2 h3 => absurd rfl h2, fun h => absurd (show (24 : Int) = 15 from h) (by decide), HB2.out⟩
  case pos =>
    subst h15
    have HC := Lib.hid (show Calls Tryd.prog 54 #[.agg #[.int .i64 15, strV xt, strV xt2, .int .i64 xn, .int .i64 xa, .int .i64 xb, .int .i64 xc, .int .i64 xh]] _ _ from c54 ⟨15, xt, xt2, xn, xa, xb, xc, xh⟩ _ HT.out (.inl rfl) (fun h => HN.out (by simp at h)))
    go_enter Tryd.func36, Tryd.ntmps36
    go_wp2_with fail
    refine HC.out.mono ?_
    rintro e w2 ⟨a, r, rfl, hr, hb2⟩
    have HR := Lib.hid hr
    have HB2 := Lib.hid (next_ HB.out hb2)
    have HX2 := Lib.hid (HX.out.next hb2)
    clear hb2 hr HX HC
    generalize w.heap.size = xb0 at HX2 ⊢
    have x0 : w2.cell? ⟨xb0, 0, none⟩ = some (.int .i64 15) := HX2.out.cell 0
    have x4 : w2.cell? ⟨xb0, 4, none⟩ = some (.int .i64 xa) := HX2.out.cell 4
    have x5 : w2.cell? ⟨xb0, 5, none⟩ = some (.int .i64 xb) := HX2.out.cell 5
    have x6 : w2.cell? ⟨xb0, 6, none⟩ = some (.int .i64 xc) := HX2.out.cell 6
    cases r with
    | false =>
      go_wp2_with fail
      go_ret
      exact ⟨_, rfl, fun h1 h2 h3 => absurd rfl h1, fun _ => HR.out (by first | rfl | trivial), HB2.out⟩
    | true =>
      go_wp2_with fail
      have hx0 : ∀ w, (Instr.index 51 (.agg #[.int .i64 xa, .int .i64 xb, .int .i64 xc]) (.int .i64 0)).run Tryd.prog w = .ok (.int .i64 xa) w := fun w => run_index_int Tryd.underlying51 (cs := #[.int .i64 xa, .int .i64 xb, .int .i64 xc]) (i := 0) (k := .i64) (by decide) rfl w
      have hx1 : ∀ w, (Instr.index 51 (.agg #[.int .i64 xa, .int .i64 xb, .int .i64 xc]) (.int .i64 1)).run Tryd.prog w = .ok (.int .i64 xb) w := fun w => run_index_int Tryd.underlying51 (cs := #[.int .i64 xa, .int .i64 xb, .int .i64 xc]) (i := 1) (k := .i64) (by decide) rfl w
      have hx2 : ∀ w, (Instr.index 51 (.agg #[.int .i64 xa, .int .i64 xb, .int .i64 xc]) (.int .i64 2)).run Tryd.prog w = .ok (.int .i64 xc) w := fun w => run_index_int Tryd.underlying51 (cs := #[.int .i64 xa, .int .i64 xb, .int .i64 xc]) (i := 2) (k := .i64) (by decide) rfl w
      go_loopw [34] (fun i wr => ∃ k : Nat, k ≤ 3 ∧ i = .int .i64 k ∧ wr = w2) (fun i _ => 3 - (intOf i).toNat)
      case atStart => exact ⟨0, by omega, rfl, rfl⟩
      case round =>
        obtain ⟨k, hk, rfl, rfl⟩ := hrel
        rcases (by omega : k = 0 ∨ k = 1 ∨ k = 2 ∨ k = 3) with rfl | rfl | rfl | rfl
        · go_wp2_with fail
          go_roundw
          case rel => exact ⟨1, by omega, by go_num, by first | rfl | trivial⟩
          case measure => simp [intOf]
        · go_wp2_with fail
          go_roundw
          case rel => exact ⟨2, by omega, by go_num, by first | rfl | trivial⟩
          case measure => simp [intOf]
        · go_wp2_with fail
          go_roundw
          case rel => exact ⟨3, by omega, by go_num, by first | rfl | trivial⟩
          case measure => simp [intOf]
        · go_wp2_with fail
          go_ret
          exact ⟨_, rfl, fun h1 h2 h3 => absurd rfl h1, fun _ => HR.out (by first | rfl | trivial), HB2.out⟩
structure Tabs (W : World) : Prop where
  ast : AstTab W
  words : WordsTab W
  op : OpTab W
theorem Tabs.next {w w' : World} (h : Tabs w) (hb : Below w.heap.size w w') : Tabs w' := ⟨h.ast.next hb, h.words.next hb, h.op.next hb⟩
theorem rows_nn : ∀ r ∈ rowsL, 0 ≤ r.a ∧ 0 ≤ r.b ∧ 0 ≤ r.c := by decide
theorem of_row (x : Nod) : (ofL x).1 = zeroR ∨ ∃ r ∈ rowsL, (ofL x).1 = r ∨ (ofL x).1 = { r with c := 116 } := by
  unfold ofL
  split
  case isFalse => exact .inl rfl
  case isTrue h =>
    obtain ⟨r, hr⟩ := rows_at (k := x.k.toNat) (by omega)
    have hd : rowsL.getD x.k.toNat zeroR = r := by rw [List.getD_eq_getElem?_getD, hr]; rfl
    refine .inr ⟨r, List.mem_of_getElem? hr, ?_⟩
    rw [hd]
    split
    · exact .inr rfl
    · exact .inl rfl
theorem of_nn (x : Nod) : 0 ≤ (ofL x).1.a ∧ 0 ≤ (ofL x).1.b ∧ 0 ≤ (ofL x).1.c := by
  rcases of_row x with h | ⟨r, hr, h | h⟩
  · rw [h]; decide
  · rw [h]; exact rows_nn r hr
  · rw [h]; exact ⟨(rows_nn r hr).1, (rows_nn r hr).2.1, by show (0 : Int) ≤ 116; decide⟩
theorem of_host {x : Nod} (h : x.k = 25) : (ofL x).1.lo = 0 ∧ (ofL x).1.hi = 3 := by
  unfold ofL
  rw [if_pos (by omega), h]
  split <;> exact ⟨rfl, rfl⟩
def psK (r : RowA) (x : Nod) (me : Nat) (ps : List Int) : Nat → List Int
  | 0 => ps
  | 1 => bumpL r.a x.a me ps
  | 2 => bumpL r.b x.b me (bumpL r.a x.a me ps)
  | _ => bumpL r.c x.c me (bumpL r.b x.b me (bumpL r.a x.a me ps))
def okK (t : Tre) (r : RowA) (x : Nod) (me : Nat) : Nat → Prop
  | 0 => True
  | 1 => childL t r.a x.a me = true
  | 2 => childL t r.a x.a me = true ∧ childL t r.b x.b me = true
  | _ => childL t r.a x.a me = true ∧ childL t r.b x.b me = true ∧ childL t r.c x.c me = true
theorem bumpL_len (is a : Int) (me : Nat) (ps : List Int) : (bumpL is a me ps).length = ps.length := by
  unfold bumpL
  split
  · rfl
  · split
    · rfl
    · split
      · rw [List.length_modify]
      · rfl
structure Sure (x : Nod) (r : RowA) : Prop where
  lo : r.lo ≤ x.n
  hi : x.n ≤ r.hi
  q1 : r.text ≠ 4
  q2 : r.second ≠ 4
  t1 : textL x.t r.text = true
  t2 : textL x.t2 r.second = true
  k1 : x.k ≠ 24
  k2 : x.k ≠ 25
  k3 : x.k = 15 → binL x.n = true
def NodeEnd (W0 : World) (g pb : Nat) (A A' : Option Addr) (c c' : Nat) (t : Tre) (ps : List Int) (x : Nod) (me : Nat) (w : World) (e : Ending) (w' : World) : Prop :=
  ∃ (q : Bool) (ps' : List Int), e = .returned (.bool q) ∧ ps'.length = ps.length ∧ AskIs W0 w' g pb A A' c c' t ps' ∧ w.grownBy w' (some pb) ∧
    (q = true → (ofL x).2 = true ∧ okK t (ofL x).1 x me 3 ∧ ps' = psK (ofL x).1 x me ps 3) ∧ ((ofL x).2 = true → Sure x (ofL x).1 → okK t (ofL x).1 x me 3 → q = true)
theorem NodeEnd.no {W0 : World} {g pb : Nat} {A A' : Option Addr} {c c' : Nat} {t : Tre} {ps : List Int} {x : Nod} {me : Nat} {w w' : World} (ps' : List Int) (h1 : ps'.length = ps.length) (h2 : AskIs W0 w' g pb A A' c c' t ps') (h3 : w.grownBy w' (some pb))
    (h : (ofL x).2 = true → Sure x (ofL x).1 → okK t (ofL x).1 x me 3 → False) : NodeEnd W0 g pb A A' c c' t ps x me w (.returned (.bool false)) w' :=
  ⟨false, ps', rfl, h1, h2, h3, fun h => absurd h (by decide), fun a b c => (h a b c).elim⟩
theorem NodeEnd.yes {W0 : World} {g pb : Nat} {A A' : Option Addr} {c c' : Nat} {t : Tre} {ps : List Int} {x : Nod} {me : Nat} {w w' : World} (h2 : AskIs W0 w' g pb A A' c c' t (psK (ofL x).1 x me ps 3)) (h3 : w.grownBy w' (some pb)) (hu : (ofL x).2 = true) (ho : okK t (ofL x).1 x me 3) :
    NodeEnd W0 g pb A A' c c' t ps x me w (.returned (.bool true)) w' :=
  ⟨true, _, rfl, by simp only [psK, bumpL_len], h2, h3, fun _ => ⟨hu, ho, rfl⟩, fun _ _ _ => rfl⟩
theorem idx82 (a0 a1 b0 b1 c0 c1 : Value) (w : World) :
    (Instr.index 82 (.agg #[a0, a1, b0, b1, c0, c1]) (.int .i64 0)).run Tryd.prog w = .ok (.agg #[a0, a1]) w ∧ (Instr.index 82 (.agg #[a0, a1, b0, b1, c0, c1]) (.int .i64 1)).run Tryd.prog w = .ok (.agg #[b0, b1]) w ∧ (Instr.index 82 (.agg #[a0, a1, b0, b1, c0, c1]) (.int .i64 2)).run Tryd.prog w = .ok (.agg #[c0, c1]) w := by
  have h1 : Tryd.prog.cellsOf 81 = 2 := by kernel_rfl
  have h2 := Tryd.underlying81
  refine ⟨?_, ?_, ?_⟩ <;> simp [Instr.index, run_underlying Tryd.underlying82, asIntOf, go_sem, part, isAgg, h2]
set_option maxRecDepth 100000 in
set_option maxHeartbeats 8000000 in
theorem c23 {W0 : World} {g pb : Nat} {A A' : Option Addr} {c c' : Nat} {t : Tre} {ps : List Int} (me : Nat) (x : Nod) (w : World) (hA : AskIs W0 w g pb A A' c c' t ps) (hT : TreIs W0 A A' t) (hS : Tabs W0) (hx : t.l[me]? = some x)
    (hl : t.l.length ≤ 1000) (hps : ps.length = t.l.length) (ht : x.t.length ≤ 281474976710656) (ht2 : x.t2.length ≤ 281474976710656) :
    Calls Tryd.prog 23 #[ptr g, .int .i64 (me : Int)] w (NodeEnd W0 g pb A A' c c' t ps x me w) := by
  have hme : me < t.l.length := (List.getElem?_eq_some_iff.1 hx).1
  have HA := Lib.hid hA
  have HT := Lib.hid hT
  have HS := Lib.hid hS
  have HM := Lib.hid hme
  have HP := Lib.hid hps
  have HX := Lib.hid hx
  have HLN := Lib.hid (And.intro ht ht2)
  have i1 : (0 : Int) ≤ (me : Int) := by omega
  have i2 : (me : Int) < (t.l.length : Int) := by omega
  obtain ⟨ad, rfl, hadb, hcs⟩ := (HT.out.next HA.out.low).nodes.nodAt hx
  have HCS := Lib.hid hcs
  have x0 : w.cell? ⟨g, 0, none⟩ = some (.slice (some ad) t.l.length c) := HA.out.ask.cell 0
  clear hA hT hS hps hx hcs hadb ht ht2 hme
  have hN := Blk.new w 30 #[.int .i64 x.k, strV x.t, strV x.t2, .int .i64 x.n, .int .i64 x.a, .int .i64 x.b, .int .i64 x.c, .int .i64 x.h]
  have hb1 := below_new w (.cells #[.int .i64 x.k, strV x.t, strV x.t2, .int .i64 x.n, .int .i64 x.a, .int .i64 x.b, .int .i64 x.c, .int .i64 x.h] 30)
  have HA1 := Lib.hid (HA.out.next hb1)
  generalize hw1 : w.alloc (.cells #[.int .i64 x.k, strV x.t, strV x.t2, .int .i64 x.n, .int .i64 x.a, .int .i64 x.b, .int .i64 x.c, .int .i64 x.h] 30) = w1 at hN hb1 HA1
  have HN1 := Lib.hid hN
  have HB1 := Lib.hid hb1
  clear hN hb1
  go_enter Tryd.func23, Tryd.ntmps23
  go_upto_region 2 with (first | (refine wpList_load_at rfl 30 (.tmp 16) rfl (ad.add (me * 8)) rfl [.int .i64 x.k, strV x.t, strV x.t2, .int .i64 x.n, .int .i64 x.a, .int .i64 x.b, .int .i64 x.c, .int .i64 x.h] _ HCS.out Tryd.underlying30 rfl (by kernel_rfl) ?_))
  clear hw1 x0
  generalize w.heap.size = nb at HN1 ⊢
  have n0 : w1.cell? ⟨nb, 0, none⟩ = some (.int .i64 x.k) := HN1.out.cell 0
  have n1 : w1.cell? ⟨nb, 1, none⟩ = some (strV x.t) := HN1.out.cell 1
  have n2 : w1.cell? ⟨nb, 2, none⟩ = some (strV x.t2) := HN1.out.cell 2
  have n3 : w1.cell? ⟨nb, 3, none⟩ = some (.int .i64 x.n) := HN1.out.cell 3
  have n4 : w1.cell? ⟨nb, 4, none⟩ = some (.int .i64 x.a) := HN1.out.cell 4
  have n5 : w1.cell? ⟨nb, 5, none⟩ = some (.int .i64 x.b) := HN1.out.cell 5
  have n6 : w1.cell? ⟨nb, 6, none⟩ = some (.int .i64 x.c) := HN1.out.cell 6
  have n7 : w1.cell? ⟨nb, 7, none⟩ = some (.int .i64 x.h) := HN1.out.cell 7
  have HC := Lib.hid (show Calls Tryd.prog 34 #[.agg #[.int .i64 x.k, strV x.t, strV x.t2, .int .i64 x.n, .int .i64 x.a, .int .i64 x.b, .int .i64 x.c, .int .i64 x.h]] w1 (OfEnd x w1) from c34 x w1 (HS.out.ast.next HA1.out.low))
  go_wp2_with fail
  refine HC.out.mono ?_
  rintro e w2 ⟨rfl, hb2⟩
  have HA2 := Lib.hid (HA1.out.next hb2)
  have HN2 := Lib.hid (HN1.out.next hb2)
  have HB2 := Lib.hid (next_ HB1.out hb2)
  clear n0 n1 n2 n3 n4 n5 n6 n7
  clear hb2 HC HA1 HN1 HB1
  have RNN := Lib.hid (of_nn x)
  have RHO := Lib.hid (fun h : x.k = 25 => of_host h)
  obtain ⟨r, hr⟩ : ∃ r, r = (ofL x).1 := ⟨_, rfl⟩
  obtain ⟨u, hu⟩ : ∃ u, u = (ofL x).2 := ⟨_, rfl⟩
  rw [← hr] at RNN RHO ⊢
  rw [← hu]
  have HR := Lib.hid hr
  have HU := Lib.hid hu
  clear hr hu
  rw [show (rowC r).toArray = #[.int .u8 r.is_, .int .u8 r.a, .int .u8 r.b, .int .u8 r.c, .int .i64 r.text, .int .i64 r.second, .int .i64 r.lo, .int .i64 r.hi] from rfl]
  have hR3 := Blk.new w2 59 #[.int .u8 r.is_, .int .u8 r.a, .int .u8 r.b, .int .u8 r.c, .int .i64 r.text, .int .i64 r.second, .int .i64 r.lo, .int .i64 r.hi]
  have hb3 := below_new w2 (.cells #[.int .u8 r.is_, .int .u8 r.a, .int .u8 r.b, .int .u8 r.c, .int .i64 r.text, .int .i64 r.second, .int .i64 r.lo, .int .i64 r.hi] 59)
  have HA3 := Lib.hid (HA2.out.next hb3)
  have HN3 := Lib.hid (HN2.out.next hb3)
  have HB3 := Lib.hid (next_ HB2.out hb3)
  generalize hw3 : w2.alloc (.cells #[.int .u8 r.is_, .int .u8 r.a, .int .u8 r.b, .int .u8 r.c, .int .i64 r.text, .int .i64 r.second, .int .i64 r.lo, .int .i64 r.hi] 59) = w3 at hR3 hb3 HA3 HN3 HB3
  have HR3 := Lib.hid hR3
  clear hR3 hb3 HA2 HN2 HB2
  go_upto_region 3 with fail
  clear hw3
  generalize w2.heap.size = rb at HR3 ⊢
  cases u with
  | false =>
    go_wp2_with fail
    go_ret
    exact NodeEnd.no ps rfl HA3.out (grown_of_below HB3.out _) (fun h _ _ => by rw [← HU.out] at h; cases h)
  | true =>
  have n1 : w3.cell? ⟨nb, 1, none⟩ = some (strV x.t) := HN3.out.cell 1
  have n3 : w3.cell? ⟨nb, 3, none⟩ = some (.int .i64 x.n) := HN3.out.cell 3
  have r4 : w3.cell? ⟨rb, 4, none⟩ = some (.int .i64 r.text) := HR3.out.cell 4
  have r6 : w3.cell? ⟨rb, 6, none⟩ = some (.int .i64 r.lo) := HR3.out.cell 6
  have r7 : w3.cell? ⟨rb, 7, none⟩ = some (.int .i64 r.hi) := HR3.out.cell 7
  by_cases hlo : x.n < r.lo
  · go_wp2_with fail
    go_ret
    exact NodeEnd.no ps rfl HA3.out (grown_of_below HB3.out _) (fun _ s _ => by rw [← HR.out] at s; have := s.lo; omega)
  by_cases hhi : r.hi < x.n
  · go_wp2_with fail
    go_ret
    exact NodeEnd.no ps rfl HA3.out (grown_of_below HB3.out _) (fun _ s _ => by rw [← HR.out] at s; have := s.hi; omega)
  have HCT := Lib.hid (c35 x.t r.text HLN.out.1 w3 (HS.out.words.next HA3.out.low))
  go_wp2_with fail
  refine HCT.out.mono ?_
  rintro e w4 ⟨q1, rfl, hq1, hb4⟩
  have HQ1 := Lib.hid hq1
  clear hq1 HCT n1 n3 r4 r6 r7
  have HA4 := Lib.hid (HA3.out.next hb4)
  have HN4 := Lib.hid (HN3.out.next hb4)
  have HR4 := Lib.hid (HR3.out.next hb4)
  have HB4 := Lib.hid (next_ HB3.out hb4)
  clear hb4 HA3 HN3 HR3 HB3
  cases q1 with
  | false =>
    go_wp2_with fail
    go_ret
    exact NodeEnd.no ps rfl HA4.out (grown_of_below HB4.out _) (fun _ s _ => by rw [← HR.out] at s; have h9 := HQ1.out s.q1; rw [s.t1] at h9; cases h9)
  | true =>
  have n2 : w4.cell? ⟨nb, 2, none⟩ = some (strV x.t2) := HN4.out.cell 2
  have r5 : w4.cell? ⟨rb, 5, none⟩ = some (.int .i64 r.second) := HR4.out.cell 5
  have HCT := Lib.hid (c35 x.t2 r.second HLN.out.2 w4 (HS.out.words.next HA4.out.low))
  go_wp2_with fail
  refine HCT.out.mono ?_
  rintro e w5 ⟨q2, rfl, hq2, hb5⟩
  have HQ2 := Lib.hid hq2
  clear hq2 HCT n2 r5
  have HA5 := Lib.hid (HA4.out.next hb5)
  have HN5 := Lib.hid (HN4.out.next hb5)
  have HR5 := Lib.hid (HR4.out.next hb5)
  have HB5 := Lib.hid (next_ HB4.out hb5)
  clear hb5 HA4 HN4 HR4 HB4
  cases q2 with
  | false =>
    go_wp2_with fail
    go_ret
    exact NodeEnd.no ps rfl HA5.out (grown_of_below HB5.out _) (fun _ s _ => by rw [← HR.out] at s; have h9 := HQ2.out s.q2; rw [s.t2] at h9; cases h9)
  | true =>
  have HCT := Lib.hid (show Calls Tryd.prog 36 #[.agg #[.int .i64 x.k, strV x.t, strV x.t2, .int .i64 x.n, .int .i64 x.a, .int .i64 x.b, .int .i64 x.c, .int .i64 x.h]] w5 (CountEnd x w5) from c36 x w5 (HS.out.op.next HA5.out.low) (fun h => by have h8 := RHO.out h; omega))
  have n0 : w5.cell? ⟨nb, 0, none⟩ = some (.int .i64 x.k) := HN5.out.cell 0
  have n1 : w5.cell? ⟨nb, 1, none⟩ = some (strV x.t) := HN5.out.cell 1
  have n2 : w5.cell? ⟨nb, 2, none⟩ = some (strV x.t2) := HN5.out.cell 2
  have n3 : w5.cell? ⟨nb, 3, none⟩ = some (.int .i64 x.n) := HN5.out.cell 3
  have n4 : w5.cell? ⟨nb, 4, none⟩ = some (.int .i64 x.a) := HN5.out.cell 4
  have n5 : w5.cell? ⟨nb, 5, none⟩ = some (.int .i64 x.b) := HN5.out.cell 5
  have n6 : w5.cell? ⟨nb, 6, none⟩ = some (.int .i64 x.c) := HN5.out.cell 6
  have n7 : w5.cell? ⟨nb, 7, none⟩ = some (.int .i64 x.h) := HN5.out.cell 7
  go_wp2_with fail
  refine HCT.out.mono ?_
  rintro e w6 ⟨q3, rfl, hq3, hq4, hb6⟩
  have HQ3 := Lib.hid hq3
  have HQ4 := Lib.hid hq4
  clear hq3 hq4 HCT
  clear n0 n1 n2 n3 n4 n5 n6 n7
  have HA6 := Lib.hid (HA5.out.next hb6)
  have HN6 := Lib.hid (HN5.out.next hb6)
  have HR6 := Lib.hid (HR5.out.next hb6)
  have HB6 := Lib.hid (next_ HB5.out hb6)
  clear hb6 HA5 HN5 HR5 HB5
  cases q3 with
  | false =>
    go_wp2_with fail
    go_ret
    exact NodeEnd.no ps rfl HA6.out (grown_of_below HB6.out _) (fun _ s _ => by
      by_cases h9 : x.k = 15
      · have h8 := HQ4.out h9
        rw [s.k3 h9] at h8
        cases h8
      · have h8 := HQ3.out h9 s.k1 s.k2
        cases h8)
  | true =>
  have HCH := Lib.hid (show Calls Tryd.prog 37 #[.agg #[.int .u8 r.is_, .int .u8 r.a, .int .u8 r.b, .int .u8 r.c, .int .i64 r.text, .int .i64 r.second, .int .i64 r.lo, .int .i64 r.hi], .agg #[.int .i64 x.k, strV x.t, strV x.t2, .int .i64 x.n, .int .i64 x.a, .int .i64 x.b, .int .i64 x.c, .int .i64 x.h]] w6 _ from c37 r x w6)
  have n0 : w6.cell? ⟨nb, 0, none⟩ = some (.int .i64 x.k) := HN6.out.cell 0
  have n1 : w6.cell? ⟨nb, 1, none⟩ = some (strV x.t) := HN6.out.cell 1
  have n2 : w6.cell? ⟨nb, 2, none⟩ = some (strV x.t2) := HN6.out.cell 2
  have n3 : w6.cell? ⟨nb, 3, none⟩ = some (.int .i64 x.n) := HN6.out.cell 3
  have n4 : w6.cell? ⟨nb, 4, none⟩ = some (.int .i64 x.a) := HN6.out.cell 4
  have n5 : w6.cell? ⟨nb, 5, none⟩ = some (.int .i64 x.b) := HN6.out.cell 5
  have n6 : w6.cell? ⟨nb, 6, none⟩ = some (.int .i64 x.c) := HN6.out.cell 6
  have n7 : w6.cell? ⟨nb, 7, none⟩ = some (.int .i64 x.h) := HN6.out.cell 7
  have r0 : w6.cell? ⟨rb, 0, none⟩ = some (.int .u8 r.is_) := HR6.out.cell 0
  have r1 : w6.cell? ⟨rb, 1, none⟩ = some (.int .u8 r.a) := HR6.out.cell 1
  have r2 : w6.cell? ⟨rb, 2, none⟩ = some (.int .u8 r.b) := HR6.out.cell 2
  have r3 : w6.cell? ⟨rb, 3, none⟩ = some (.int .u8 r.c) := HR6.out.cell 3
  have r4 : w6.cell? ⟨rb, 4, none⟩ = some (.int .i64 r.text) := HR6.out.cell 4
  have r5 : w6.cell? ⟨rb, 5, none⟩ = some (.int .i64 r.second) := HR6.out.cell 5
  have r6 : w6.cell? ⟨rb, 6, none⟩ = some (.int .i64 r.lo) := HR6.out.cell 6
  have r7 : w6.cell? ⟨rb, 7, none⟩ = some (.int .i64 r.hi) := HR6.out.cell 7
  go_wp2_with fail
  refine HCH.out.mono ?_
  rintro e w7 ⟨rfl, hb7⟩
  rw [show (chC r x).toArray = #[.int .u8 r.a, .int .i64 x.a, .int .u8 r.b, .int .i64 x.b, .int .u8 r.c, .int .i64 x.c] from rfl]
  clear n0 n1 n2 n3 n4 n5 n6 n7
  clear r0 r1 r2 r3 r4 r5 r6 r7
  clear HCH
  have HA7 := Lib.hid (HA6.out.next hb7)
  have HB7 := Lib.hid (grown_of_below (next_ HB6.out hb7) (some pb))
  clear hb7 HA6 HN6 HR6 HB6
  go_wp2_with fail
  have hx0 : ∀ w, (Instr.index 82 (.agg #[.int .u8 r.a, .int .i64 x.a, .int .u8 r.b, .int .i64 x.b, .int .u8 r.c, .int .i64 x.c]) (.int .i64 0)).run Tryd.prog w = .ok (.agg #[.int .u8 r.a, .int .i64 x.a]) w := fun w => (idx82 _ _ _ _ _ _ w).1
  have hx1 : ∀ w, (Instr.index 82 (.agg #[.int .u8 r.a, .int .i64 x.a, .int .u8 r.b, .int .i64 x.b, .int .u8 r.c, .int .i64 x.c]) (.int .i64 1)).run Tryd.prog w = .ok (.agg #[.int .u8 r.b, .int .i64 x.b]) w := fun w => (idx82 _ _ _ _ _ _ w).2.1
  have hx2 : ∀ w, (Instr.index 82 (.agg #[.int .u8 r.a, .int .i64 x.a, .int .u8 r.b, .int .i64 x.b, .int .u8 r.c, .int .i64 x.c]) (.int .i64 2)).run Tryd.prog w = .ok (.agg #[.int .u8 r.c, .int .i64 x.c]) w := fun w => (idx82 _ _ _ _ _ _ w).2.2
  go_loopw [63] (fun i wr => ∃ k : Nat, k ≤ 3 ∧ i = .int .i64 k ∧ okK t r x me k ∧ AskIs W0 wr g pb (some ad) A' c c' t (psK r x me ps k) ∧ w.grownBy wr (some pb)) (fun i _ => 3 - (intOf i).toNat)
  case atStart => exact ⟨0, by omega, rfl, trivial, HA7.out, HB7.out⟩
  case round =>
    obtain ⟨k, hk, rfl, hok, hA, hB⟩ := hrel
    have HOK := Lib.hid hok
    have HA := Lib.hid hA
    have HB := Lib.hid hB
    clear hok hA hB HA7 HB7
    rcases (by omega : k = 0 ∨ k = 1 ∨ k = 2 ∨ k = 3) with rfl | rfl | rfl | rfl
    · have hR8 := Blk.new wr 81 #[.int .u8 r.a, .int .i64 x.a]
      have hb8 := below_new wr (.cells #[.int .u8 r.a, .int .i64 x.a] 81)
      have HA8 := Lib.hid (HA.out.next hb8)
      have HB8 := Lib.hid (HB.out.trans (grown_of_below hb8 (some pb)))
      generalize hw8 : wr.alloc (.cells #[.int .u8 r.a, .int .i64 x.a] 81) = w8 at hR8 hb8 HA8 HB8
      have HR8 := Lib.hid hR8
      clear hR8 hb8
      go_upto_region 8 with fail
      clear hw8
      generalize wr.heap.size = cb at HR8 ⊢
      have y0 : w8.cell? ⟨cb, 0, none⟩ = some (.int .u8 r.a) := HR8.out.cell 0
      have y1 : w8.cell? ⟨cb, 1, none⟩ = some (.int .i64 x.a) := HR8.out.cell 1
      have HCC := Lib.hid (c38 r.a x.a me w8 HA8.out HT.out HS.out.ast (RNN.out.1) HM.out hl (by simp only [psK, bumpL_len]; exact HP.out))
      go_wp2_with fail
      refine HCC.out.mono ?_
      rintro e w9 ⟨rfl, hA9, hG9⟩
      have HA9 := Lib.hid hA9
      have HB9 := Lib.hid (HB8.out.trans hG9)
      clear hA9 hG9 HCC
      cases hcl : childL t r.a x.a me with
      | false =>
        have HCL := Lib.hid hcl
        clear hcl
        go_wp2_with fail
        go_ret
        exact NodeEnd.no _ (by simp only [psK, bumpL_len]) HA9.out HB9.out (fun _ _ h9 => by rw [← HR.out] at h9; have h8 := h9.1; rw [HCL.out] at h8; cases h8)
      | true =>
        have HCL := Lib.hid (show okK t r x me 1 from hcl)
        clear hcl
        go_wp2_with fail
        go_roundw
        case rel => exact ⟨1, by omega, by go_num, HCL.out, HA9.out, HB9.out⟩
        case measure => simp [intOf]
    · have hR8 := Blk.new wr 81 #[.int .u8 r.b, .int .i64 x.b]
      have hb8 := below_new wr (.cells #[.int .u8 r.b, .int .i64 x.b] 81)
      have HA8 := Lib.hid (HA.out.next hb8)
      have HB8 := Lib.hid (HB.out.trans (grown_of_below hb8 (some pb)))
      generalize hw8 : wr.alloc (.cells #[.int .u8 r.b, .int .i64 x.b] 81) = w8 at hR8 hb8 HA8 HB8
      have HR8 := Lib.hid hR8
      clear hR8 hb8
      go_upto_region 8 with fail
      clear hw8
      generalize wr.heap.size = cb at HR8 ⊢
      have y0 : w8.cell? ⟨cb, 0, none⟩ = some (.int .u8 r.b) := HR8.out.cell 0
      have y1 : w8.cell? ⟨cb, 1, none⟩ = some (.int .i64 x.b) := HR8.out.cell 1
      have HCC := Lib.hid (c38 r.b x.b me w8 HA8.out HT.out HS.out.ast (RNN.out.2.1) HM.out hl (by simp only [psK, bumpL_len]; exact HP.out))
      go_wp2_with fail
      refine HCC.out.mono ?_
      rintro e w9 ⟨rfl, hA9, hG9⟩
      have HA9 := Lib.hid hA9
      have HB9 := Lib.hid (HB8.out.trans hG9)
      clear hA9 hG9 HCC
      cases hcl : childL t r.b x.b me with
      | false =>
        have HCL := Lib.hid hcl
        clear hcl
        go_wp2_with fail
        go_ret
        exact NodeEnd.no _ (by simp only [psK, bumpL_len]) HA9.out HB9.out (fun _ _ h9 => by rw [← HR.out] at h9; have h8 := h9.2.1; rw [HCL.out] at h8; cases h8)
      | true =>
        have HCL := Lib.hid (show okK t r x me 2 from ⟨HOK.out, hcl⟩)
        clear hcl
        go_wp2_with fail
        go_roundw
        case rel => exact ⟨2, by omega, by go_num, HCL.out, HA9.out, HB9.out⟩
        case measure => simp [intOf]
    · have hR8 := Blk.new wr 81 #[.int .u8 r.c, .int .i64 x.c]
      have hb8 := below_new wr (.cells #[.int .u8 r.c, .int .i64 x.c] 81)
      have HA8 := Lib.hid (HA.out.next hb8)
      have HB8 := Lib.hid (HB.out.trans (grown_of_below hb8 (some pb)))
      generalize hw8 : wr.alloc (.cells #[.int .u8 r.c, .int .i64 x.c] 81) = w8 at hR8 hb8 HA8 HB8
      have HR8 := Lib.hid hR8
      clear hR8 hb8
      go_upto_region 8 with fail
      clear hw8
      generalize wr.heap.size = cb at HR8 ⊢
      have y0 : w8.cell? ⟨cb, 0, none⟩ = some (.int .u8 r.c) := HR8.out.cell 0
      have y1 : w8.cell? ⟨cb, 1, none⟩ = some (.int .i64 x.c) := HR8.out.cell 1
      have HCC := Lib.hid (c38 r.c x.c me w8 HA8.out HT.out HS.out.ast (RNN.out.2.2) HM.out hl (by simp only [psK, bumpL_len]; exact HP.out))
      go_wp2_with fail
      refine HCC.out.mono ?_
      rintro e w9 ⟨rfl, hA9, hG9⟩
      have HA9 := Lib.hid hA9
      have HB9 := Lib.hid (HB8.out.trans hG9)
      clear hA9 hG9 HCC
      cases hcl : childL t r.c x.c me with
      | false =>
        have HCL := Lib.hid hcl
        clear hcl
        go_wp2_with fail
        go_ret
        exact NodeEnd.no _ (by simp only [psK, bumpL_len]) HA9.out HB9.out (fun _ _ h9 => by rw [← HR.out] at h9; have h8 := h9.2.2; rw [HCL.out] at h8; cases h8)
      | true =>
        have HCL := Lib.hid (show okK t r x me 3 from ⟨HOK.out.1, HOK.out.2, hcl⟩)
        clear hcl
        go_wp2_with fail
        go_roundw
        case rel => exact ⟨3, by omega, by go_num, HCL.out, HA9.out, HB9.out⟩
        case measure => simp [intOf]
    · go_wp2_with fail
      go_ret
      refine NodeEnd.yes ?_ HB.out HU.out.symm ?_
      · rw [← HR.out]; exact HA.out
      · rw [← HR.out]; exact HOK.out
end Go.Proofs.YtphojigdapaaiaaDoor
