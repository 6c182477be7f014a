/- ast.many. -/
import Derived.Test.YtphojigdapaaiaaDoorATx
import Derived.Test.YtphojigdapaaiaaDoorAEf
import Derived.Test.YtphojigdapaaiaaDoorAOwn
import Derived.ChangeKeysEq
namespace Go.Proofs.YtphojigdapaaiaaDoor
open Go.ChangeShapes Go.WideShapes Go.ChangeAt Go.RowKit
set_option linter.unusedVariables false
set_option linter.unusedSimpArgs false
theorem run_index_int {t : TypeId} {n : Nat} (h : Tryd.prog.underlying t = some (.array n 3)) {cs : Array Value} {i : Nat} {v : Value} {k : IntKind} (hi : i < n) (hv : cs[i]? = some v) (w : World) : (Instr.index t (.agg cs) (.int k i)).run Tryd.prog w = .ok v w := by
  obtain ⟨i3, fi3, iz0, iz1, iz2⟩ := info_parts int_info
  have h1 : Tryd.prog.cellsOf 3 = 1 := by kernel_rfl
  have h2 : (0 : Int) ≤ (i : Int) ∧ (i : Int) < (n : Int) := by omega
  simp [Instr.index, run_underlying h, asIntOf, hi, hv, go_sem]
def binL (n : Int) : Bool := decide (n = 12 ∨ n = 13 ∨ n = 14 ∨ n = 15 ∨ n = 16 ∨ n = 17 ∨ n = 18 ∨ n = 28)
/-- What ast.many gives. -/
def ManyEnd (x : Nod) (w : World) (e : Ending) (w' : World) : Prop := ∃ (a : Int) (r : Bool), e = .returned (.tuple #[.int .i64 a, .bool r]) ∧ (x.k = 15 → r = binL x.n) ∧ Below w.heap.size w w'
set_option maxRecDepth 100000 in
set_option maxHeartbeats 8000000 in
theorem c54 (x : Nod) (w : World) (ht : OpTab w) (hk : x.k = 15 ∨ x.k = 24 ∨ x.k = 25) (hn : x.k = 25 → 0 ≤ x.n ∧ x.n < 4) : Calls Tryd.prog 54 #[.agg (nodC x).toArray] w (ManyEnd x w) := by
  obtain ⟨xk, xt, xt2, xn, xa, xb, xc, xh⟩ := x
  simp only at hk hn
  show Calls Tryd.prog 54 #[.agg #[.int .i64 xk, strV xt, strV xt2, .int .i64 xn, .int .i64 xa, .int .i64 xb, .int .i64 xc, .int .i64 xh]] w _
  have hb := below_new w (.cells #[.int .i64 xk, strV xt, strV xt2, .int .i64 xn, .int .i64 xa, .int .i64 xb, .int .i64 xc, .int .i64 xh] 30)
  have HX := Lib.hid (Blk.new w 30 #[.int .i64 xk, strV xt, strV xt2, .int .i64 xn, .int .i64 xa, .int .i64 xb, .int .i64 xc, .int .i64 xh])
  have HT := Lib.hid (ht.next hb)
  have HB := Lib.hid hb
  clear hb ht
  rcases hk with rfl | rfl | rfl
  · clear hn
    by_cases h12 : xn = 12
    · subst h12
      go_enter Tryd.func54, Tryd.ntmps54
      go_wp2_with fail
      go_ret2
      exact ⟨_, _, rfl, fun _ => rfl, HB.out⟩
    by_cases h13 : xn = 13
    · subst h13
      go_enter Tryd.func54, Tryd.ntmps54
      go_wp2_with fail
      go_ret2
      exact ⟨_, _, rfl, fun _ => rfl, HB.out⟩
    by_cases h14 : xn = 14
    · subst h14
      go_enter Tryd.func54, Tryd.ntmps54
      go_wp2_with fail
      go_ret2
      exact ⟨_, _, rfl, fun _ => rfl, HB.out⟩
    by_cases h15 : xn = 15
    · subst h15
      go_enter Tryd.func54, Tryd.ntmps54
      go_wp2_with fail
      go_ret2
      exact ⟨_, _, rfl, fun _ => rfl, HB.out⟩
    by_cases h16 : xn = 16
    · subst h16
      go_enter Tryd.func54, Tryd.ntmps54
      go_wp2_with fail
      go_ret2
      exact ⟨_, _, rfl, fun _ => rfl, HB.out⟩
    by_cases h17 : xn = 17
    · subst h17
      go_enter Tryd.func54, Tryd.ntmps54
      go_wp2_with fail
      go_ret2
      exact ⟨_, _, rfl, fun _ => rfl, HB.out⟩
    by_cases h18 : xn = 18
    · subst h18
      go_enter Tryd.func54, Tryd.ntmps54
      go_wp2_with fail
      go_ret2
      exact ⟨_, _, rfl, fun _ => rfl, HB.out⟩
    by_cases h28 : xn = 28
    · subst h28
      go_enter Tryd.func54, Tryd.ntmps54
      go_wp2_with fail
      go_ret2
      exact ⟨_, _, rfl, fun _ => rfl, HB.out⟩
    have f12 : (xn == 12) = false := beq_false_of_ne h12
    have f13 : (xn == 13) = false := beq_false_of_ne h13
    have f14 : (xn == 14) = false := beq_false_of_ne h14
    have f15 : (xn == 15) = false := beq_false_of_ne h15
    have f16 : (xn == 16) = false := beq_false_of_ne h16
    have f17 : (xn == 17) = false := beq_false_of_ne h17
    have f18 : (xn == 18) = false := beq_false_of_ne h18
    have f28 : (xn == 28) = false := beq_false_of_ne h28
    have HN := Lib.hid (show binL xn = false by unfold binL; exact decide_eq_false (by omega))
    clear h12 h13 h14 h15 h16 h17 h18 h28
    go_enter Tryd.func54, Tryd.ntmps54
    go_wp2_with fail
    go_ret2
    exact ⟨_, _, rfl, fun _ => HN.out.symm, HB.out⟩
  · clear hn
    by_cases h29 : xn = 29
    · subst h29
      have HC := Lib.hid (show Calls Tryd.prog 73 #[.agg #[.int .i64 29, .int .i64 0, .int .i64 0]] _ _ from c73 29 (by decide) (by decide) (by decide) (by decide) _ HT.out)
      go_enter Tryd.func54, Tryd.ntmps54
      go_wp2_with fail
      refine HC.out.mono ?_
      rintro e w2 ⟨a, b, r, rfl, hb2⟩
      have HB2 := Lib.hid (next_ HB.out hb2)
      clear hb2
      go_wp2_with fail
      go_ret2
      exact ⟨_, _, rfl, fun h => absurd (show (24 : Int) = 15 from h) (by decide), HB2.out⟩
    by_cases h30 : xn = 30
    · subst h30
      have HC := Lib.hid (show Calls Tryd.prog 73 #[.agg #[.int .i64 30, .int .i64 0, .int .i64 0]] _ _ from c73 30 (by decide) (by decide) (by decide) (by decide) _ HT.out)
      go_enter Tryd.func54, Tryd.ntmps54
      go_wp2_with fail
      refine HC.out.mono ?_
      rintro e w2 ⟨a, b, r, rfl, hb2⟩
      have HB2 := Lib.hid (next_ HB.out hb2)
      clear hb2
      go_wp2_with fail
      go_ret2
      exact ⟨_, _, rfl, fun h => absurd (show (24 : Int) = 15 from h) (by decide), HB2.out⟩
    by_cases h31 : xn = 31
    · subst h31
      have HC := Lib.hid (show Calls Tryd.prog 73 #[.agg #[.int .i64 31, .int .i64 0, .int .i64 0]] _ _ from c73 31 (by decide) (by decide) (by decide) (by decide) _ HT.out)
      go_enter Tryd.func54, Tryd.ntmps54
      go_wp2_with fail
      refine HC.out.mono ?_
      rintro e w2 ⟨a, b, r, rfl, hb2⟩
      have HB2 := Lib.hid (next_ HB.out hb2)
      clear hb2
      go_wp2_with fail
      go_ret2
      exact ⟨_, _, rfl, fun h => absurd (show (24 : Int) = 15 from h) (by decide), HB2.out⟩
    by_cases h32 : xn = 32
    · subst h32
      have HC := Lib.hid (show Calls Tryd.prog 73 #[.agg #[.int .i64 32, .int .i64 0, .int .i64 0]] _ _ from c73 32 (by decide) (by decide) (by decide) (by decide) _ HT.out)
      go_enter Tryd.func54, Tryd.ntmps54
      go_wp2_with fail
      refine HC.out.mono ?_
      rintro e w2 ⟨a, b, r, rfl, hb2⟩
      have HB2 := Lib.hid (next_ HB.out hb2)
      clear hb2
      go_wp2_with fail
      go_ret2
      exact ⟨_, _, rfl, fun h => absurd (show (24 : Int) = 15 from h) (by decide), HB2.out⟩
    by_cases h24 : xn = 24
    · subst h24
      have HC := Lib.hid (show Calls Tryd.prog 73 #[.agg #[.int .i64 24, .int .i64 0, .int .i64 0]] _ _ from c73 24 (by decide) (by decide) (by decide) (by decide) _ HT.out)
      go_enter Tryd.func54, Tryd.ntmps54
      go_wp2_with fail
      refine HC.out.mono ?_
      rintro e w2 ⟨a, b, r, rfl, hb2⟩
      have HB2 := Lib.hid (next_ HB.out hb2)
      clear hb2
      go_wp2_with fail
      go_ret2
      exact ⟨_, _, rfl, fun h => absurd (show (24 : Int) = 15 from h) (by decide), HB2.out⟩
    by_cases h25 : xn = 25
    · subst h25
      have HC := Lib.hid (show Calls Tryd.prog 73 #[.agg #[.int .i64 25, .int .i64 0, .int .i64 0]] _ _ from c73 25 (by decide) (by decide) (by decide) (by decide) _ HT.out)
      go_enter Tryd.func54, Tryd.ntmps54
      go_wp2_with fail
      refine HC.out.mono ?_
      rintro e w2 ⟨a, b, r, rfl, hb2⟩
      have HB2 := Lib.hid (next_ HB.out hb2)
      clear hb2
      go_wp2_with fail
      go_ret2
      exact ⟨_, _, rfl, fun h => absurd (show (24 : Int) = 15 from h) (by decide), HB2.out⟩
    by_cases h26 : xn = 26
    · subst h26
      have HC := Lib.hid (show Calls Tryd.prog 73 #[.agg #[.int .i64 26, .int .i64 0, .int .i64 0]] _ _ from c73 26 (by decide) (by decide) (by decide) (by decide) _ HT.out)
      go_enter Tryd.func54, Tryd.ntmps54
      go_wp2_with fail
      refine HC.out.mono ?_
      rintro e w2 ⟨a, b, r, rfl, hb2⟩
      have HB2 := Lib.hid (next_ HB.out hb2)
      clear hb2
      go_wp2_with fail
      go_ret2
      exact ⟨_, _, rfl, fun h => absurd (show (24 : Int) = 15 from h) (by decide), HB2.out⟩
    by_cases h27 : xn = 27
    · subst h27
      have HC := Lib.hid (show Calls Tryd.prog 73 #[.agg #[.int .i64 27, .int .i64 0, .int .i64 0]] _ _ from c73 27 (by decide) (by decide) (by decide) (by decide) _ HT.out)
      go_enter Tryd.func54, Tryd.ntmps54
      go_wp2_with fail
      refine HC.out.mono ?_
      rintro e w2 ⟨a, b, r, rfl, hb2⟩
      have HB2 := Lib.hid (next_ HB.out hb2)
      clear hb2
      go_wp2_with fail
      go_ret2
      exact ⟨_, _, rfl, fun h => absurd (show (24 : Int) = 15 from h) (by decide), HB2.out⟩
    have f29 : (xn == 29) = false := beq_false_of_ne h29
    have f30 : (xn == 30) = false := beq_false_of_ne h30
    have f31 : (xn == 31) = false := beq_false_of_ne h31
    have f32 : (xn == 32) = false := beq_false_of_ne h32
    have f24 : (xn == 24) = false := beq_false_of_ne h24
    have f25 : (xn == 25) = false := beq_false_of_ne h25
    have f26 : (xn == 26) = false := beq_false_of_ne h26
    have f27 : (xn == 27) = false := beq_false_of_ne h27
    clear h29 h30 h31 h32 h24 h25 h26 h27
    go_enter Tryd.func54, Tryd.ntmps54
    go_wp2_with fail
    go_ret2
    exact ⟨_, _, rfl, fun h => absurd (show (24 : Int) = 15 from h) (by decide), HB.out⟩
  · obtain ⟨n0, n1⟩ := hn rfl
    clear hn
    rcases (by omega : xn = 0 ∨ xn = 1 ∨ xn = 2 ∨ xn = 3) with rfl | rfl | rfl | rfl
    · have hx := fun w => run_index_int Tryd.underlying123 (cs := #[.int .i64 1, .int .i64 1, .int .i64 2, .int .i64 0]) (i := 0) (k := .i64) (by decide) rfl w
      replace hx : ∀ w, (Instr.index 123 (.agg #[.int .i64 1, .int .i64 1, .int .i64 2, .int .i64 0]) (.int .i64 0)).run Tryd.prog w = .ok _ w := hx
      go_enter Tryd.func54, Tryd.ntmps54
      go_wp2_with fail
      go_ret2
      exact ⟨_, _, rfl, fun h => absurd (show (25 : Int) = 15 from h) (by decide), HB.out⟩
    · have hx := fun w => run_index_int Tryd.underlying123 (cs := #[.int .i64 1, .int .i64 1, .int .i64 2, .int .i64 0]) (i := 1) (k := .i64) (by decide) rfl w
      replace hx : ∀ w, (Instr.index 123 (.agg #[.int .i64 1, .int .i64 1, .int .i64 2, .int .i64 0]) (.int .i64 1)).run Tryd.prog w = .ok _ w := hx
      go_enter Tryd.func54, Tryd.ntmps54
      go_wp2_with fail
      go_ret2
      exact ⟨_, _, rfl, fun h => absurd (show (25 : Int) = 15 from h) (by decide), HB.out⟩
    · have hx := fun w => run_index_int Tryd.underlying123 (cs := #[.int .i64 1, .int .i64 1, .int .i64 2, .int .i64 0]) (i := 2) (k := .i64) (by decide) rfl w
      replace hx : ∀ w, (Instr.index 123 (.agg #[.int .i64 1, .int .i64 1, .int .i64 2, .int .i64 0]) (.int .i64 2)).run Tryd.prog w = .ok _ w := hx
      go_enter Tryd.func54, Tryd.ntmps54
      go_wp2_with fail
      go_ret2
      exact ⟨_, _, rfl, fun h => absurd (show (25 : Int) = 15 from h) (by decide), HB.out⟩
    · have hx := fun w => run_index_int Tryd.underlying123 (cs := #[.int .i64 1, .int .i64 1, .int .i64 2, .int .i64 0]) (i := 3) (k := .i64) (by decide) rfl w
      replace hx : ∀ w, (Instr.index 123 (.agg #[.int .i64 1, .int .i64 1, .int .i64 2, .int .i64 0]) (.int .i64 3)).run Tryd.prog w = .ok _ w := hx
      go_enter Tryd.func54, Tryd.ntmps54
      go_wp2_with fail
      go_ret2
      exact ⟨_, _, rfl, fun h => absurd (show (25 : Int) = 15 from h) (by decide), HB.out⟩
end Go.Proofs.YtphojigdapaaiaaDoor
