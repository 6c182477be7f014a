/- ast.counted. -/
import Derived.Test.YtphojigdapaaiaaDoorAMa
namespace Go.Proofs.YtphojigdapaaiaaDoor
open Go.ChangeShapes Go.WideShapes Go.ChangeAt Go.RowKit
set_option linter.unusedVariables false
set_option linter.unusedSimpArgs false
/-- What ast.counted gives. -/
def CountEnd (x : Nod) (w : World) (e : Ending) (w' : World) : Prop := ∃ r : Bool, e = .returned (.bool r) ∧ (x.k ≠ 15 → x.k ≠ 24 → x.k ≠ 25 → r = true) ∧ (x.k = 15 → r = binL x.n) ∧ Below w.heap.size w w'
set_option maxRecDepth 100000 in
set_option maxHeartbeats 16000000 in
theorem c36 (x : Nod) (w : World) (ht : OpTab w) (hn : x.k = 25 → 0 ≤ x.n ∧ x.n < 4) : Calls Tryd.prog 36 #[.agg (nodC x).toArray] w (CountEnd x w) := by
  obtain ⟨xk, xt, xt2, xn, xa, xb, xc, xh⟩ := x
  simp only at hn
  show Calls Tryd.prog 36 #[.agg #[.int .i64 xk, strV xt, strV xt2, .int .i64 xn, .int .i64 xa, .int .i64 xb, .int .i64 xc, .int .i64 xh]] w _
  have hb := below_new w (.cells #[.int .i64 xk, strV xt, strV xt2, .int .i64 xn, .int .i64 xa, .int .i64 xb, .int .i64 xc, .int .i64 xh] 30)
  have HX := Lib.hid (Blk.new w 30 #[.int .i64 xk, strV xt, strV xt2, .int .i64 xn, .int .i64 xa, .int .i64 xb, .int .i64 xc, .int .i64 xh])
  have HT := Lib.hid (ht.next hb)
  have HB := Lib.hid hb
  have HN := Lib.hid hn
  clear hb ht hn
  by_cases h15 : xk = 15
  case neg =>
    by_cases h24 : xk = 24
    case neg =>
      by_cases h25 : xk = 25
      case neg =>
        have f15 : (xk == 15) = false := beq_false_of_ne h15
        have f24 : (xk == 24) = false := beq_false_of_ne h24
        have f25 : (xk == 25) = false := beq_false_of_ne h25
        have HK := Lib.hid h15
        have g15 : (xk != 15) = true := bne_iff_ne.2 h15
        have g24 : (xk != 24) = true := bne_iff_ne.2 h24
        have g25 : (xk != 25) = true := bne_iff_ne.2 h25
        clear h15 h24 h25
        go_enter Tryd.func36, Tryd.ntmps36
        go_wp2_with fail
        go_ret
        exact ⟨_, rfl, fun _ _ _ => rfl, fun h => absurd h HK.out, HB.out⟩
      case pos =>
        subst h25
        have HC := Lib.hid (show Calls Tryd.prog 54 #[.agg #[.int .i64 25, strV xt, strV xt2, .int .i64 xn, .int .i64 xa, .int .i64 xb, .int .i64 xc, .int .i64 xh]] _ _ from c54 ⟨25, xt, xt2, xn, xa, xb, xc, xh⟩ _ HT.out (.inr (.inr rfl)) (fun h => HN.out (rfl)))
        go_enter Tryd.func36, Tryd.ntmps36
        go_wp2_with fail
        refine HC.out.mono ?_
        rintro e w2 ⟨a, r, rfl, hr, hb2⟩
        have HR := Lib.hid hr
        have HB2 := Lib.hid (next_ HB.out hb2)
        have HX2 := Lib.hid (HX.out.next hb2)
        clear hb2 hr HX HC
        generalize w.heap.size = xb0 at HX2 ⊢
        have x0 : w2.cell? ⟨xb0, 0, none⟩ = some (.int .i64 25) := HX2.out.cell 0
        have x4 : w2.cell? ⟨xb0, 4, none⟩ = some (.int .i64 xa) := HX2.out.cell 4
        have x5 : w2.cell? ⟨xb0, 5, none⟩ = some (.int .i64 xb) := HX2.out.cell 5
        have x6 : w2.cell? ⟨xb0, 6, none⟩ = some (.int .i64 xc) := HX2.out.cell 6
        cases r with
        | false =>
          go_wp2_with fail
          go_ret
          exact ⟨_, rfl, fun h1 h2 h3 => absurd rfl h3, fun h => absurd (show (25 : Int) = 15 from h) (by decide), HB2.out⟩
        | true =>
          go_wp2_with fail
          have hx0 : ∀ w, (Instr.index 51 (.agg #[.int .i64 xa, .int .i64 xb, .int .i64 xc]) (.int .i64 0)).run Tryd.prog w = .ok (.int .i64 xa) w := fun w => run_index_int Tryd.underlying51 (cs := #[.int .i64 xa, .int .i64 xb, .int .i64 xc]) (i := 0) (k := .i64) (by decide) rfl w
          have hx1 : ∀ w, (Instr.index 51 (.agg #[.int .i64 xa, .int .i64 xb, .int .i64 xc]) (.int .i64 1)).run Tryd.prog w = .ok (.int .i64 xb) w := fun w => run_index_int Tryd.underlying51 (cs := #[.int .i64 xa, .int .i64 xb, .int .i64 xc]) (i := 1) (k := .i64) (by decide) rfl w
          have hx2 : ∀ w, (Instr.index 51 (.agg #[.int .i64 xa, .int .i64 xb, .int .i64 xc]) (.int .i64 2)).run Tryd.prog w = .ok (.int .i64 xc) w := fun w => run_index_int Tryd.underlying51 (cs := #[.int .i64 xa, .int .i64 xb, .int .i64 xc]) (i := 2) (k := .i64) (by decide) rfl w
          go_loopw [34] (fun i wr => ∃ k : Nat, k ≤ 3 ∧ i = .int .i64 k ∧ wr = w2) (fun i _ => 3 - (intOf i).toNat)
          case atStart => exact ⟨0, by omega, rfl, rfl⟩
          case round =>
            obtain ⟨k, hk, rfl, rfl⟩ := hrel
            rcases (by omega : k = 0 ∨ k = 1 ∨ k = 2 ∨ k = 3) with rfl | rfl | rfl | rfl
            · by_cases hv : 0 ≤ xa
              · by_cases ha : (0 : Int) < a
                · go_wp2_with fail
                  go_roundw
                  case rel => exact ⟨1, by omega, by go_num, by first | rfl | trivial⟩
                  case measure => simp [intOf]
                · go_wp2_with fail
                  go_ret
                  exact ⟨_, rfl, fun h1 h2 h3 => absurd rfl h3, fun h => absurd (show (25 : Int) = 15 from h) (by decide), HB2.out⟩
              · by_cases ha : (0 : Int) < a
                · go_wp2_with fail
                  go_ret
                  exact ⟨_, rfl, fun h1 h2 h3 => absurd rfl h3, fun h => absurd (show (25 : Int) = 15 from h) (by decide), HB2.out⟩
                · go_wp2_with fail
                  go_roundw
                  case rel => exact ⟨1, by omega, by go_num, by first | rfl | trivial⟩
                  case measure => simp [intOf]
            · by_cases hv : 0 ≤ xb
              · by_cases ha : (1 : Int) < a
                · go_wp2_with fail
                  go_roundw
                  case rel => exact ⟨2, by omega, by go_num, by first | rfl | trivial⟩
                  case measure => simp [intOf]
                · go_wp2_with fail
                  go_ret
                  exact ⟨_, rfl, fun h1 h2 h3 => absurd rfl h3, fun h => absurd (show (25 : Int) = 15 from h) (by decide), HB2.out⟩
              · by_cases ha : (1 : Int) < a
                · go_wp2_with fail
                  go_ret
                  exact ⟨_, rfl, fun h1 h2 h3 => absurd rfl h3, fun h => absurd (show (25 : Int) = 15 from h) (by decide), HB2.out⟩
                · go_wp2_with fail
                  go_roundw
                  case rel => exact ⟨2, by omega, by go_num, by first | rfl | trivial⟩
                  case measure => simp [intOf]
            · go_wp2_with fail
              go_ret
              exact ⟨_, rfl, fun h1 h2 h3 => absurd rfl h3, fun h => absurd (show (25 : Int) = 15 from h) (by decide), HB2.out⟩
            · go_wp2_with fail
              go_ret
              exact ⟨_, rfl, fun h1 h2 h3 => absurd rfl h3, fun h => absurd (show (25 : Int) = 15 from h) (by decide), HB2.out⟩
    case pos =>
      subst h24
      have HC := Lib.hid (show Calls Tryd.prog 54 #[.agg #[.int .i64 24, strV xt, strV xt2, .int .i64 xn, .int .i64 xa, .int .i64 xb, .int .i64 xc, .int .i64 xh]] _ _ from c54 ⟨24, xt, xt2, xn, xa, xb, xc, xh⟩ _ HT.out (.inr (.inl rfl)) (fun h => HN.out (by simp at h)))
      go_enter Tryd.func36, Tryd.ntmps36
      go_wp2_with fail
      refine HC.out.mono ?_
      rintro e w2 ⟨a, r, rfl, hr, hb2⟩
      have HR := Lib.hid hr
      have HB2 := Lib.hid (next_ HB.out hb2)
      have HX2 := Lib.hid (HX.out.next hb2)
      clear hb2 hr HX HC
      generalize w.heap.size = xb0 at HX2 ⊢
      have x0 : w2.cell? ⟨xb0, 0, none⟩ = some (.int .i64 24) := HX2.out.cell 0
      have x4 : w2.cell? ⟨xb0, 4, none⟩ = some (.int .i64 xa) := HX2.out.cell 4
      have x5 : w2.cell? ⟨xb0, 5, none⟩ = some (.int .i64 xb) := HX2.out.cell 5
      have x6 : w2.cell? ⟨xb0, 6, none⟩ = some (.int .i64 xc) := HX2.out.cell 6
      cases r with
      | false =>
        go_wp2_with fail
        go_ret
        exact ⟨_, rfl, fun h1 h2 h3 => absurd rfl h2, fun h => absurd (show (24 : Int) = 15 from h) (by decide), HB2.out⟩
      | true =>
        go_wp2_with fail
        have hx0 : ∀ w, (Instr.index 51 (.agg #[.int .i64 xa, .int .i64 xb, .int .i64 xc]) (.int .i64 0)).run Tryd.prog w = .ok (.int .i64 xa) w := fun w => run_index_int Tryd.underlying51 (cs := #[.int .i64 xa, .int .i64 xb, .int .i64 xc]) (i := 0) (k := .i64) (by decide) rfl w
        have hx1 : ∀ w, (Instr.index 51 (.agg #[.int .i64 xa, .int .i64 xb, .int .i64 xc]) (.int .i64 1)).run Tryd.prog w = .ok (.int .i64 xb) w := fun w => run_index_int Tryd.underlying51 (cs := #[.int .i64 xa, .int .i64 xb, .int .i64 xc]) (i := 1) (k := .i64) (by decide) rfl w
        have hx2 : ∀ w, (Instr.index 51 (.agg #[.int .i64 xa, .int .i64 xb, .int .i64 xc]) (.int .i64 2)).run Tryd.prog w = .ok (.int .i64 xc) w := fun w => run_index_int Tryd.underlying51 (cs := #[.int .i64 xa, .int .i64 xb, .int .i64 xc]) (i := 2) (k := .i64) (by decide) rfl w
        go_loopw [34] (fun i wr => ∃ k : Nat, k ≤ 3 ∧ i = .int .i64 k ∧ wr = w2) (fun i _ => 3 - (intOf i).toNat)
        case atStart => exact ⟨0, by omega, rfl, rfl⟩
        case round =>
          obtain ⟨k, hk, rfl, rfl⟩ := hrel
          rcases (by omega : k = 0 ∨ k = 1 ∨ k = 2 ∨ k = 3) with rfl | rfl | rfl | rfl
          · by_cases hv : 0 ≤ xa
            · by_cases ha : (0 : Int) < a
              · go_wp2_with fail
                go_roundw
                case rel => exact ⟨1, by omega, by go_num, by first | rfl | trivial⟩
                case measure => simp [intOf]
              · go_wp2_with fail
                go_ret
                exact ⟨_, rfl, fun h1 h2 h3 => absurd rfl h2, fun h => absurd (show (24 : Int) = 15 from h) (by decide), HB2.out⟩
            · by_cases ha : (0 : Int) < a
              · go_wp2_with fail
                go_ret
                exact ⟨_, rfl, fun h1 h2 h3 => absurd rfl h2, fun h => absurd (show (24 : Int) = 15 from h) (by decide), HB2.out⟩
              · go_wp2_with fail
                go_roundw
                case rel => exact ⟨1, by omega, by go_num, by first | rfl | trivial⟩
                case measure => simp [intOf]
          · by_cases hv : 0 ≤ xb
            · by_cases ha : (1 : Int) < a
              · go_wp2_with fail
                go_roundw
                case rel => exact ⟨2, by omega, by go_num, by first | rfl | trivial⟩
                case measure => simp [intOf]
              · go_wp2_with fail
                go_ret
                exact ⟨_, rfl, fun h1 h2 h3 => absurd rfl h2, fun h => absurd (show (24 : Int) = 15 from h) (by decide), HB2.out⟩
            · by_cases ha : (1 : Int) < a
              · go_wp2_with fail
                go_ret
                exact ⟨_, rfl, fun h1 h2 h3 => absurd rfl h2, fun h => absurd (show (24 : Int) = 15 from h) (by decide), HB2.out⟩
              · go_wp2_with fail
                go_roundw
                case rel => exact ⟨2, by omega, by go_num, by first | rfl | trivial⟩
                case measure => simp [intOf]
          · by_cases hv : 0 ≤ xc
            · by_cases ha : (2 : Int) < a
              · go_wp2_with fail
                go_roundw
                case rel => exact ⟨3, by omega, by go_num, by first | rfl | trivial⟩
                case measure => simp [intOf]
              · go_wp2_with fail
                go_ret
                exact ⟨_, rfl, fun h1 h2 h3 => absurd rfl h2, fun h => absurd (show (24 : Int) = 15 from h) (by decide), HB2.out⟩
            · by_cases ha : (2 : Int) < a
              · go_wp2_with fail
                go_ret
                exact ⟨_, rfl, fun h1 h2 h3 => absurd rfl h2, fun h => absurd (show (24 : Int) = 15 from h) (by decide), HB2.out⟩
              · go_wp2_with fail
                go_roundw
                case rel => exact ⟨3, by omega, by go_num, by first | rfl | trivial⟩
                case measure => simp [intOf]
          · go_wp2_with fail
            go_ret
            exact ⟨_, rfl, fun h1 h2 h3 => absurd rfl h2, fun h => absurd (show (24 : Int) = 15 from h) (by decide), HB2.out⟩
  case pos =>
    subst h15
    have HC := Lib.hid (show Calls Tryd.prog 54 #[.agg #[.int .i64 15, strV xt, strV xt2, .int .i64 xn, .int .i64 xa, .int .i64 xb, .int .i64 xc, .int .i64 xh]] _ _ from c54 ⟨15, xt, xt2, xn, xa, xb, xc, xh⟩ _ HT.out (.inl rfl) (fun h => HN.out (by simp at h)))
    go_enter Tryd.func36, Tryd.ntmps36
    go_wp2_with fail
    refine HC.out.mono ?_
    rintro e w2 ⟨a, r, rfl, hr, hb2⟩
    have HR := Lib.hid hr
    have HB2 := Lib.hid (next_ HB.out hb2)
    have HX2 := Lib.hid (HX.out.next hb2)
    clear hb2 hr HX HC
    generalize w.heap.size = xb0 at HX2 ⊢
    have x0 : w2.cell? ⟨xb0, 0, none⟩ = some (.int .i64 15) := HX2.out.cell 0
    have x4 : w2.cell? ⟨xb0, 4, none⟩ = some (.int .i64 xa) := HX2.out.cell 4
    have x5 : w2.cell? ⟨xb0, 5, none⟩ = some (.int .i64 xb) := HX2.out.cell 5
    have x6 : w2.cell? ⟨xb0, 6, none⟩ = some (.int .i64 xc) := HX2.out.cell 6
    cases r with
    | false =>
      go_wp2_with fail
      go_ret
      exact ⟨_, rfl, fun h1 h2 h3 => absurd rfl h1, fun _ => HR.out (by first | rfl | trivial), HB2.out⟩
    | true =>
      go_wp2_with fail
      have hx0 : ∀ w, (Instr.index 51 (.agg #[.int .i64 xa, .int .i64 xb, .int .i64 xc]) (.int .i64 0)).run Tryd.prog w = .ok (.int .i64 xa) w := fun w => run_index_int Tryd.underlying51 (cs := #[.int .i64 xa, .int .i64 xb, .int .i64 xc]) (i := 0) (k := .i64) (by decide) rfl w
      have hx1 : ∀ w, (Instr.index 51 (.agg #[.int .i64 xa, .int .i64 xb, .int .i64 xc]) (.int .i64 1)).run Tryd.prog w = .ok (.int .i64 xb) w := fun w => run_index_int Tryd.underlying51 (cs := #[.int .i64 xa, .int .i64 xb, .int .i64 xc]) (i := 1) (k := .i64) (by decide) rfl w
      have hx2 : ∀ w, (Instr.index 51 (.agg #[.int .i64 xa, .int .i64 xb, .int .i64 xc]) (.int .i64 2)).run Tryd.prog w = .ok (.int .i64 xc) w := fun w => run_index_int Tryd.underlying51 (cs := #[.int .i64 xa, .int .i64 xb, .int .i64 xc]) (i := 2) (k := .i64) (by decide) rfl w
      go_loopw [34] (fun i wr => ∃ k : Nat, k ≤ 3 ∧ i = .int .i64 k ∧ wr = w2) (fun i _ => 3 - (intOf i).toNat)
      case atStart => exact ⟨0, by omega, rfl, rfl⟩
      case round =>
        obtain ⟨k, hk, rfl, rfl⟩ := hrel
        rcases (by omega : k = 0 ∨ k = 1 ∨ k = 2 ∨ k = 3) with rfl | rfl | rfl | rfl
        · go_wp2_with fail
          go_roundw
          case rel => exact ⟨1, by omega, by go_num, by first | rfl | trivial⟩
          case measure => simp [intOf]
        · go_wp2_with fail
          go_roundw
          case rel => exact ⟨2, by omega, by go_num, by first | rfl | trivial⟩
          case measure => simp [intOf]
        · go_wp2_with fail
          go_roundw
          case rel => exact ⟨3, by omega, by go_num, by first | rfl | trivial⟩
          case measure => simp [intOf]
        · go_wp2_with fail
          go_ret
          exact ⟨_, rfl, fun h1 h2 h3 => absurd rfl h1, fun _ => HR.out (by first | rfl | trivial), HB2.out⟩
end Go.Proofs.YtphojigdapaaiaaDoor
