/- The walk of ScopeCons: it returns true, whatever the bools are. -/
import Derived.Test.YtphojigdapaaiaaDoorSKg
import Derived.LoopN
import Derived.StillTailTactics
import Derived.Deep.QuietTactic
import Derived.BigQuiet
namespace Go.Proofs.YtphojigdapaaiaaDoor
open Go.ChangeShapes Go.WideShapes Go.ChangeAt Go.RowKit
set_option linter.unusedVariables false
set_option linter.unusedSimpArgs false
theorem run_fault36 (a b : Int) (w : World) : (Instr.field 36 (.agg #[.int .i64 a, .int .i64 b]) 0).run Tryd.prog w = .ok (.int .i64 a) w := by
  kernel_rfl
/-- The text so far. -/
def HeadS (has : List Bool) (k : Nat) (s : Value) : Prop := ∃ B, s = .string B ∧ lis B = headB has k
set_option maxRecDepth 100000 in
set_option maxHeartbeats 8000000 in
theorem c5 {tab : Nat → OpRow} (has : List Bool) (A : Option Addr) (c : Nat) (w : World) (hl : has.length ≤ maxLen) (hy : Reads w w.heap.size 1 A has.length (has.map Value.bool)) (hS : TabsX tab w) :
    Calls Tryd.prog 5 #[.slice A has.length c] w (WakesEnd w) := by
  have HS := Lib.hid hS
  have HB := Lib.hid (Below.refl w.heap.size w)
  unfold maxLen at hl
  clear hS
  by_cases h1 : has.length < 1
  · have h1' : (has.length : Int) < 1 := by omega
    go_enter Tryd.func5, Tryd.ntmps5
    go_wp2_with fail
    refine (c14 w HS.out).mono ?_
    rintro e w1 ⟨rfl, hb⟩
    have HB1 := Lib.hid (next_ HB.out hb)
    clear hb
    go_wp2_with fail
    go_ret
    exact ⟨rfl, HB1.out⟩
  have h1' : ¬ (has.length : Int) < 1 := by omega
  by_cases h2 : 12 < has.length
  · have h2' : (12 : Int) < (has.length : Int) := by omega
    go_enter Tryd.func5, Tryd.ntmps5
    go_wp2_with fail
    refine (c14 w HS.out).mono ?_
    rintro e w1 ⟨rfl, hb⟩
    have HB1 := Lib.hid (next_ HB.out hb)
    clear hb
    go_wp2_with fail
    go_ret
    exact ⟨rfl, HB1.out⟩
  have h2' : ¬ (12 : Int) < (has.length : Int) := by omega
  have H1 := Lib.hid (show 1 ≤ has.length ∧ has.length ≤ 12 by omega)
  obtain ⟨ad, rfl, hab, hcell⟩ := hy.2 (by omega)
  have HC := Lib.hid (show ∀ wX, Below w.heap.size w wX → ∀ k, k < has.length → wX.cell? (ad.add k) = some (.bool (hbK has k)) from fun wX hb k hk => by
    rw [hb.cell (by rw [block_of_add]; exact hab)]
    exact hcell k _ (by unfold hbK; rw [List.getElem?_map, List.getD_eq_getElem?_getD, List.getElem?_eq_getElem hk]; rfl))
  clear h1 h2 hab hcell hy
  go_enter Tryd.func5, Tryd.ntmps5
  go_upto_region 4 with fail
  go_wp2_with fail
  go_loopw [3, 4] (fun s i wr => ∃ k : Nat, k ≤ has.length ∧ i = .int .i64 k ∧ HeadS has k s ∧ Below w.heap.size w wr) (fun _ i _ => has.length - (intOf i).toNat)
  case atStart => exact ⟨0, by omega, rfl, ⟨_, rfl, rfl⟩, HB.out⟩
  case round =>
    obtain ⟨k, hk, rfl, ⟨B, rfl, hs⟩, hb⟩ := hrel
    have HBk := Lib.hid hb
    have HSB := Lib.hid hs
    have hsz := head_len hk H1.out.2 hs
    clear hb hs
    by_cases hlt : k < has.length
    · have hlk : (k : Int) < (has.length : Int) := by omega
      have hk0 : (0 : Int) ≤ (k : Int) := by omega
      have hcv : (convert 40 9 (.slice (some ⟨wr.heap.size, 0, none⟩) 1 1)).run Tryd.prog (wr.alloc (.cells #[.int .u8 (97 + (k : Int))] 5)) = .ok (.string ⟨#[chB k]⟩) (wr.alloc (.cells #[.int .u8 (97 + (k : Int))] 5)) := by
        have h := run_conv (l := [chB k]) (c := 1) rfl (newB wr [chB k])
        rw [show (cellsB [chB k]).toArray = #[.int .u8 (97 + (k : Int))] by rw [← ch_val (show k < 12 by have := H1.out; omega)]; rfl] at h
        exact h
      obtain ⟨C, hC, hD⟩ := head_step hlt HSB.out
      have HD := Lib.hid hD
      have HB7 := Lib.hid (next_ HBk.out (below_new wr (.cells #[.int .u8 (97 + (k : Int))] 5)))
      have yk := HC.out _ HB7.out k hlt
      clear hD
      by_cases h0 : k = 0
      · rw [if_pos h0] at hC
        have HHC := Lib.hid hC
        clear hC
        have h0' : ¬ (0 : Int) < (k : Int) := by omega
        clear h0
        cases hbk : hbK has k with
        | false =>
          rw [hbk] at HD yk
          go_wp2_with fail
          go_roundw
          case rel => exact ⟨k + 1, by omega, by go_num, ⟨_, rfl, by have h := HD.out; rw [HHC.out] at h; exact h⟩, HB7.out⟩
          case measure => simp [intOf]; omega
        | true =>
          rw [hbk] at HD yk
          go_wp2_with fail
          go_roundw
          case rel => exact ⟨k + 1, by omega, by go_num, ⟨_, rfl, by have h := HD.out; rw [HHC.out] at h; exact h⟩, HB7.out⟩
          case measure => simp [intOf]; omega
      · rw [if_neg h0] at hC
        have HHC := Lib.hid hC
        clear hC
        have h0' : (0 : Int) < (k : Int) := by omega
        clear h0
        cases hbk : hbK has k with
        | false =>
          rw [hbk] at HD yk
          go_wp2_with fail
          go_roundw
          case rel => exact ⟨k + 1, by omega, by go_num, ⟨_, rfl, by have h := HD.out; rw [HHC.out] at h; exact h⟩, HB7.out⟩
          case measure => simp [intOf]; omega
        | true =>
          rw [hbk] at HD yk
          go_wp2_with fail
          go_roundw
          case rel => exact ⟨k + 1, by omega, by go_num, ⟨_, rfl, by have h := HD.out; rw [HHC.out] at h; exact h⟩, HB7.out⟩
          case measure => simp [intOf]; omega
    · have hlk : ¬ (k : Int) < (has.length : Int) := by omega
      obtain rfl : k = has.length := by omega
      clear hlt hk
      have HSO := Lib.hid (src_all H1.out.1 H1.out.2 (head_end has HSB.out))
      have HSr := Lib.hid (HS.out.next HBk.out)
      go_wp2_with fail
      refine (show Calls Tryd.prog 16 #[.string (B ++ ⟨#[32, 59, 32, 116, 121, 112, 101, 32, 117, 32, 61, 32, 68, 32, 124, 32, 67, 97, 32, 111, 102, 32, 105, 110, 116, 32, 59, 32, 49]⟩)] wr _ from HSO.out.of_ wr).mono ?_
      rintro e w1 ⟨A1, c1, A2, c2, rfl, ht, hb⟩
      have hT1 := ht.is_
      have hB1 := next_ HBk.out hb
      have hS1 := HSr.out.next hb
      clear ht hb
      have HCI := Lib.hid (show ∀ i, i < has.length → ∀ (u u' : World) (e : Ending), ConEnd (treeOf has) (nmB i) u e u' → e = .returned (.tuple #[.string ⟨#[116]⟩, .int .i64 (i : Int), .bool (hbK has i), .bool true]) ∧ Below u.heap.size u u' from fun i hi u u' e h => con_i H1.out.1 H1.out.2 hi h)
      have HCD := Lib.hid (show ∀ (u u' : World) (e : Ending), ConEnd (treeOf has) [68] u e u' → e = .returned (.tuple #[.string ⟨#[117]⟩, .int .i64 0, .bool false, .bool true]) ∧ Below u.heap.size u u' from fun u u' e h => con_d H1.out.1 H1.out.2 h)
      have HFE := Lib.hid (show ∀ (u u' : World) (e : Ending), FaultEnd (faultF (treeOf has)) u e u' → ∃ q, e = .returned (.agg #[.int .i64 13, .int .i64 q]) ∧ Below u.heap.size u u' from fun u u' e h => fault_e H1.out.1 H1.out.2 h)
      generalize treeOf has = t at HSO HCI HCD HFE hT1 ⊢
      have hX := Blk.new w1 25 #[.slice A1 t.l.length c1, .slice A2 t.y.length c2, .int .i64 t.r]
      have hb := below_new w1 (.cells #[.slice A1 t.l.length c1, .slice A2 t.y.length c2, .int .i64 t.r] 25)
      have HT := Lib.hid (hT1.next hb)
      have HX := Lib.hid hX
      have HB2 := Lib.hid (next_ hB1 hb)
      have HS2 := Lib.hid (hS1.next hb)
      clear hX hb hT1 hB1 hS1
      go_upto_region 13 with fail
      generalize w1.alloc (.cells #[.slice A1 t.l.length c1, .slice A2 t.y.length c2, .int .i64 t.r] 25) = w2 at HT HX HB2 HS2 ⊢
      generalize w1.heap.size = xb at HX ⊢
      go_wp2_with fail
      go_loopw [6] (fun i wr => ∃ k : Nat, k ≤ has.length ∧ i = .int .i64 k ∧ Below w2.heap.size w2 wr) (fun i _ => has.length - (intOf i).toNat)
      case atStart => exact ⟨0, by omega, rfl, Below.refl _ _⟩
      case round =>
        obtain ⟨k, hk, rfl, hb⟩ := hrel
        have HB3 := Lib.hid (next_ HB2.out hb)
        have HT3 := Lib.hid (HT.out.next hb)
        have HX3 := Lib.hid (HX.out.next hb)
        have HS3 := Lib.hid (HS2.out.next hb)
        have HBr := Lib.hid hb
        clear hb
        have x0 : wr.cell? ⟨xb, 0, none⟩ = some (.slice A1 t.l.length c1) := HX3.out.cell 0
        have x1 : wr.cell? ⟨xb, 1, none⟩ = some (.slice A2 t.y.length c2) := HX3.out.cell 1
        have x2 : wr.cell? ⟨xb, 2, none⟩ = some (.int .i64 t.r) := HX3.out.cell 2
        by_cases hlt : k < has.length
        · have hlk : (k : Int) < (has.length : Int) := by omega
          have hk0 : (0 : Int) ≤ (k : Int) := by omega
          have hcv : (convert 40 9 (.slice (some ⟨wr.heap.size, 0, none⟩) 1 1)).run Tryd.prog (wr.alloc (.cells #[.int .u8 (97 + (k : Int))] 5)) = .ok (.string ⟨#[chB k]⟩) (wr.alloc (.cells #[.int .u8 (97 + (k : Int))] 5)) := by
            have h := run_conv (l := [chB k]) (c := 1) rfl (newB wr [chB k])
            rw [show (cellsB [chB k]).toArray = #[.int .u8 (97 + (k : Int))] by rw [← ch_val (show k < 12 by have := H1.out; omega)]; rfl] at h
            exact h
          have hb5 := below_new wr (.cells #[.int .u8 (97 + (k : Int))] 5)
          have HB5 := Lib.hid (next_ HB3.out hb5)
          have HBr5 := Lib.hid (next_ HBr.out hb5)
          have HT5 := Lib.hid (HT3.out.next hb5)
          have HS5 := Lib.hid (HS3.out.next hb5)
          clear hb5
          go_wp2_with fail
          clear hcv x0 x1 x2
          generalize wr.alloc (.cells #[.int .u8 (97 + (k : Int))] 5) = w5 at HB5 HBr5 HT5 HS5 ⊢
          refine (show Calls Tryd.prog 17 #[.agg #[.slice A1 t.l.length c1, .slice A2 t.y.length c2, .int .i64 t.r], .string (⟨#[67]⟩ ++ ⟨#[chB k]⟩)] w5 _ from by rw [nm_app]; exact HSO.out.con_ (nmB k) w5 HT5.out HS5.out).mono ?_
          intro e w6 he
          obtain ⟨rfl, hb6⟩ := HCI.out k hlt _ _ _ he
          have HB6 := Lib.hid (next_ HB5.out hb6)
          have HBr6 := Lib.hid (next_ HBr5.out hb6)
          have yk := HC.out _ HB6.out k hlt
          clear he hb6
          generalize hbK has k = q at yk ⊢
          cases q with
          | false =>
            go_wp2_with fail
            go_roundw
            case rel => exact ⟨k + 1, by omega, by go_num, HBr6.out⟩
            case measure => simp [intOf]; omega
          | true =>
            go_wp2_with fail
            go_roundw
            case rel => exact ⟨k + 1, by omega, by go_num, HBr6.out⟩
            case measure => simp [intOf]; omega
        · have hlk : ¬ (k : Int) < (has.length : Int) := by omega
          go_wp2_with fail
          clear x0 x1 x2
          refine (show Calls Tryd.prog 17 #[.agg #[.slice A1 t.l.length c1, .slice A2 t.y.length c2, .int .i64 t.r], .string ⟨#[68]⟩] wr _ from HSO.out.con_ [68] wr HT3.out HS3.out).mono ?_
          intro e w6 he
          obtain ⟨rfl, hb6⟩ := HCD.out _ _ _ he
          have HB6 := Lib.hid (next_ HB3.out hb6)
          have HT6 := Lib.hid (HT3.out.next hb6)
          have HX6 := Lib.hid (HX3.out.next hb6)
          have HS6 := Lib.hid (HS3.out.next hb6)
          clear he hb6
          have x0 : w6.cell? ⟨xb, 0, none⟩ = some (.slice A1 t.l.length c1) := HX6.out.cell 0
          have x1 : w6.cell? ⟨xb, 1, none⟩ = some (.slice A2 t.y.length c2) := HX6.out.cell 1
          have x2 : w6.cell? ⟨xb, 2, none⟩ = some (.int .i64 t.r) := HX6.out.cell 2
          go_wp2_with fail
          clear x0 x1 x2
          refine (show Calls Tryd.prog 15 #[.agg #[.slice A1 t.l.length c1, .slice A2 t.y.length c2, .int .i64 t.r]] w6 _ from HSO.out.check_ w6 HT6.out HS6.out).mono ?_
          intro e w7 he
          obtain ⟨q, rfl, hb7⟩ := HFE.out _ _ _ he
          have HB7 := Lib.hid (next_ HB6.out hb7)
          have HS7 := Lib.hid (HS6.out.next hb7)
          clear he hb7
          have hfd := run_fault36 13 q w7
          go_wp2_with fail
          refine (c14 w7 HS7.out).mono ?_
          rintro e w8 ⟨rfl, hb8⟩
          have HB8 := Lib.hid (next_ HB7.out hb8)
          clear hb8
          go_wp2_with fail
          go_ret
          exact ⟨rfl, HB8.out⟩
end Go.Proofs.YtphojigdapaaiaaDoor
