/- keep.Ints, keep.Texts: are two lists alike. -/
import Derived.Test.YtiphicejaljhiaaDoorKCode
namespace Go.Proofs.YtiphicejaljhiaaDoor
open Go.ChangeShapes Go.WideShapes Go.ChangeAt Go.RowKit
set_option maxRecDepth 100000 in
set_option maxHeartbeats 2000000 in
theorem c66 (l l' : List Int) (A A' : Option Addr) (c c' B B' : Nat) (w : World) (hr : Reads w B 1 A l.length (l.map (Value.int .i64))) (hr' : Reads w B' 1 A' l'.length (l'.map (Value.int .i64))) (hm : l.length ≤ maxLen) :
    Calls Tryd.prog 66 #[.slice A l.length c, .slice A' l'.length c'] w fun e w' => e = .returned (.bool (decide (l = l'))) ∧ Below w.heap.size w w' := by
  unfold maxLen at hm
  by_cases hn : l.length = l'.length
  · have fn : ((l.length : Int) != (l'.length : Int)) = false := bne_eq_false_iff_eq.2 (by omega)
    have HN := Lib.hid hn
    clear hn
    go_enter Tryd.func66, Tryd.ntmps66
    go_wp2_with fail
    go_loopw [5] (fun i wr => ∃ k m : Nat, k ≤ l.length ∧ i = .int .i64 k ∧ l.take k = l'.take k ∧ wr = w.drewN m) (fun i _ => l.length - (intOf i).toNat)
    case atStart => exact ⟨0, 0, by omega, rfl, rfl, rfl⟩
    case round =>
      obtain ⟨k, m, hk, rfl, hg, rfl⟩ := hrel
      have HG := Lib.hid hg
      clear hg
      by_cases hlt : k < l.length
      · have hl : (k : Int) < (l.length : Int) := by omega
        have hlt' : k < l'.length := by have := HN.out; omega
        have hl' : (k : Int) < (l'.length : Int) := by omega
        have hk0 : (0 : Int) ≤ (k : Int) := by omega
        obtain ⟨ad, u, rfl, _, hu, a0⟩ := hr.at_ hlt
        obtain ⟨ad', u', rfl, _, hu', b0⟩ := hr'.at_ hlt'
        rw [List.getElem?_map, List.getElem?_eq_getElem hlt] at hu
        rw [List.getElem?_map, List.getElem?_eq_getElem hlt'] at hu'
        obtain rfl := Option.some.inj hu
        obtain rfl := Option.some.inj hu'
        clear hu hu'
        have ht : l[k] = l'[k] → l.take (k + 1) = l'.take (k + 1) := fun e => by
          rw [List.take_add_one, List.take_add_one, List.getElem?_eq_getElem hlt, List.getElem?_eq_getElem hlt', HG.out, e]
        have hne : l[k] ≠ l'[k] → l ≠ l' := fun h e => h (by subst e; rfl)
        generalize l[k] = x at a0 ht hne
        generalize l'[k] = y at b0 ht hne
        have HT := Lib.hid ht
        have HNE := Lib.hid hne
        clear ht hne
        by_cases hxy : x = y
        · have f1 : (x != y) = false := bne_eq_false_iff_eq.2 hxy
          have f2 : (x == y) = true := beq_iff_eq.2 hxy
          have HE := Lib.hid (HT.out hxy)
          clear hxy
          go_wp2_with fail
          go_quiet (fail)
          go_wp2_with fail
          go_roundw
          case rel => exact ⟨k + 1, m + _, by omega, by go_num, HE.out, by rw [← World.drewN_drewN]⟩
          case measure => simp [intOf]; omega
        · have f1 : (x != y) = true := bne_iff_ne.2 hxy
          have f2 : (x == y) = false := beq_eq_false_iff_ne.2 hxy
          have HE := Lib.hid (HNE.out hxy)
          clear hxy
          go_wp2_with fail
          go_quiet (fail)
          go_wp2_with fail
          go_ret
          refine ⟨?_, below_drewN (below_drewN (Below.refl _ _) _) _⟩
          rw [decide_eq_false HE.out]
          rfl
      · have hl : ¬ (k : Int) < (l.length : Int) := by omega
        have HE := Lib.hid (show l = l' by
          have h := HG.out
          rw [List.take_of_length_le (by omega), List.take_of_length_le (by have := HN.out; omega)] at h
          exact h)
        clear HG
        go_wp2_with fail
        go_ret
        refine ⟨?_, below_drewN (Below.refl _ _) _⟩
        rw [decide_eq_true HE.out]
        rfl
  · have fn : ((l.length : Int) != (l'.length : Int)) = true := bne_iff_ne.2 (by omega)
    have HN := Lib.hid (show l ≠ l' from fun e => hn (by rw [e]))
    clear hn
    go_enter Tryd.func66, Tryd.ntmps66
    go_wp2_with fail
    go_ret
    refine ⟨?_, Below.refl _ _⟩
    rw [decide_eq_false HN.out]
    rfl
set_option maxRecDepth 100000 in
set_option maxHeartbeats 2000000 in
theorem c65 (l l' : List (List UInt8)) (A A' : Option Addr) (c c' B B' : Nat) (w : World) (hr : Reads w B 1 A l.length (l.map strV)) (hr' : Reads w B' 1 A' l'.length (l'.map strV)) (hm : l.length ≤ maxLen) :
    Calls Tryd.prog 65 #[.slice A l.length c, .slice A' l'.length c'] w fun e w' => e = .returned (.bool (decide (l = l'))) ∧ Below w.heap.size w w' := by
  unfold maxLen at hm
  by_cases hn : l.length = l'.length
  · have fn : ((l.length : Int) != (l'.length : Int)) = false := bne_eq_false_iff_eq.2 (by omega)
    have HN := Lib.hid hn
    clear hn
    go_enter Tryd.func65, Tryd.ntmps65
    go_wp2_with fail
    go_loopw [5] (fun i wr => ∃ k m : Nat, k ≤ l.length ∧ i = .int .i64 k ∧ l.take k = l'.take k ∧ wr = w.drewN m) (fun i _ => l.length - (intOf i).toNat)
    case atStart => exact ⟨0, 0, by omega, rfl, rfl, rfl⟩
    case round =>
      obtain ⟨k, m, hk, rfl, hg, rfl⟩ := hrel
      have HG := Lib.hid hg
      clear hg
      by_cases hlt : k < l.length
      · have hl : (k : Int) < (l.length : Int) := by omega
        have hlt' : k < l'.length := by have := HN.out; omega
        have hl' : (k : Int) < (l'.length : Int) := by omega
        have hk0 : (0 : Int) ≤ (k : Int) := by omega
        obtain ⟨ad, u, rfl, _, hu, a0⟩ := hr.at_ hlt
        obtain ⟨ad', u', rfl, _, hu', b0⟩ := hr'.at_ hlt'
        rw [List.getElem?_map, List.getElem?_eq_getElem hlt] at hu
        rw [List.getElem?_map, List.getElem?_eq_getElem hlt'] at hu'
        obtain rfl := Option.some.inj hu
        obtain rfl := Option.some.inj hu'
        clear hu hu'
        have ht : l[k] = l'[k] → l.take (k + 1) = l'.take (k + 1) := fun e => by
          rw [List.take_add_one, List.take_add_one, List.getElem?_eq_getElem hlt, List.getElem?_eq_getElem hlt', HG.out, e]
        have hne : l[k] ≠ l'[k] → l ≠ l' := fun h e => h (by subst e; rfl)
        generalize l[k] = x at a0 ht hne
        generalize l'[k] = y at b0 ht hne
        have HT := Lib.hid ht
        have HNE := Lib.hid hne
        clear ht hne
        by_cases hxy : x = y
        · have f1 : (x != y) = false := bne_eq_false_iff_eq.2 hxy
          have f2 : (x == y) = true := beq_iff_eq.2 hxy
          have HE := Lib.hid (HT.out hxy)
          clear hxy
          go_wp2_with fail
          go_quiet (fail)
          go_wp2_with fail
          go_roundw
          case rel => exact ⟨k + 1, m + _, by omega, by go_num, HE.out, by rw [← World.drewN_drewN]⟩
          case measure => simp [intOf]; omega
        · have f1 : (x != y) = true := bne_iff_ne.2 hxy
          have f2 : (x == y) = false := beq_eq_false_iff_ne.2 hxy
          have HE := Lib.hid (HNE.out hxy)
          clear hxy
          go_wp2_with fail
          go_quiet (fail)
          go_wp2_with fail
          go_ret
          refine ⟨?_, below_drewN (below_drewN (Below.refl _ _) _) _⟩
          rw [decide_eq_false HE.out]
          rfl
      · have hl : ¬ (k : Int) < (l.length : Int) := by omega
        have HE := Lib.hid (show l = l' by
          have h := HG.out
          rw [List.take_of_length_le (by omega), List.take_of_length_le (by have := HN.out; omega)] at h
          exact h)
        clear HG
        go_wp2_with fail
        go_ret
        refine ⟨?_, below_drewN (Below.refl _ _) _⟩
        rw [decide_eq_true HE.out]
        rfl
  · have fn : ((l.length : Int) != (l'.length : Int)) = true := bne_iff_ne.2 (by omega)
    have HN := Lib.hid (show l ≠ l' from fun e => hn (by rw [e]))
    clear hn
    go_enter Tryd.func65, Tryd.ntmps65
    go_wp2_with fail
    go_ret
    refine ⟨?_, Below.refl _ _⟩
    rw [decide_eq_false HN.out]
    rfl
end Go.Proofs.YtiphicejaljhiaaDoor
