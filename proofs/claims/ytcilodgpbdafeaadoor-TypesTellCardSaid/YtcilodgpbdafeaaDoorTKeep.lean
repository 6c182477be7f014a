/- keep.Type: are two types alike; keep.LargeType. -/
import Derived.Test.YtcilodgpbdafeaaDoorTSml
namespace Go.Proofs.YtcilodgpbdafeaaDoor
open Go.ChangeShapes Go.WideShapes Go.ChangeAt Go.RowKit
set_option linter.unusedVariables false
set_option linter.unusedSimpArgs false
set_option maxRecDepth 100000 in
set_option maxHeartbeats 2000000 in
theorem c18 (l l' : List Part) (A A' : Option Addr) (c c' : Nat) (w : World) (hr : RT w A l) (hr' : RT w A' l') (hm : l.length ≤ 3000) :
    Calls Tryd.prog 18 #[.slice A l.length c, .slice A' l'.length c'] w fun e w' => e = .returned (.bool (decide (l = l'))) ∧ Below w.heap.size w w' := by
  have HR := Lib.hid hr
  have HR' := Lib.hid hr'
  clear hr hr'
  by_cases hn : l.length = l'.length
  · have fn : ((l.length : Int) != (l'.length : Int)) = false := bne_eq_false_iff_eq.2 (by omega)
    have HN := Lib.hid hn
    clear hn
    go_enter Tryd.func18, Tryd.ntmps18
    go_wp2_with fail
    go_loopw [5] (fun i wr => ∃ k m : Nat, k ≤ l.length ∧ i = .int .i64 k ∧ l.take k = l'.take k ∧ wr = w.drewN m) (fun i _ => l.length - (intOf i).toNat)
    case atStart => exact ⟨0, 0, by omega, rfl, rfl, rfl⟩
    case round =>
      obtain ⟨k, m, hk, rfl, hg, rfl⟩ := hrel
      have HG := Lib.hid hg
      clear hg
      by_cases hlt : k < l.length
      · have hl : (k : Int) < (l.length : Int) := by omega
        have hlt' : k < l'.length := by have := HN.out; omega
        have hl' : (k : Int) < (l'.length : Int) := by omega
        have hk0 : (0 : Int) ≤ (k : Int) := by omega
        obtain ⟨ad, rfl, _, a0, a1, a2, a3, a4⟩ := Reads.partN HR.out (List.getElem?_eq_getElem hlt)
        obtain ⟨ad', rfl, _, b0, b1, b2, b3, b4⟩ := Reads.partN HR'.out (List.getElem?_eq_getElem hlt')
        have ht : l[k] = l'[k] → l.take (k + 1) = l'.take (k + 1) := fun e => by
          rw [List.take_add_one, List.take_add_one, List.getElem?_eq_getElem hlt, List.getElem?_eq_getElem hlt', HG.out, e]
        have hne : l[k] ≠ l'[k] → l ≠ l' := fun h e => h (by subst e; rfl)
        generalize l[k] = x at a0 a1 a2 a3 a4 ht hne
        generalize l'[k] = y at b0 b1 b2 b3 b4 ht hne
        have HT := Lib.hid ht
        have HNE := Lib.hid hne
        clear ht hne
        obtain ⟨xk, xa, xb, xn, xt⟩ := x
        obtain ⟨yk, ya, yb, yn, yt⟩ := y
        simp only at a0 a1 a2 a3 a4 b0 b1 b2 b3 b4
        have en := fun w => neq29 w xk xa xb xn xt yk ya yb yn yt
        by_cases hxy : (⟨xk, xa, xb, xn, xt⟩ : Part) = ⟨yk, ya, yb, yn, yt⟩
        · have HE := Lib.hid (HT.out hxy)
          rw [decide_eq_true hxy] at en
          clear hxy
          go_wp2_with fail
          go_quiet (fail)
          go_wp2_with fail
          go_roundw
          case rel => exact ⟨k + 1, m + _, by omega, by go_num, HE.out, by rw [← World.drewN_drewN]⟩
          case measure => simp [intOf]; omega
        · have HE := Lib.hid (HNE.out hxy)
          rw [decide_eq_false hxy] at en
          clear hxy
          go_wp2_with fail
          go_quiet (fail)
          go_wp2_with fail
          go_ret
          refine ⟨?_, below_drewN (below_drewN (Below.refl _ _) _) _⟩
          rw [decide_eq_false HE.out]
          rfl
      · have hl : ¬ (k : Int) < (l.length : Int) := by omega
        have HE := Lib.hid (show l = l' by
          have h := HG.out
          rw [List.take_of_length_le (by omega), List.take_of_length_le (by have := HN.out; omega)] at h
          exact h)
        clear HG
        go_wp2_with fail
        go_ret
        refine ⟨?_, below_drewN (Below.refl _ _) _⟩
        rw [decide_eq_true HE.out]
        rfl
  · have fn : ((l.length : Int) != (l'.length : Int)) = true := bne_iff_ne.2 (by omega)
    have HN := Lib.hid (show l ≠ l' from fun e => hn (by rw [e]))
    clear hn
    go_enter Tryd.func18, Tryd.ntmps18
    go_wp2_with fail
    go_ret
    refine ⟨?_, Below.refl _ _⟩
    rw [decide_eq_false HN.out]
    rfl
/-- How much a type's parts and texts are. -/
def bulk (l : List Part) : Nat := (l.map fun p => 1 + min p.t.length 3000).sum
/-- keep.LargeType's answer. -/
def large (l : List Part) : Bool := decide (3000 < bulk l) || decide (400 < l.length)
theorem bulk_len (l : List Part) : l.length ≤ bulk l := by
  induction l with
  | nil => exact Nat.le_refl _
  | cons p l ih => unfold bulk at *; rw [List.map_cons, List.sum_cons, List.length_cons]; omega
theorem bulk_snoc (l : List Part) (p : Part) : bulk (l ++ [p]) = bulk l + (1 + min p.t.length 3000) := by
  unfold bulk
  rw [List.map_append, List.sum_append]
  simp
theorem bulk_take (l : List Part) (k : Nat) : bulk (l.take k) ≤ bulk l := by
  have h := List.take_append_drop k l
  have : bulk l = bulk (l.take k) + bulk (l.drop k) := by
    conv => lhs; rw [← h]
    unfold bulk
    rw [List.map_append, List.sum_append]
  omega
theorem strV_size (t : List UInt8) : (⟨t.toArray⟩ : ByteArray).size = t.length := by
  show t.toArray.size = _
  simp
set_option maxRecDepth 100000 in
set_option maxHeartbeats 2000000 in
theorem c8 (l : List Part) (A : Option Addr) (c : Nat) (w : World) (hr : RT w A l) (ht : ∀ p ∈ l, p.t.length ≤ 281474976710656) (hll : l.length ≤ 281474976710656) :
    Calls Tryd.prog 8 #[.slice A l.length c] w fun e w' => e = .returned (.bool (large l)) ∧ w = w' := by
  have HR := Lib.hid hr
  have HT := Lib.hid ht
  clear hr ht
  go_enter Tryd.func8, Tryd.ntmps8
  go_wp2_with fail
  go_loopw [3, 4] (fun n i wr => ∃ k : Nat, k ≤ l.length ∧ i = .int .i64 k ∧ n = .int .i64 ((bulk (l.take k) : Nat) : Int) ∧ bulk (l.take k) ≤ 6001 ∧ wr = w) (fun _ i _ => l.length - (intOf i).toNat)
  case atStart => exact ⟨0, by omega, rfl, rfl, by simp [bulk], rfl⟩
  case round =>
    obtain ⟨k, hk, rfl, rfl, hbk, rfl⟩ := hrel
    have hbt := bulk_take l k
    generalize hq : bulk (l.take k) = q at hbk hbt
    have HQ := Lib.hid hq
    clear hq
    by_cases hlt : k < l.length
    · have hlk : (k : Int) < (l.length : Int) := by omega
      have hk0 : (0 : Int) ≤ (k : Int) := by omega
      by_cases hq3 : q ≤ 3000
      · have hq3' : (q : Int) ≤ 3000 := by omega
        obtain ⟨ad, rfl, _, a0, a1, a2, a3, a4⟩ := Reads.partN HR.out (List.getElem?_eq_getElem hlt)
        have hpl : l[k].t.length ≤ 281474976710656 := HT.out _ (List.getElem_mem hlt)
        have hsn : bulk (l.take (k + 1)) = q + (1 + min l[k].t.length 3000) := by
          rw [List.take_add_one, List.getElem?_eq_getElem hlt, show (some l[k]).toList = [l[k]] from rfl, bulk_snoc, HQ.out]
        generalize l[k] = p at a4 hsn hpl
        have HSN := Lib.hid hsn
        clear hsn a0 a1 a2 a3
        obtain ⟨tl, htl⟩ : ∃ tl, tl = p.t.length := ⟨_, rfl⟩
        have HTL := Lib.hid htl
        have hsz := strV_size p.t
        rw [← htl] at hsz hpl
        clear htl
        obtain ⟨mn, hmn⟩ : ∃ mn, mn = min tl 3000 := ⟨_, rfl⟩
        have hmi : (if (3000 : Int) < (tl : Int) then (3000 : Int) else (tl : Int)) = (mn : Int) := by split <;> omega
        have HMN := Lib.hid hmn
        have hm3 : mn ≤ 3000 := by omega
        clear hmn
        go_wp2_with (refine wpList_min rfl (.tmp 21) (.const (.int .i64 3000)) _ rfl _ _ _ _ rfl rfl _ hmi ?_)
        go_roundw
        case rel =>
          have e : bulk (l.take (k + 1)) = q + (1 + mn) := by rw [HSN.out, ← HTL.out, ← HMN.out]
          exact ⟨k + 1, by omega, by go_num, by rw [e]; go_num, by rw [e]; omega, by first | rfl | trivial⟩
        case measure => simp [intOf]; omega
      · have hq3' : ¬ ((q : Int) ≤ 3000) := by omega
        have HL := Lib.hid (show large l = true by unfold large; rw [decide_eq_true (by omega : 3000 < bulk l)]; rfl)
        have hq4 : (3000 : Int) < (q : Int) := by omega
        go_wp2_with fail
        go_ret
        exact ⟨by rw [HL.out]; rfl, by first | rfl | trivial⟩
    · have hkl : k = l.length := by omega
      subst hkl
      have hlk : ¬ ((l.length : Int) < (l.length : Int)) := by omega
      have hbl : bulk l = q := by have h := HQ.out; rw [List.take_length] at h; exact h
      have HL := Lib.hid (show large l = (decide (3000 < q) || decide (400 < l.length)) by unfold large; rw [hbl])
      clear hbl hbt
      by_cases h3 : 3000 < q
      · have h3' : (3000 : Int) < (q : Int) := by omega
        have HLt := Lib.hid (show large l = true by rw [HL.out, decide_eq_true h3]; rfl)
        go_wp2_with fail
        go_ret
        exact ⟨by rw [HLt.out]; rfl, by first | rfl | trivial⟩
      · have h3' : ¬ ((3000 : Int) < (q : Int)) := by omega
        by_cases h4 : 400 < l.length
        · have h4' : (400 : Int) < (l.length : Int) := by omega
          have HLt := Lib.hid (show large l = true by rw [HL.out, decide_eq_true h4, Bool.or_true])
          go_wp2_with fail
          go_ret
          exact ⟨by rw [HLt.out]; rfl, by first | rfl | trivial⟩
        · have h4' : ¬ ((400 : Int) < (l.length : Int)) := by omega
          have HLt := Lib.hid (show large l = false by rw [HL.out, decide_eq_false h3, decide_eq_false h4]; rfl)
          go_wp2_with fail
          go_ret
          exact ⟨by rw [HLt.out]; rfl, by first | rfl | trivial⟩
end Go.Proofs.YtcilodgpbdafeaaDoor
