/- slices.Index, slices.Contains over texts; lex.kind. -/
import Derived.Test.YtphojigdapaaiaaDoorAWd
namespace Go.Proofs.YtphojigdapaaiaaDoor
open Go.ChangeShapes Go.WideShapes Go.ChangeAt Go.RowKit
set_option linter.unusedVariables false
set_option linter.unusedSimpArgs false
theorem Reads.at_ {w : World} {B n : Nat} {A : Option Addr} {xs : List Value} {k : Nat} (h : Reads w B 1 A n xs) (hk : k < n) : ∃ ad u, A = some ad ∧ ad.block < B ∧ xs[k]? = some u ∧ w.cell? (ad.add k) = some u := by
  obtain ⟨hl, hr⟩ := h
  obtain ⟨ad, e, hb, hc⟩ := hr (by omega)
  have hk' : k < xs.length := by omega
  exact ⟨ad, xs[k], e, hb, List.getElem?_eq_getElem hk', hc k _ (List.getElem?_eq_getElem hk')⟩
def IdxEnd (xs : List (List UInt8)) (s : List UInt8) (w : World) (e : Ending) (w' : World) : Prop := ∃ r : Int, e = .returned (.int .i64 r) ∧ (0 ≤ r ↔ s ∈ xs) ∧ w = w'
set_option maxRecDepth 100000 in
set_option maxHeartbeats 4000000 in
theorem c90 (xs : List (List UInt8)) (s : List UInt8) (A : Option Addr) (c : Nat) (w : World) (hr : Reads w w.heap.size 1 A xs.length (xs.map strV)) (hl : xs.length ≤ 3000) : Calls Tryd.prog 90 #[.slice A xs.length c, strV s] w (IdxEnd xs s w) := by
  have HR := Lib.hid hr
  clear hr
  show Calls Tryd.prog 90 #[.slice A xs.length c, .string ⟨s.toArray⟩] w _
  go_enter Tryd.func90, Tryd.ntmps90
  go_wp2_with fail
  go_loopw [8] (fun i wr => ∃ k : Nat, k ≤ xs.length ∧ i = .int .i64 k ∧ wr = w ∧ s ∉ xs.take k) (fun i _ => xs.length - (intOf i).toNat)
  case atStart => exact ⟨0, by omega, rfl, rfl, by simp⟩
  case round =>
    obtain ⟨k, hk, rfl, rfl, hn⟩ := hrel
    have HN := Lib.hid hn
    clear hn
    by_cases hlt : k < xs.length
    · have hlk : (k : Int) < (xs.length : Int) := by omega
      have hk0 : (0 : Int) ≤ (k : Int) := by omega
      obtain ⟨ad, u, rfl, _, hu, hc⟩ := HR.out.at_ hlt
      have hpk : xs[k]? = some xs[k] := List.getElem?_eq_getElem hlt
      rw [List.getElem?_map, hpk] at hu
      obtain rfl := Option.some.inj hu
      have hm := List.mem_of_getElem? hpk
      have ht : xs.take (k + 1) = xs.take k ++ [xs[k]] := by rw [List.take_add_one, hpk]; rfl
      generalize xs[k] = x at hc hm ht hu hpk
      have HM := Lib.hid hm
      have HTk := Lib.hid ht
      clear hm ht hu hpk
      by_cases hx : s = x
      · have ff : (s == x) = true := beq_iff_eq.2 hx
        have HX := Lib.hid hx
        clear hx
        go_wp2_with fail
        go_ret
        exact ⟨(k : Int), rfl, ⟨fun _ => by rw [HX.out]; exact HM.out, fun _ => hk0⟩, by first | rfl | trivial⟩
      · have ff : (s == x) = false := beq_false_of_ne hx
        have HX := Lib.hid (show s ∉ xs.take (k + 1) by
          rw [HTk.out]
          intro h
          rcases List.mem_append.1 h with h | h
          · exact HN.out h
          · exact hx (List.mem_singleton.1 h))
        clear hx
        go_wp2_with fail
        go_roundw
        case rel => exact ⟨k + 1, by omega, by go_num, by first | rfl | trivial, HX.out⟩
        case measure => simp [intOf]; omega
    · obtain rfl : k = xs.length := by omega
      have hlk : ¬ ((xs.length : Int) < (xs.length : Int)) := by omega
      rw [List.take_length] at HN
      go_wp2_with fail
      go_ret
      exact ⟨-1, rfl, ⟨fun h => absurd h (by decide), fun h => (HN.out h).elim⟩, by first | rfl | trivial⟩
set_option maxRecDepth 100000 in
set_option maxHeartbeats 4000000 in
theorem c86 (xs : List (List UInt8)) (s : List UInt8) (A : Option Addr) (c : Nat) (w : World) (hr : Reads w w.heap.size 1 A xs.length (xs.map strV)) (hl : xs.length ≤ 3000) : Calls Tryd.prog 86 #[.slice A xs.length c, strV s] w fun e w' => e = .returned (.bool (decide (s ∈ xs))) ∧ w = w' := by
  have HC := Lib.hid (c90 xs s A c w hr hl)
  clear hr
  show Calls Tryd.prog 86 #[.slice A xs.length c, .string ⟨s.toArray⟩] w _
  go_enter Tryd.func86, Tryd.ntmps86
  go_wp2_with fail
  refine HC.out.mono ?_
  rintro e _ ⟨r, rfl, hi, rfl⟩
  by_cases h : s ∈ xs
  · have h0 : 0 ≤ r := hi.2 h
    have H := Lib.hid (decide_eq_true h)
    clear hi h HC
    go_wp2_with fail
    go_ret
    exact ⟨by rw [H.out]; rfl, by first | rfl | trivial⟩
  · have h0 : ¬ (0 ≤ r) := fun h1 => h (hi.1 h1)
    have H := Lib.hid (decide_eq_false h)
    clear hi h HC
    go_wp2_with fail
    go_ret
    exact ⟨by rw [H.out]; first | rfl | (show Ending.returned (.bool (decide (0 ≤ r))) = _; rw [decide_eq_false (by omega : ¬ (0 ≤ r))]), by first | rfl | trivial⟩
end Go.Proofs.YtphojigdapaaiaaDoor
