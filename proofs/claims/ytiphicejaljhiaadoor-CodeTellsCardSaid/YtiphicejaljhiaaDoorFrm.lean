/- code.form: whether a form may be. -/
import Derived.Test.YtiphicejaljhiaaDoorPlain
import Derived.Deep.QuietTactic
import Derived.BigQuiet
namespace Go.Proofs.YtiphicejaljhiaaDoor
open Go.ChangeShapes Go.WideShapes Go.ChangeAt Go.RowKit
theorem Reads.at_ {w : World} {B n : Nat} {A : Option Addr} {xs : List Value} {k : Nat} (h : Reads w B 1 A n xs) (hk : k < n) : ∃ ad u, A = some ad ∧ ad.block < B ∧ xs[k]? = some u ∧ w.cell? (ad.add k) = some u := by
  obtain ⟨ad, e, hb, hc⟩ := h.2 (by omega)
  have hl : k < xs.length := by have := h.1; omega
  exact ⟨ad, xs[k], e, hb, List.getElem?_eq_getElem hl, hc k _ (List.getElem?_eq_getElem hl)⟩
theorem all_take1 {α : Type} {l : List α} {p : α → Bool} {k : Nat} (h : k < l.length) (h1 : (l.take k).all p = true) (h2 : p l[k] = true) : (l.take (k + 1)).all p = true := by
  rw [List.take_add_one, List.all_append, h1, List.getElem?_eq_getElem h]
  simp [h2]
theorem all_not1 {α : Type} {l : List α} {p : α → Bool} {k : Nat} (h : k < l.length) (h2 : p l[k] = false) : l.all p = false := by
  rw [List.all_eq_false]
  exact ⟨_, List.getElem_mem h, by simp [h2]⟩
set_option maxHeartbeats 2000000 in
theorem c64 (f : Fm) (m : Int) (A : Option Addr) (n c : Nat) (w : World) (hr : Reads w w.heap.size 1 A n (f.cons.map (Value.int .i64))) (hn : n = f.cons.length) (hm : n ≤ maxLen) (hm0 : 0 ≤ m) (hm1 : m ≤ maxLen) :
    Calls Tryd.prog 64 #[.agg #[.int .i64 f.kind, .int .i64 f.a, .int .i64 f.b, .slice A n c], .int .i64 m] w fun e w' => e = .returned (.bool (gFm f m)) ∧ Below w.heap.size w w' := by
  obtain ⟨kind, fa, fb, cons⟩ := f
  simp only at hr hn ⊢
  unfold maxLen at hm hm1
  have HN := Lib.hid hn
  clear hn
  have P1 := Blk.new w 63 #[.int .i64 kind, .int .i64 fa, .int .i64 fb, .slice A n c]
  have R1 := hr.alloc (Nat.le_refl _) (.cells #[.int .i64 kind, .int .i64 fa, .int .i64 fb, .slice A n c] 63)
  have B1 := Lib.hid (below_new w (.cells #[.int .i64 kind, .int .i64 fa, .int .i64 fb, .slice A n c] 63))
  have W1 : IntKind.i64.wrap (m - 1) = m - 1 := IntWalk.i64_in _ (by omega)
  have hk : kind = 5 ∨ kind = 6 ∨ kind = 7 ∨ (kind ≠ 5 ∧ kind ≠ 6 ∧ kind ≠ 7) := by omega
  rcases hk with rfl | rfl | rfl | ⟨h5, h6, h7⟩
  · go_enter Tryd.func64, Tryd.ntmps64
    go_wp2_with fail
    go_loopw [28] (fun i wr => ∃ k : Nat, k ≤ n ∧ i = .int .i64 k ∧ (cons.take k).all (fun c => gBetw c (-1) (m - 1)) = true ∧ wr = w.alloc (.cells #[.int .i64 5, .int .i64 fa, .int .i64 fb, .slice A n c] 63)) (fun i _ => n - (intOf i).toNat)
    case atStart => exact ⟨0, by omega, rfl, rfl, rfl⟩
    case round =>
      obtain ⟨k, hk, rfl, hg, rfl⟩ := hrel
      have HG := Lib.hid hg
      clear hg
      by_cases hlt : k < n
      · have hl : (k : Int) < (n : Int) := by omega
        have hkl : k < cons.length := by have := HN.out; omega
        obtain ⟨ad, u, rfl, hbl, hu, hcs⟩ := R1.at_ hlt
        obtain rfl : Value.int .i64 cons[k] = u := by
          rw [List.getElem?_map, List.getElem?_eq_getElem hkl] at hu
          exact Option.some.inj hu
        clear hu
        generalize hin : cons[k] = x at hcs
        have HIN := Lib.hid hin
        clear hin
        go_wp2_with fail
        refine (c62 _ _ _ _).mono ?_
        rintro e w1 ⟨rfl, rfl⟩
        generalize hg1 : gBetw x (-1) (m - 1) = g1
        have G1 := Lib.hid hg1
        clear hg1
        cases g1
        · go_wp2_with fail
          go_ret
          refine ⟨?_, B1.out⟩
          have e0 : cons.all (fun c => gBetw c (-1) (m - 1)) = false := all_not1 hkl (by rw [HIN.out]; exact G1.out)
          simp [gFm, e0]
        go_wp2_with fail
        go_roundw
        case rel => exact ⟨k + 1, by omega, by go_num, all_take1 hkl HG.out (by rw [HIN.out]; exact G1.out), trivial⟩
        case measure => simp [intOf]; omega
      · have hl : ¬ (k : Int) < (n : Int) := by omega
        have hg : cons.all (fun c => gBetw c (-1) (m - 1)) = true := by
          have h1 := HG.out
          rw [List.take_of_length_le (by have := HN.out; omega)] at h1
          exact h1
        have HA := Lib.hid hg
        clear hg
        go_wp2_with fail
        refine (c62 _ _ _ _).mono ?_
        rintro e w1 ⟨rfl, rfl⟩
        generalize hg1 : gBetw _ 1 7 = g1
        have G1 := Lib.hid hg1
        clear hg1
        cases g1
        · go_wp2_with fail
          go_ret
          exact ⟨by simp [gFm, G1.out], B1.out⟩
        go_wp2_with fail
        refine (c62 _ _ _ _).mono ?_
        rintro e w1 ⟨rfl, rfl⟩
        generalize hg2 : gBetw fa 0 _ = g2
        have G2 := Lib.hid hg2
        clear hg2
        cases g2
        · go_wp2_with fail
          go_ret
          exact ⟨by simp [gFm, *, G2.out], B1.out⟩
        go_wp2_with fail
        refine (c62 _ _ _ _).mono ?_
        rintro e w1 ⟨rfl, rfl⟩
        generalize hg3 : gBetw fb 0 _ = g3
        have G3 := Lib.hid hg3
        clear hg3
        cases g3
        · go_wp2_with fail
          go_ret
          exact ⟨by simp [gFm, *, G3.out], B1.out⟩
        go_wp2_with fail
        refine (c62 _ _ _ _).mono ?_
        rintro e w1 ⟨rfl, rfl⟩
        go_wp2_with fail
        go_ret
        exact ⟨by simp [gFm, *, G1.out, G2.out, G3.out, HA.out, HN.out], B1.out⟩
  · go_enter Tryd.func64, Tryd.ntmps64
    go_wp2_with fail
    go_loopw [28] (fun i wr => ∃ k : Nat, k ≤ n ∧ i = .int .i64 k ∧ (cons.take k).all (fun c => gBetw c (-1) (m - 1)) = true ∧ wr = w.alloc (.cells #[.int .i64 6, .int .i64 fa, .int .i64 fb, .slice A n c] 63)) (fun i _ => n - (intOf i).toNat)
    case atStart => exact ⟨0, by omega, rfl, rfl, rfl⟩
    case round =>
      obtain ⟨k, hk, rfl, hg, rfl⟩ := hrel
      have HG := Lib.hid hg
      clear hg
      by_cases hlt : k < n
      · have hl : (k : Int) < (n : Int) := by omega
        have hkl : k < cons.length := by have := HN.out; omega
        obtain ⟨ad, u, rfl, hbl, hu, hcs⟩ := R1.at_ hlt
        obtain rfl : Value.int .i64 cons[k] = u := by
          rw [List.getElem?_map, List.getElem?_eq_getElem hkl] at hu
          exact Option.some.inj hu
        clear hu
        generalize hin : cons[k] = x at hcs
        have HIN := Lib.hid hin
        clear hin
        go_wp2_with fail
        refine (c62 _ _ _ _).mono ?_
        rintro e w1 ⟨rfl, rfl⟩
        generalize hg1 : gBetw x (-1) (m - 1) = g1
        have G1 := Lib.hid hg1
        clear hg1
        cases g1
        · go_wp2_with fail
          go_ret
          refine ⟨?_, B1.out⟩
          have e0 : cons.all (fun c => gBetw c (-1) (m - 1)) = false := all_not1 hkl (by rw [HIN.out]; exact G1.out)
          simp [gFm, e0]
        go_wp2_with fail
        go_roundw
        case rel => exact ⟨k + 1, by omega, by go_num, all_take1 hkl HG.out (by rw [HIN.out]; exact G1.out), trivial⟩
        case measure => simp [intOf]; omega
      · have hl : ¬ (k : Int) < (n : Int) := by omega
        have hg : cons.all (fun c => gBetw c (-1) (m - 1)) = true := by
          have h1 := HG.out
          rw [List.take_of_length_le (by have := HN.out; omega)] at h1
          exact h1
        have HA := Lib.hid hg
        clear hg
        go_wp2_with fail
        refine (c62 _ _ _ _).mono ?_
        rintro e w1 ⟨rfl, rfl⟩
        generalize hg1 : gBetw _ 1 7 = g1
        have G1 := Lib.hid hg1
        clear hg1
        cases g1
        · go_wp2_with fail
          go_ret
          exact ⟨by simp [gFm, G1.out], B1.out⟩
        go_wp2_with fail
        refine (c62 _ _ _ _).mono ?_
        rintro e w1 ⟨rfl, rfl⟩
        generalize hg2 : gBetw fa 0 _ = g2
        have G2 := Lib.hid hg2
        clear hg2
        cases g2
        · go_wp2_with fail
          go_ret
          exact ⟨by simp [gFm, *, G2.out], B1.out⟩
        go_wp2_with fail
        refine (c62 _ _ _ _).mono ?_
        rintro e w1 ⟨rfl, rfl⟩
        generalize hg3 : gBetw fb 0 _ = g3
        have G3 := Lib.hid hg3
        clear hg3
        cases g3
        · go_wp2_with fail
          go_ret
          exact ⟨by simp [gFm, *, G3.out], B1.out⟩
        go_wp2_with fail
        refine (c62 _ _ _ _).mono ?_
        rintro e w1 ⟨rfl, rfl⟩
        go_wp2_with fail
        go_ret
        exact ⟨by simp [gFm, *, G1.out, G2.out, G3.out, HA.out, HN.out], B1.out⟩
  · go_enter Tryd.func64, Tryd.ntmps64
    go_wp2_with fail
    go_loopw [28] (fun i wr => ∃ k : Nat, k ≤ n ∧ i = .int .i64 k ∧ (cons.take k).all (fun c => gBetw c (-1) (m - 1)) = true ∧ wr = w.alloc (.cells #[.int .i64 7, .int .i64 fa, .int .i64 fb, .slice A n c] 63)) (fun i _ => n - (intOf i).toNat)
    case atStart => exact ⟨0, by omega, rfl, rfl, rfl⟩
    case round =>
      obtain ⟨k, hk, rfl, hg, rfl⟩ := hrel
      have HG := Lib.hid hg
      clear hg
      by_cases hlt : k < n
      · have hl : (k : Int) < (n : Int) := by omega
        have hkl : k < cons.length := by have := HN.out; omega
        obtain ⟨ad, u, rfl, hbl, hu, hcs⟩ := R1.at_ hlt
        obtain rfl : Value.int .i64 cons[k] = u := by
          rw [List.getElem?_map, List.getElem?_eq_getElem hkl] at hu
          exact Option.some.inj hu
        clear hu
        generalize hin : cons[k] = x at hcs
        have HIN := Lib.hid hin
        clear hin
        go_wp2_with fail
        refine (c62 _ _ _ _).mono ?_
        rintro e w1 ⟨rfl, rfl⟩
        generalize hg1 : gBetw x (-1) (m - 1) = g1
        have G1 := Lib.hid hg1
        clear hg1
        cases g1
        · go_wp2_with fail
          go_ret
          refine ⟨?_, B1.out⟩
          have e0 : cons.all (fun c => gBetw c (-1) (m - 1)) = false := all_not1 hkl (by rw [HIN.out]; exact G1.out)
          simp [gFm, e0]
        go_wp2_with fail
        go_roundw
        case rel => exact ⟨k + 1, by omega, by go_num, all_take1 hkl HG.out (by rw [HIN.out]; exact G1.out), trivial⟩
        case measure => simp [intOf]; omega
      · have hl : ¬ (k : Int) < (n : Int) := by omega
        have hg : cons.all (fun c => gBetw c (-1) (m - 1)) = true := by
          have h1 := HG.out
          rw [List.take_of_length_le (by have := HN.out; omega)] at h1
          exact h1
        have HA := Lib.hid hg
        clear hg
        go_wp2_with fail
        refine (c62 _ _ _ _).mono ?_
        rintro e w1 ⟨rfl, rfl⟩
        generalize hg1 : gBetw _ 1 7 = g1
        have G1 := Lib.hid hg1
        clear hg1
        cases g1
        · go_wp2_with fail
          go_ret
          exact ⟨by simp [gFm, G1.out], B1.out⟩
        go_wp2_with fail
        refine (c62 _ _ _ _).mono ?_
        rintro e w1 ⟨rfl, rfl⟩
        generalize hg2 : gBetw fa 0 _ = g2
        have G2 := Lib.hid hg2
        clear hg2
        cases g2
        · go_wp2_with fail
          go_ret
          exact ⟨by simp [gFm, *, G2.out], B1.out⟩
        go_wp2_with fail
        refine (c62 _ _ _ _).mono ?_
        rintro e w1 ⟨rfl, rfl⟩
        generalize hg3 : gBetw fb 0 _ = g3
        have G3 := Lib.hid hg3
        clear hg3
        cases g3
        · go_wp2_with fail
          go_ret
          exact ⟨by simp [gFm, *, G3.out], B1.out⟩
        go_wp2_with fail
        refine (c62 _ _ _ _).mono ?_
        rintro e w1 ⟨rfl, rfl⟩
        go_wp2_with fail
        go_ret
        exact ⟨by simp [gFm, *, G1.out, G2.out, G3.out, HA.out, HN.out], B1.out⟩
  · have e5 : (kind == 5) = false := by simpa using h5
    have e6 : (kind == 6) = false := by simpa using h6
    have e7 : (kind == 7) = false := by simpa using h7
    go_enter Tryd.func64, Tryd.ntmps64
    go_wp2_with fail
    go_loopw [28] (fun i wr => ∃ k : Nat, k ≤ n ∧ i = .int .i64 k ∧ (cons.take k).all (fun c => gBetw c (-1) (m - 1)) = true ∧ wr = w.alloc (.cells #[.int .i64 kind, .int .i64 fa, .int .i64 fb, .slice A n c] 63)) (fun i _ => n - (intOf i).toNat)
    case atStart => exact ⟨0, by omega, rfl, rfl, rfl⟩
    case round =>
      obtain ⟨k, hk, rfl, hg, rfl⟩ := hrel
      have HG := Lib.hid hg
      clear hg
      by_cases hlt : k < n
      · have hl : (k : Int) < (n : Int) := by omega
        have hkl : k < cons.length := by have := HN.out; omega
        obtain ⟨ad, u, rfl, hbl, hu, hcs⟩ := R1.at_ hlt
        obtain rfl : Value.int .i64 cons[k] = u := by
          rw [List.getElem?_map, List.getElem?_eq_getElem hkl] at hu
          exact Option.some.inj hu
        clear hu
        generalize hin : cons[k] = x at hcs
        have HIN := Lib.hid hin
        clear hin
        go_wp2_with fail
        refine (c62 _ _ _ _).mono ?_
        rintro e w1 ⟨rfl, rfl⟩
        generalize hg1 : gBetw x (-1) (m - 1) = g1
        have G1 := Lib.hid hg1
        clear hg1
        cases g1
        · go_wp2_with fail
          go_ret
          refine ⟨?_, B1.out⟩
          have e0 : cons.all (fun c => gBetw c (-1) (m - 1)) = false := all_not1 hkl (by rw [HIN.out]; exact G1.out)
          simp [gFm, e0]
        go_wp2_with fail
        go_roundw
        case rel => exact ⟨k + 1, by omega, by go_num, all_take1 hkl HG.out (by rw [HIN.out]; exact G1.out), trivial⟩
        case measure => simp [intOf]; omega
      · have hl : ¬ (k : Int) < (n : Int) := by omega
        have hg : cons.all (fun c => gBetw c (-1) (m - 1)) = true := by
          have h1 := HG.out
          rw [List.take_of_length_le (by have := HN.out; omega)] at h1
          exact h1
        have HA := Lib.hid hg
        clear hg
        go_wp2_with fail
        refine (c62 _ _ _ _).mono ?_
        rintro e w1 ⟨rfl, rfl⟩
        generalize hg1 : gBetw _ 1 7 = g1
        have G1 := Lib.hid hg1
        clear hg1
        cases g1
        · go_wp2_with fail
          go_ret
          exact ⟨by simp [gFm, G1.out], B1.out⟩
        go_wp2_with fail
        refine (c62 _ _ _ _).mono ?_
        rintro e w1 ⟨rfl, rfl⟩
        generalize hg2 : gBetw fa 0 _ = g2
        have G2 := Lib.hid hg2
        clear hg2
        cases g2
        · go_wp2_with fail
          go_ret
          exact ⟨by simp [gFm, *, G2.out], B1.out⟩
        go_wp2_with fail
        refine (c62 _ _ _ _).mono ?_
        rintro e w1 ⟨rfl, rfl⟩
        generalize hg3 : gBetw fb 0 _ = g3
        have G3 := Lib.hid hg3
        clear hg3
        cases g3
        · go_wp2_with fail
          go_ret
          exact ⟨by simp [gFm, *, G3.out], B1.out⟩
        go_wp2_with fail
        refine (c62 _ _ _ _).mono ?_
        rintro e w1 ⟨rfl, rfl⟩
        go_wp2_with fail
        go_ret
        exact ⟨by simp [gFm, *, G1.out, G2.out, G3.out, HA.out, HN.out], B1.out⟩
end Go.Proofs.YtiphicejaljhiaaDoor
