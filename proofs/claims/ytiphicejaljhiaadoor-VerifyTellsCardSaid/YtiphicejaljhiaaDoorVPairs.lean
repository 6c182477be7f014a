/- keep.Pairs: are two lists of states alike. -/
import Derived.Test.YtiphicejaljhiaaDoorVSts
namespace Go.Proofs.YtiphicejaljhiaaDoor
open Go.ChangeShapes Go.WideShapes Go.ChangeAt Go.RowKit
theorem Reads.staN {w : World} {B n : Nat} {A : Option Addr} {l : List Sta} (h : Reads w B 2 A n (l.flatMap stCells)) {k : Nat} {s : Sta} (hk : l[k]? = some s) :
    ∃ ad, A = some ad ∧ w.cell? (ad.add (k * 2)) = some (.int .i64 s.1) ∧ w.cell? ⟨(ad.add (k * 2)).block, (ad.add (k * 2)).off + 1, none⟩ = some (.int .i64 s.2) := by
  obtain ⟨ad, e, _, hc⟩ := Reads.rowAt (f := stCells) (m := 2) (fun _ => rfl) h (by decide) hk
  exact ⟨ad, e, hc 0 _ rfl, hc 1 _ rfl⟩
set_option maxRecDepth 100000 in
set_option maxHeartbeats 2000000 in
theorem c42 (l l' : List Sta) (A A' : Option Addr) (c c' B B' : Nat) (w : World) (hr : Reads w B 2 A l.length (l.flatMap stCells)) (hr' : Reads w B' 2 A' l'.length (l'.flatMap stCells)) (hm : l.length ≤ maxLen) :
    Calls Tryd.prog 42 #[.slice A l.length c, .slice A' l'.length c'] w fun e w' => e = .returned (.bool (decide (l = l'))) ∧ Below w.heap.size w w' := by
  unfold maxLen at hm
  by_cases hn : l.length = l'.length
  · have fn : ((l.length : Int) != (l'.length : Int)) = false := bne_eq_false_iff_eq.2 (by omega)
    have HN := Lib.hid hn
    clear hn
    go_enter Tryd.func42, Tryd.ntmps42
    go_wp2_with fail
    go_loopw [5] (fun i wr => ∃ k m : Nat, k ≤ l.length ∧ i = .int .i64 k ∧ l.take k = l'.take k ∧ wr = w.drewN m) (fun i _ => l.length - (intOf i).toNat)
    case atStart => exact ⟨0, 0, by omega, rfl, rfl, rfl⟩
    case round =>
      obtain ⟨k, m, hk, rfl, hg, rfl⟩ := hrel
      have HG := Lib.hid hg
      clear hg
      by_cases hlt : k < l.length
      · have hl : (k : Int) < (l.length : Int) := by omega
        have hlt' : k < l'.length := by have := HN.out; omega
        have hl' : (k : Int) < (l'.length : Int) := by omega
        have hk0 : (0 : Int) ≤ (k : Int) := by omega
        obtain ⟨ad, rfl, a0, a1⟩ := hr.staN (List.getElem?_eq_getElem hlt)
        obtain ⟨ad', rfl, b0, b1⟩ := hr'.staN (List.getElem?_eq_getElem hlt')
        have ht : l[k] = l'[k] → l.take (k + 1) = l'.take (k + 1) := fun e => by
          rw [List.take_add_one, List.take_add_one, List.getElem?_eq_getElem hlt, List.getElem?_eq_getElem hlt', HG.out, e]
        have hne : l[k] ≠ l'[k] → l ≠ l' := fun h e => h (by subst e; rfl)
        generalize l[k] = x at a0 a1 ht hne
        generalize l'[k] = y at b0 b1 ht hne
        have HT := Lib.hid ht
        have HNE := Lib.hid hne
        clear ht hne
        obtain ⟨xo, xa⟩ := x
        obtain ⟨yo, ya⟩ := y
        simp only at a0 a1 b0 b1
        have en := fun w => run_ne2 w 79 Tryd.underlying79 xo xa yo ya
        by_cases hxy : xo = yo ∧ xa = ya
        · have fe : (xo == yo && xa == ya) = true := by simp [hxy.1, hxy.2]
          have HE := Lib.hid (HT.out (by rw [hxy.1, hxy.2]))
          clear hxy
          simp only [fe] at en
          go_wp2_with fail
          go_quiet (fail)
          go_wp2_with fail
          go_roundw
          case rel => exact ⟨k + 1, m + _, by omega, by go_num, HE.out, by rw [← World.drewN_drewN]⟩
          case measure => simp [intOf]; omega
        · have fe : (xo == yo && xa == ya) = false := by
            rw [Bool.eq_false_iff]
            intro h
            simp at h
            exact hxy h
          have HE := Lib.hid (HNE.out (by intro e; injection e with e1 e2; exact hxy ⟨e1, e2⟩))
          clear hxy
          simp only [fe] at en
          go_wp2_with fail
          go_quiet (fail)
          go_wp2_with fail
          go_ret
          refine ⟨?_, below_drewN (below_drewN (Below.refl _ _) _) _⟩
          rw [decide_eq_false HE.out]
          rfl
      · have hl : ¬ (k : Int) < (l.length : Int) := by omega
        have HE := Lib.hid (show l = l' by
          have h := HG.out
          rw [List.take_of_length_le (by omega), List.take_of_length_le (by have := HN.out; omega)] at h
          exact h)
        clear HG
        go_wp2_with fail
        go_ret
        refine ⟨?_, below_drewN (Below.refl _ _) _⟩
        rw [decide_eq_true HE.out]
        rfl
  · have fn : ((l.length : Int) != (l'.length : Int)) = true := bne_iff_ne.2 (by omega)
    have HN := Lib.hid (show l ≠ l' from fun e => hn (by rw [e]))
    clear hn
    go_enter Tryd.func42, Tryd.ntmps42
    go_wp2_with fail
    go_ret
    refine ⟨?_, Below.refl _ _⟩
    rw [decide_eq_false HN.out]
    rfl
end Go.Proofs.YtiphicejaljhiaaDoor
