/- Walks of package op: Name, Good. -/
import Derived.Test.YtiphicejaljhiaaDoorOp
import Derived.Deep.QuietTactic
import Derived.BigQuiet
namespace Go.Proofs.YtiphicejaljhiaaDoor
open Go.ChangeShapes Go.WideShapes Go.ChangeAt Go.RowKit
theorem of_nat (o : Int) (h : ¬ (o < 0 ∨ 38 ≤ o)) : ∃ k : Nat, k < 38 ∧ o = (k : Int) := ⟨o.toNat, by omega, by omega⟩
theorem gName_no {o : Int} (h : o < 0 ∨ 38 ≤ o) : gName o = [] := if_pos h
theorem gName_yes {k : Nat} (h : k < 38) : gName (k : Int) = (opRow k).nm := by unfold gName; rw [if_neg (by omega)]; rfl
theorem c20 (o : Int) (w : World) (ht : OpTab w) : Calls Tryd.prog 20 #[.int .i64 o] w fun e w' => e = .returned (strV (gName o)) ∧ w = w' := by
  by_cases h : o < 0 ∨ 38 ≤ o
  · rw [gName_no h]
    by_cases h1 : o < 0
    · go_enter Tryd.func20, Tryd.ntmps20
      go_wp2
      go_ret
      exact ⟨rfl, rfl⟩
    · have h2 : 38 ≤ o := by omega
      go_enter Tryd.func20, Tryd.ntmps20
      go_wp2
      go_ret
      exact ⟨rfl, rfl⟩
  · obtain ⟨k, hk, rfl⟩ := of_nat o h
    rw [gName_yes hk]
    have h0 := (ht.row k hk).1
    clear h ht
    go_enter Tryd.func20, Tryd.ntmps20
    go_wp2
    go_ret
    exact ⟨rfl, rfl⟩
theorem gGood_no {o a b : Int} (h : o < 0 ∨ 38 ≤ o) : gGood o a b = false := if_pos h
theorem alloc0 (W : World) (o : Obj) (off : Nat) (h : 0 < W.heap.size) : (W.alloc o).cell? ⟨0, off, none⟩ = W.cell? ⟨0, off, none⟩ := World.cell?_alloc_lt W o ⟨0, off, none⟩ h
set_option maxHeartbeats 1000000 in
theorem c21 (o a b : Int) (w : World) (ht : OpTab w) : Calls Tryd.prog 21 #[.agg #[.int .i64 o, .int .i64 a, .int .i64 b]] w fun e w' => e = .returned (.bool (gGood o a b)) ∧ Below w.heap.size w w' := by
  by_cases h : o < 0 ∨ 38 ≤ o
  · rw [gGood_no h]
    by_cases h1 : o < 0
    · go_enter Tryd.func21, Tryd.ntmps21
      go_wp2
      go_ret
      exact ⟨rfl, (Below.refl _ _).alloc (Nat.le_refl _) _⟩
    · have h2 : 38 ≤ o := by omega
      go_enter Tryd.func21, Tryd.ntmps21
      go_wp2
      go_ret
      exact ⟨rfl, (Below.refl _ _).alloc (Nat.le_refl _) _⟩
  · obtain ⟨k, hk, rfl⟩ := of_nat o h
    have hz := ht.1
    obtain ⟨h0, h1, h2, h3, h4, h5, h6⟩ := ht.row k hk
    clear h ht
    have hA := alloc0
    by_cases h36 : k = 36
    · subst h36
      by_cases ha : a = 3
      · subst ha
        go_enter Tryd.func21, Tryd.ntmps21
        go_wp2
        all_goals go_ret
        all_goals refine ⟨ret_bool ?_, ?_⟩
        all_goals first | ((repeat (first | exact Below.refl _ _ | refine Below.alloc ?_ (by simp <;> omega) _)); done) | (rw [Bool.eq_iff_iff]; unfold gGood; simp only [show ((36 : Nat) : Int).toNat = 36 from rfl]; (repeat' split) <;> simp <;> omega)
      · have ha' : (a != 3) = true := by simpa using ha
        by_cases hb : b = 0
        · subst hb
          go_enter Tryd.func21, Tryd.ntmps21
          go_wp2
          all_goals go_ret
          all_goals refine ⟨ret_bool ?_, ?_⟩
          all_goals first | ((repeat (first | exact Below.refl _ _ | refine Below.alloc ?_ (by simp <;> omega) _)); done) | (rw [Bool.eq_iff_iff]; unfold gGood; simp only [show ((36 : Nat) : Int).toNat = 36 from rfl]; (repeat' split) <;> simp <;> omega)
        · have hb' : (b != 0) = true := by simpa using hb
          go_enter Tryd.func21, Tryd.ntmps21
          go_wp2
          all_goals go_ret
          all_goals refine ⟨ret_bool ?_, ?_⟩
          all_goals first | ((repeat (first | exact Below.refl _ _ | refine Below.alloc ?_ (by simp <;> omega) _)); done) | (rw [Bool.eq_iff_iff]; unfold gGood; simp only [show ((36 : Nat) : Int).toNat = 36 from rfl]; (repeat' split) <;> simp <;> omega)
    · go_enter Tryd.func21, Tryd.ntmps21
      go_wp2
      all_goals go_ret
      all_goals refine ⟨ret_bool ?_, ?_⟩
      all_goals first | ((repeat (first | exact Below.refl _ _ | refine Below.alloc ?_ (by simp <;> omega) _)); done) | (rw [Bool.eq_iff_iff]; unfold gGood; simp only [Int.toNat_natCast]; (repeat' split) <;> simp <;> omega)
end Go.Proofs.YtiphicejaljhiaaDoor
