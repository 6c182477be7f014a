/- Walks of package op: Of. -/
import Derived.Test.YtiphicejaljhiaaDoorOpEff
namespace Go.Proofs.YtiphicejaljhiaaDoor
open Go.ChangeShapes Go.WideShapes Go.ChangeAt Go.RowKit
theorem drop7 (l : List OpRow) : ∀ k, k < l.length → (l.flatMap rowCells).drop (k * 7) = rowCells (l.getD k ⟨[], 0, 0, 0, 0, 0, 0⟩) ++ (l.drop (k + 1)).flatMap rowCells := by
  induction l with
  | nil => intro k hk; simp at hk
  | cons r l ih =>
    intro k hk
    cases k with
    | zero => simp
    | succ k =>
      rw [List.flatMap_cons, show (k + 1) * 7 = (rowCells r).length + k * 7 from by simp [rowCells]; omega, ← List.drop_drop, List.drop_left, ih k (by simpa using hk)]
      simp
theorem index86 (k : Nat) (hk : k < 38) (w : World) : (Instr.index 86 (.agg opCells.toArray) (.int .i64 (k : Int))).run Tryd.prog w = .ok (.agg (rowCells (opRow k)).toArray) w := by
  have hu : Tryd.prog.underlying 86 = some (.array 38 85) := Tryd.underlying86
  obtain ⟨i, hi, hs⟩ : ∃ i, Tryd.prog.info? 85 = some i ∧ i.size = 7 := Option.map_eq_some_iff.1 (show (Tryd.prog.info? 85).map (·.size) = some 7 by kernel_rfl)
  have e : opCells.toArray.extract (k * 7) (k * 7 + 7) = (rowCells (opRow k)).toArray := by
    rw [← Array.toList_inj]
    simp only [Array.toList_extract, List.extract_eq_take_drop, List.toList_toArray]
    unfold opCells
    rw [drop7 opTab k hk, show k * 7 + 7 - k * 7 = (rowCells (opRow k)).length from by simp [rowCells]]
    exact List.take_left
  have hlt : (k : Int) < 38 := by omega
  have hk0 : 0 ≤ (k : Int) := by omega
  have ht : ((k : Int)).toNat = k := by omega
  unfold Instr.index
  simp only [asIntOf, Sem.run_bind, Sem.run_pure, Result.andThen_ok, run_underlying hu, if_pos (show 0 ≤ (k : Int) ∧ (k : Int) < ((38 : Nat) : Int) from ⟨hk0, hlt⟩), sizeOf, typeInfo, run_program, hi, hs, part, isAgg, run_underlying Tryd.underlying85, ht, e, if_true]
def NoneTo (s : List UInt8) (k : Nat) : Prop := ∀ j, j < k → (opRow j).nm ≠ s
theorem noneTo_succ {s : List UInt8} {k : Nat} (h : NoneTo s k) (h2 : ((opRow k).nm == s) = false) : NoneTo s (k + 1) := by
  intro j hj
  rcases Nat.lt_succ_iff_lt_or_eq.1 hj with h3 | rfl
  · exact h j h3
  · simpa using h2
theorem opRow_at {j : Nat} (h : j < opTab.length) : opTab[j] = opRow j := by
  unfold opRow
  rw [List.getD_eq_getElem?_getD, List.getElem?_eq_getElem h]
  rfl
theorem gOf_yes {s : List UInt8} {k : Nat} (hk : k < 38) (h : NoneTo s k) (h2 : ((opRow k).nm == s) = true) : gOf s = some k := by
  unfold gOf
  rw [List.findIdx?_eq_some_iff_getElem]
  refine ⟨(show k < opTab.length from hk), ?_, fun j hj => ?_⟩
  · rw [opRow_at]
    exact h2
  · rw [opRow_at]
    simpa using h j hj
theorem gOf_no {s : List UInt8} (h : NoneTo s 38) : gOf s = none := by
  unfold gOf
  rw [List.findIdx?_eq_none_iff]
  intro r hr
  obtain ⟨j, hj, rfl⟩ := List.mem_iff_getElem.1 hr
  rw [opRow_at]
  simpa using h j hj
set_option maxHeartbeats 1000000 in
theorem c19 (s : ByteArray) (w : World) (ht : OpTab w) : Calls Tryd.prog 19 #[.string s] w fun e w' =>
    e = .returned (.tuple #[.int .i64 (((gOf s.toList).getD 0 : Nat) : Int), .bool (gOf s.toList).isSome]) ∧ Below w.heap.size w w' := by
  obtain ⟨hz, tt, hg⟩ := ht
  go_enter Tryd.func19, Tryd.ntmps19
  go_wp2_with (refine wpList_load_row rfl 86 _ rfl 0 rfl tt _ (0, 0) _ hg Tryd.underlying86 rfl (by kernel_rfl) ?_)
  go_loopw [7] (fun i wr => ∃ k : Nat, k ≤ 38 ∧ i = .int .i64 k ∧ NoneTo s.toList k ∧ Below w.heap.size w wr) (fun i _ => 38 - (intOf i).toNat)
  case atStart => exact ⟨0, by omega, rfl, fun j hj => by omega, Below.refl _ _⟩
  case round =>
    obtain ⟨k, hk, rfl, hn, hb⟩ := hrel
    by_cases hlt : k < 38
    · have hi := index86 k hlt
      unfold rowCells at hi
      have hl : (k : Int) < 38 := by omega
      have HN := Lib.hid hn
      clear hn
      go_wp2_with fail
      · go_ret2
        have h2 : ((opRow k).nm == s.toList) = true := by assumption
        rw [gOf_yes hlt HN.out h2]
        exact ⟨rfl, hb.alloc hb.size _⟩
      · have h2 : ((opRow k).nm == s.toList) = false := by assumption
        go_roundw
        case rel => exact ⟨k + 1, by omega, by go_num, noneTo_succ HN.out h2, hb.alloc hb.size _⟩
        case measure => simp [intOf]; omega
    · have hl : ¬ (k : Int) < 38 := by omega
      obtain rfl : k = 38 := by omega
      have HN := Lib.hid hn
      clear hn
      go_wp2_with fail
      go_ret2
      rw [gOf_no HN.out]
      exact ⟨rfl, hb⟩
end Go.Proofs.YtiphicejaljhiaaDoor
