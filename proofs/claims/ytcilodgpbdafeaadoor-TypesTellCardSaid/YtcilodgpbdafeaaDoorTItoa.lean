/- strconv.Itoa of a digit; a variable's text. -/
import Derived.Test.YtcilodgpbdafeaaDoorTKeep
import Derived.Laws.BytesArg
namespace Go.Proofs.YtcilodgpbdafeaaDoor
open Go.ChangeShapes Go.WideShapes Go.ChangeAt Go.RowKit
set_option linter.unusedVariables false
set_option linter.unusedSimpArgs false
def dig1 (i : Nat) : UInt8 := UInt8.ofNat (48 + i)
set_option maxRecDepth 100000 in
set_option maxHeartbeats 4000000 in
theorem c57 (i : Nat) (h1 : 1 ≤ i) (h2 : i ≤ 9) (w : World) : Calls Tryd.prog 57 #[.int .i64 (i : Int)] w fun e w' => e = .returned (strV [dig1 i]) ∧ w = w' := by
  have hi : i = 1 ∨ i = 2 ∨ i = 3 ∨ i = 4 ∨ i = 5 ∨ i = 6 ∨ i = 7 ∨ i = 8 ∨ i = 9 := by omega
  clear h1 h2
  rcases hi with rfl | rfl | rfl | rfl | rfl | rfl | rfl | rfl | rfl
  all_goals
    go_enter Tryd.func57, Tryd.ntmps57
    go_wp2_with fail
    go_ret
    exact ⟨rfl, rfl⟩
set_option maxRecDepth 100000 in
set_option maxHeartbeats 4000000 in
theorem c56 (i : Nat) (h1 : 1 ≤ i) (h2 : i ≤ 9) (w : World) : Calls Tryd.prog 56 #[.int .i64 (i : Int), .int .i64 10] w fun e w' => e = .returned (strV [dig1 i]) ∧ w = w' := by
  have hi0 : (0 : Int) ≤ (i : Int) := by omega
  have hi1 : (i : Int) < 100 := by omega
  go_enter Tryd.func56, Tryd.ntmps56
  go_wp2_with fail
  refine (c57 i h1 h2 w).mono ?_
  rintro e _ ⟨rfl, rfl⟩
  go_wp2_with fail
  go_ret
  exact ⟨rfl, rfl⟩
set_option maxRecDepth 100000 in
set_option maxHeartbeats 4000000 in
theorem c52 (i : Nat) (h1 : 1 ≤ i) (h2 : i ≤ 9) (w : World) : Calls Tryd.prog 52 #[.int .i64 (i : Int)] w fun e w' => e = .returned (strV [dig1 i]) ∧ w = w' := by
  go_enter Tryd.func52, Tryd.ntmps52
  go_wp2_with fail
  refine (c56 i h1 h2 w).mono ?_
  rintro e _ ⟨rfl, rfl⟩
  go_wp2_with fail
  go_ret
  exact ⟨rfl, rfl⟩
set_option maxRecDepth 100000 in
set_option maxHeartbeats 4000000 in
theorem c39 (i : Nat) (h1 : 1 ≤ i) (h2 : i ≤ 9) (w : World) : Calls Tryd.prog 39 #[.int .i64 (i : Int)] w fun e w' => e = .returned (strV [dig1 i]) ∧ w = w' := by
  go_enter Tryd.func39, Tryd.ntmps39
  go_wp2_with fail
  refine (c52 i h1 h2 w).mono ?_
  rintro e _ ⟨rfl, rfl⟩
  go_wp2_with fail
  go_ret
  exact ⟨rfl, rfl⟩
theorem digs_one (i : Nat) (h1 : 1 ≤ i) (h2 : i ≤ 9) : digs i = [dig1 i] := by
  have hi : i = 1 ∨ i = 2 ∨ i = 3 ∨ i = 4 ∨ i = 5 ∨ i = 6 ∨ i = 7 ∨ i = 8 ∨ i = 9 := by omega
  rcases hi with rfl | rfl | rfl | rfl | rfl | rfl | rfl | rfl | rfl <;> decide +kernel
theorem cat_bytes (a b : List UInt8) : ((⟨a.toArray⟩ : ByteArray) ++ ⟨b.toArray⟩) = ⟨(a ++ b).toArray⟩ := by
  apply ByteArray.ext
  simp [ByteArray.data_append]
theorem var_byte (n : Nat) : (97 + (n : Int) % 26) = ((UInt8.ofNat (97 + n % 26)).toNat : Int) := by
  have h : n % 26 < 26 := Nat.mod_lt _ (by decide)
  rw [UInt8.toNat_ofNat_of_lt' (by show 97 + n % 26 < 256; omega)]
  omega
theorem run_byte (w : World) (n : Nat) : (convert 61 9 (.slice (some ⟨w.heap.size, 0, none⟩) 1 1)).run Tryd.prog (w.alloc (.cells #[.int .u8 (97 + (n : Int) % 26)] 5)) = .ok (strV [UInt8.ofNat (97 + n % 26)]) (w.alloc (.cells #[.int .u8 (97 + (n : Int) % 26)] 5)) := by
  refine run_convert_bytes_back _ 61 9 5 ⟨w.heap.size, 0, none⟩ 1 [UInt8.ofNat (97 + n % 26)] Tryd.underlying61 Tryd.underlying5 Tryd.underlying9 (fun j hj => ?_)
  have hj0 : j = 0 := by simp at hj; omega
  subst hj0
  have h := (Blk.new w 5 #[.int .u8 (97 + (n : Int) % 26)]).cell 0
  rw [var_byte] at h ⊢
  exact h
set_option maxRecDepth 100000 in
set_option maxHeartbeats 4000000 in
theorem c29 (n : Nat) (hn : n < 200) (w : World) : Calls Tryd.prog 29 #[.int .i64 (n : Int)] w fun e w' => e = .returned (strV (vtx (n : Int))) ∧ Below w.heap.size w w' := by
  have hcv := run_byte w n
  generalize hb : UInt8.ofNat (97 + n % 26) = bb at hcv
  have HB := Lib.hid hb
  clear hb
  by_cases h26 : 26 ≤ n
  · have hg : (26 : Int) ≤ (n : Int) := by omega
    obtain ⟨q, hq⟩ : ∃ q, q = n / 26 := ⟨_, rfl⟩
    have hqn : (n : Int) / 26 = (q : Int) := by omega
    have h1 : 1 ≤ q := by omega
    have h2 : q ≤ 9 := by omega
    have HV := Lib.hid (show vtx (n : Int) = [39, bb] ++ [dig1 q] by
      unfold vtx
      rw [if_pos hg, show ((n : Int).toNat) = n by omega, ← hq, digs_one q h1 h2, HB.out])
    clear hq
    go_enter Tryd.func29, Tryd.ntmps29
    go_wp2_with fail
    refine (c39 q h1 h2 _).mono ?_
    rintro e _ ⟨rfl, rfl⟩
    go_wp2_with fail
    go_ret
    refine ⟨?_, below_new w _⟩
    rw [HV.out, show ([39, bb] : List UInt8) = [39] ++ [bb] from rfl]
    show _ = Ending.returned (.string ⟨(([39] ++ [bb]) ++ [dig1 q]).toArray⟩)
    rw [← cat_bytes, ← cat_bytes]
    rfl
  · have hg : ¬ ((26 : Int) ≤ (n : Int)) := by omega
    have HV := Lib.hid (show vtx (n : Int) = [39, bb] by
      unfold vtx
      rw [if_neg hg, show ((n : Int).toNat) = n by omega, HB.out, List.append_nil])
    go_enter Tryd.func29, Tryd.ntmps29
    go_wp2_with fail
    go_ret
    refine ⟨?_, below_new w _⟩
    rw [HV.out, show ([39, bb] : List UInt8) = [39] ++ [bb] from rfl]
    show _ = Ending.returned (.string ⟨([39] ++ [bb]).toArray⟩)
    rw [← cat_bytes]
    rfl
end Go.Proofs.YtcilodgpbdafeaaDoor
