/- The document's numbers (ref09.Parse), signs: they answer. -/
import Derived.Test.YtphojigdapaaiaaDoorARo
import Derived.Laws.ResultCell
namespace Go.Proofs.YtphojigdapaaiaaDoor
open Go.ChangeShapes Go.WideShapes Go.ChangeAt Go.RowKit
set_option linter.unusedVariables false
set_option linter.unusedSimpArgs false
def ParseEnd (w : World) (e : Ending) (w' : World) : Prop := ∃ (v : Int) (r : Bool), e = .returned (.agg #[.int .i64 v, .bool r]) ∧ Below w.heap.size w w'
theorem row2 {w : World} {b : Nat} {t : TypeId} {u0 u1 v0 v1 : Value} (h : Blk w b t #[u0, u1]) : Blk ((w.setCell ⟨b, 0, none⟩ v0).setCell ⟨b, 1, none⟩ v1) b t #[v0, v1] := by
  have h1 := (h.set_ 0 v0).set_ 1 v1
  simpa only [List.setIfInBounds_toArray, List.set_cons_zero, List.set_cons_succ] using h1
theorem low2 {w a : World} {B b : Nat} {v0 v1 : Value} (hB : B ≤ b) (h : Below B a w) : Below B a ((w.setCell ⟨b, 0, none⟩ v0).setCell ⟨b, 1, none⟩ v1) :=
  (h.setCell (p := ⟨b, 0, none⟩) hB v0).setCell (p := ⟨b, 1, none⟩) hB v1
set_option maxRecDepth 100000 in
set_option maxHeartbeats 4000000 in
theorem c61 (s : ByteArray) (hs : s.size ≤ 3000) (w : World) : Calls Tryd.prog 61 #[.string s] w (ParseEnd w) := by
  have hR := Blk.new w 112 #[.int .i64 0, .bool false]
  have hB := below_new w (.cells #[.int .i64 0, .bool false] 112)
  go_enter Tryd.func61, Tryd.ntmps61
  go_upto_region 1 with fail
  generalize w.alloc (.cells #[.int .i64 0, .bool false] 112) = w1 at hR hB ⊢
  have HR := Lib.hid hR
  have HB := Lib.hid hB
  have HLE := Lib.hid (Nat.le_refl w.heap.size)
  generalize hrb : w.heap.size = rb at HR ⊢
  have HLE := Lib.hid (show w.heap.size ≤ rb by omega)
  clear hR hB hrb
  have r0 : w1.cell? ⟨rb, 0, none⟩ = some (.int .i64 0) := HR.out.cell 0
  have r1 : w1.cell? ⟨rb, 1, none⟩ = some (.bool false) := HR.out.cell 1
  have f0 := HR.out.frozen 0
  have f1 := HR.out.frozen 1
  go_wp2_with fail
  any_goals (exact bodyPost_ret (results_cell_row rfl _ _ _ 112 _ (0, 0) _ rfl (row2 HR.out) Tryd.underlying112 rfl (by kernel_rfl)) rfl ⟨_, _, rfl, low2 HLE.out HB.out⟩)
  go_loopw [3, 4] (fun n i wr => ∃ (k : Nat) (m : Int), k ≤ s.size ∧ i = .int .i64 k ∧ n = .int .u64 m ∧ wr = w1) (fun _ i _ => s.size - (intOf i).toNat)
  case atStart => exact ⟨0, 0, by omega, rfl, rfl, rfl⟩
  case round =>
    obtain ⟨k, m, hk, rfl, rfl, rfl⟩ := hrel
    by_cases hlt : k < s.size
    · have hlk : (k : Int) < (s.size : Int) := by omega
      have hk0 : (0 : Int) ≤ (k : Int) := by omega
      go_wp2_with fail
      any_goals (exact bodyPost_ret (results_cell_row rfl _ _ _ 112 _ (0, 0) _ rfl (row2 HR.out) Tryd.underlying112 rfl (by kernel_rfl)) rfl ⟨_, _, rfl, low2 HLE.out HB.out⟩)
      all_goals exact ⟨⟨k + 1, _, by omega, by go_num, rfl, by first | rfl | trivial⟩, by simp [intOf]; omega⟩
    · obtain rfl : k = s.size := by omega
      have hlk : ¬ ((s.size : Int) < (s.size : Int)) := by omega
      go_wp2_with fail
      all_goals (exact bodyPost_ret (results_cell_row rfl _ _ _ 112 _ (0, 0) _ rfl (row2 HR.out) Tryd.underlying112 rfl (by kernel_rfl)) rfl ⟨_, _, rfl, low2 HLE.out HB.out⟩)
def SignEnd (s : ByteArray) (w : World) (e : Ending) (w' : World) : Prop := ∃ n : Nat, e = .returned (.int .i64 (n : Int)) ∧ n ≤ s.size ∧ Below w.heap.size w w'
set_option maxRecDepth 100000 in
set_option maxHeartbeats 4000000 in
theorem c63 (s : ByteArray) (h1 : 1 ≤ s.size) (hs : s.size ≤ 3000) (w : World) : Calls Tryd.prog 63 #[.string s] w (SignEnd s w) := by
  have i1 : (1 : Int) ≤ (s.size : Int) := by omega
  have H1 := Lib.hid h1
  by_cases h2 : 2 ≤ s.size
  · have i2 : (2 : Int) ≤ (s.size : Int) := by omega
    have H2 := Lib.hid h2
    go_enter Tryd.func63, Tryd.ntmps63
    go_wp2_with fail
    any_goals (go_ret; exact ⟨2, rfl, H2.out, Below.refl _ _⟩)
    all_goals (
      go_loopw [3] (fun i wr => ∃ k : Nat, k ≤ 16 ∧ i = .int .i64 k ∧ Below w.heap.size w wr) (fun i _ => 16 - (intOf i).toNat)
      case atStart => exact ⟨0, by omega, rfl, Below.refl _ _⟩
      case round =>
        obtain ⟨k, hk, rfl, hb⟩ := hrel
        have HB := Lib.hid hb
        clear hb
        by_cases hlt : k < 16
        · have hlk : (k : Int) < 16 := by omega
          have hk0 : (0 : Int) ≤ (k : Int) := by omega
          have hi0 : (0 : Int) < (s.size : Int) := by omega
          have hi1 : 0 < s.size := by omega
          go_upto_region 10 with fail
          generalize hq : (ByteArray.mk #[40, 41, 91, 93, 44, 59, 124, 95, 33, 61, 43, 42, 47, 37, 94, 60]) = sg
          have hsg : sg.size = 16 := by rw [← hq]; rfl
          clear hq
          have hks : k < sg.size := by omega
          have HB2 := Lib.hid (Below.drew HB.out)
          refine wp_region_held_drew (S := fun V => True) (by kernel_rfl) trivial (fun hHeld => ?_)
          refine wpAnyH_take (i := 0) (oi := ⟨some 17, _, _, _, _, _⟩) (v := ?_) rfl (by kernel_rfl) (by kernel_rfl) (by kernel_rfl) (fun _ _ _ h => h) (Or.inl ⟨by kernel_rfl, ?_⟩) (by assumption) ?_
          rotate_left
          · intro V hSw
            go_simp
            try with_reducible rfl
          try simp only [Act.put, List.setIfInBounds_toArray, List.set_cons_zero, List.set_cons_succ]
          refine wpAnyH_take (i := 1) (oi := ⟨some 18, _, _, _, _, _⟩) (v := ?_) rfl (by kernel_rfl) (by kernel_rfl) (by kernel_rfl) (fun _ _ _ h => h) (Or.inl ⟨by kernel_rfl, ?_⟩) (by assumption) ?_
          rotate_left
          · intro V hSw
            go_simp
            try with_reducible rfl
          try simp only [Act.put, List.setIfInBounds_toArray, List.set_cons_zero, List.set_cons_succ]
          refine wpAnyH_take (i := 2) (oi := ⟨some 19, _, _, _, _, _⟩) (v := ?_) rfl (by kernel_rfl) (by kernel_rfl) (by kernel_rfl) (fun _ _ _ h => h) (Or.inl ⟨by kernel_rfl, ?_⟩) (by assumption) ?_
          rotate_left
          · intro V hSw
            go_simp
            try with_reducible rfl
          try simp only [Act.put, List.setIfInBounds_toArray, List.set_cons_zero, List.set_cons_succ]
          refine wpAnyH_take (i := 3) (oi := ⟨some 20, _, _, _, _, _⟩) (v := ?_) rfl (by kernel_rfl) (by kernel_rfl) (by kernel_rfl) (fun _ _ _ h => h) (Or.inl ⟨by kernel_rfl, ?_⟩) (by assumption) ?_
          rotate_left
          · intro V hSw
            go_simp
            try with_reducible rfl
          try simp only [Act.put, List.setIfInBounds_toArray, List.set_cons_zero, List.set_cons_succ]
          refine wpAnyH_take (i := 4) (oi := ⟨some 21, _, _, _, _, _⟩) (v := ?_) rfl (by kernel_rfl) (by kernel_rfl) (by kernel_rfl) (fun _ _ _ h => h) (Or.inl ⟨by kernel_rfl, ?_⟩) (by assumption) ?_
          rotate_left
          · intro V hSw
            go_simp
            try with_reducible rfl
          try simp only [Act.put, List.setIfInBounds_toArray, List.set_cons_zero, List.set_cons_succ]
          refine wpAnyH_done (by kernel_rfl) ?_ _
          generalize wr.drew = wd at HB2 ⊢
          go_wp2_with fail
          any_goals (go_ret; exact ⟨1, rfl, H1.out, HB2.out⟩)
          all_goals exact ⟨⟨k + 1, by omega, by go_num, HB2.out⟩, by simp [intOf]; omega⟩
        · obtain rfl : k = 16 := by omega
          have hi0 : (0 : Int) < (s.size : Int) := by omega
          have hi1 : 0 < s.size := by omega
          go_wp2_with fail
          all_goals first
            | (go_ret; exact ⟨1, rfl, H1.out, HB.out⟩)
            | (go_ret; exact ⟨0, rfl, Nat.zero_le _, HB.out⟩))
  · have i2 : ¬ (2 : Int) ≤ (s.size : Int) := by omega
    go_enter Tryd.func63, Tryd.ntmps63
    go_wp2_with fail
    all_goals (
      go_loopw [3] (fun i wr => ∃ k : Nat, k ≤ 16 ∧ i = .int .i64 k ∧ Below w.heap.size w wr) (fun i _ => 16 - (intOf i).toNat)
      case atStart => exact ⟨0, by omega, rfl, Below.refl _ _⟩
      case round =>
        obtain ⟨k, hk, rfl, hb⟩ := hrel
        have HB := Lib.hid hb
        clear hb
        by_cases hlt : k < 16
        · have hlk : (k : Int) < 16 := by omega
          have hk0 : (0 : Int) ≤ (k : Int) := by omega
          have hi0 : (0 : Int) < (s.size : Int) := by omega
          have hi1 : 0 < s.size := by omega
          go_upto_region 10 with fail
          generalize hq : (ByteArray.mk #[40, 41, 91, 93, 44, 59, 124, 95, 33, 61, 43, 42, 47, 37, 94, 60]) = sg
          have hsg : sg.size = 16 := by rw [← hq]; rfl
          clear hq
          have hks : k < sg.size := by omega
          have HB2 := Lib.hid (Below.drew HB.out)
          refine wp_region_held_drew (S := fun V => True) (by kernel_rfl) trivial (fun hHeld => ?_)
          refine wpAnyH_take (i := 0) (oi := ⟨some 17, _, _, _, _, _⟩) (v := ?_) rfl (by kernel_rfl) (by kernel_rfl) (by kernel_rfl) (fun _ _ _ h => h) (Or.inl ⟨by kernel_rfl, ?_⟩) (by assumption) ?_
          rotate_left
          · intro V hSw
            go_simp
            try with_reducible rfl
          try simp only [Act.put, List.setIfInBounds_toArray, List.set_cons_zero, List.set_cons_succ]
          refine wpAnyH_take (i := 1) (oi := ⟨some 18, _, _, _, _, _⟩) (v := ?_) rfl (by kernel_rfl) (by kernel_rfl) (by kernel_rfl) (fun _ _ _ h => h) (Or.inl ⟨by kernel_rfl, ?_⟩) (by assumption) ?_
          rotate_left
          · intro V hSw
            go_simp
            try with_reducible rfl
          try simp only [Act.put, List.setIfInBounds_toArray, List.set_cons_zero, List.set_cons_succ]
          refine wpAnyH_take (i := 2) (oi := ⟨some 19, _, _, _, _, _⟩) (v := ?_) rfl (by kernel_rfl) (by kernel_rfl) (by kernel_rfl) (fun _ _ _ h => h) (Or.inl ⟨by kernel_rfl, ?_⟩) (by assumption) ?_
          rotate_left
          · intro V hSw
            go_simp
            try with_reducible rfl
          try simp only [Act.put, List.setIfInBounds_toArray, List.set_cons_zero, List.set_cons_succ]
          refine wpAnyH_take (i := 3) (oi := ⟨some 20, _, _, _, _, _⟩) (v := ?_) rfl (by kernel_rfl) (by kernel_rfl) (by kernel_rfl) (fun _ _ _ h => h) (Or.inl ⟨by kernel_rfl, ?_⟩) (by assumption) ?_
          rotate_left
          · intro V hSw
            go_simp
            try with_reducible rfl
          try simp only [Act.put, List.setIfInBounds_toArray, List.set_cons_zero, List.set_cons_succ]
          refine wpAnyH_take (i := 4) (oi := ⟨some 21, _, _, _, _, _⟩) (v := ?_) rfl (by kernel_rfl) (by kernel_rfl) (by kernel_rfl) (fun _ _ _ h => h) (Or.inl ⟨by kernel_rfl, ?_⟩) (by assumption) ?_
          rotate_left
          · intro V hSw
            go_simp
            try with_reducible rfl
          try simp only [Act.put, List.setIfInBounds_toArray, List.set_cons_zero, List.set_cons_succ]
          refine wpAnyH_done (by kernel_rfl) ?_ _
          generalize wr.drew = wd at HB2 ⊢
          go_wp2_with fail
          any_goals (go_ret; exact ⟨1, rfl, H1.out, HB2.out⟩)
          all_goals exact ⟨⟨k + 1, by omega, by go_num, HB2.out⟩, by simp [intOf]; omega⟩
        · obtain rfl : k = 16 := by omega
          have hi0 : (0 : Int) < (s.size : Int) := by omega
          have hi1 : 0 < s.size := by omega
          go_wp2_with fail
          all_goals first
            | (go_ret; exact ⟨1, rfl, H1.out, HB.out⟩)
            | (go_ret; exact ⟨0, rfl, Nat.zero_le _, HB.out⟩))
end Go.Proofs.YtphojigdapaaiaaDoor
