/- The reader: taking bytes. -/
import Derived.Test.YtiphicejaljhiaaDoorWr
import Derived.Test.YtiphicejaljhiaaDoorWrNum
import Derived.OwnWalk
namespace Go.Proofs.YtiphicejaljhiaaDoor
open Go.ChangeShapes Go.WideShapes Go.ChangeAt Go.RowKit
/-- A reader at block g: what is left, and whether there was too little. -/
def RdAt (w : World) (g : Nat) (s : St) : Prop := ∃ A c, Blk w g 104 #[.slice A s.1.length c, .bool s.2] ∧ Reads w g 1 A s.1.length (cellsB s.1) ∧ s.1.length ≤ c ∧ c ≤ maxLen
theorem made_bytes (n : Nat) : (madeCells #[.int .u8 0] (n * 1)).toList = cellsB (List.replicate n 0) := by
  rw [Nat.mul_one]
  unfold madeCells cellsB
  apply List.ext_getElem
  · simp
  · intro i h1 h2
    simp [Nat.mod_one]
set_option maxRecDepth 100000 in
set_option maxHeartbeats 2000000 in
theorem c57 (g n : Nat) (s : St) (w : World) (hw : RdAt w g s) (hn : n ≤ 1099511627776) :
    Calls Tryd.prog 57 #[.pointer (some ⟨g, 0, none⟩), .int .i64 n] w fun e w' => ∃ A c, e = .returned (.slice A n c) ∧ n ≤ c ∧ Reads w' w'.heap.size 1 A n (cellsB (tkC n s).1) ∧ RdAt w' g (tkC n s).2 ∧ w.grownBy w' (some g) := by
  obtain ⟨i0, hi0, hz0, hz1, hz2⟩ := info_parts u8_info
  obtain ⟨l, bad⟩ := s
  obtain ⟨A, c, hb, hr, hc, hm⟩ := hw
  simp only at hb hr hc
  unfold maxLen at hm
  have HB := Lib.hid hb
  have HR := Lib.hid hr
  have q0 := hb.cell 0
  have f0 := hb.frozen 0
  have f1 := hb.frozen 1
  clear hb hr
  have hn0 : (0 : Int) ≤ (n : Int) := by omega
  by_cases h : l.length < n
  · have hl : (l.length : Int) < (n : Int) := by omega
    have HT := Lib.hid (show tkC n (l, bad) = (List.replicate n 0, ([], true)) by unfold tkC; rw [if_pos h])
    have X1 := HB.out.set_ 0 (.slice none 0 0)
    have x1 := X1.cell 1
    have fx := X1.frozen 1
    have X2 := Lib.hid (X1.set_ 1 (.bool true))
    clear X1
    go_enter Tryd.func57, Tryd.ntmps57
    go_wp2_with (at_make; refine wpList_make_full _ rfl (.tmp 19) (.tmp 19) 43 rfl (w.heap.size) 5 i0 _ 1 Tryd.underlying43 hi0 hz0 hz1 _ _ _ _ n rfl rfl rfl rfl (by rw [hz2]; omega) (by unfold maxLen; omega) (by simp) ?_; intro w1 hown hgrow)
    go_ret
    refine ⟨_, n, rfl, Nat.le_refl _, ?_, ?_, ?_⟩
    · rw [HT.out, ← made_bytes]
      rw [World.size_setCell, World.size_setCell] at hown
      exact Reads.of_own hown
    · rw [HT.out]
      exact ⟨none, 0, X2.out.grown hgrow (by simp), Reads.none_, Nat.le_refl _, by unfold maxLen; omega⟩
    · exact ((grown_set w g 0 _).trans (grown_set _ g 1 _)).trans ⟨hgrow.os, hgrow.tape, hgrow.output, hgrow.size, fun i hi _ => hgrow.block i hi (by simp)⟩
  · have hl : ¬ (l.length : Int) < (n : Int) := by omega
    have hnc : (n : Int) ≤ (c : Int) := by omega
    have hnl : (n : Int) ≤ (l.length : Int) := by omega
    have HT := Lib.hid (show tkC n (l, bad) = (l.take n, (l.drop n, bad)) by unfold tkC; rw [if_neg h])
    go_enter Tryd.func57, Tryd.ntmps57
    go_wp2_with fail
    all_goals
      go_ret
      have hlt := HB.out.lt
      refine ⟨_, _, rfl, by omega, ?_, ?_, grown_set w g 0 _⟩
    · rw [HT.out]
      refine ⟨by rw [cellsB_len, List.length_take]; omega, fun hn => ?_⟩
      obtain ⟨ad, e, hbl, hcc⟩ := HR.out.2 (by omega)
      refine ⟨ad, e, by rw [World.size_setCell]; omega, fun j u hj => ?_⟩
      rw [World.cell?_setCell_other _ _ _ _ (fun e => by have := congrArg Addr.block e; rw [block_of_add] at this; simp at this; omega)]
      refine hcc j u ?_
      unfold cellsB at hj ⊢
      rw [List.map_take, List.getElem?_take] at hj
      split at hj
      · exact hj
      · cases hj
    · rw [HT.out]
      refine ⟨A, 0, ?_, ?_, ?_, by unfold maxLen; omega⟩
      · rw [List.length_drop]
        exact HB.out.set_ 0 _
      · rw [List.length_drop]
        exact ⟨by rw [cellsB_len, List.length_drop]; omega, fun hn => by omega⟩
      · rw [List.length_drop]
        omega
    · rw [HT.out]
      refine ⟨by rw [cellsB_len, List.length_take]; omega, fun hn => ?_⟩
      obtain ⟨ad, e, hbl, hcc⟩ := HR.out.2 (by omega)
      refine ⟨ad, e, by rw [World.size_setCell]; omega, fun j u hj => ?_⟩
      rw [World.cell?_setCell_other _ _ _ _ (fun e => by have := congrArg Addr.block e; rw [block_of_add] at this; simp at this; omega)]
      refine hcc j u ?_
      unfold cellsB at hj ⊢
      rw [List.map_take, List.getElem?_take] at hj
      split at hj
      · exact hj
      · cases hj
    · rename_i hne
      have hne' : ¬ c = n := fun e => hne (by omega)
      rw [HT.out]
      refine ⟨Option.map (fun x => x.add n) A, c - n, ?_, ?_, ?_, by unfold maxLen; omega⟩
      · rw [List.length_drop]
        exact HB.out.set_ 0 _
      · rw [List.length_drop]
        have h1 := (HR.out.setCell (p := ⟨g, 0, none⟩) (Nat.le_refl _) (.slice (Option.map (fun x => x.add n) A) (l.length - n) (c - n))).cut (k := n) (cap := c) (by omega) hc
        rw [if_neg hne', Nat.mul_one] at h1
        unfold cellsB at h1 ⊢
        rw [List.map_drop]
        exact h1
      · rw [List.length_drop]
        omega
end Go.Proofs.YtiphicejaljhiaaDoor
