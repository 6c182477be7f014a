/- stockpotref07's reader: taking bytes, reading numbers. -/
import Derived.Test.YtiphicejaljhiaaDoorRdNum
namespace Go.Proofs.YtiphicejaljhiaaDoor
open Go.ChangeShapes Go.WideShapes Go.ChangeAt Go.RowKit
/-- The document's reader at block g: what is left, and whether there was too little. -/
def RfAt (w : World) (g : Nat) (s : St) : Prop := ∃ A c, Blk w g 110 #[.slice A s.1.length c, .bool s.2] ∧ Reads w g 1 A s.1.length (cellsB s.1) ∧ s.1.length ≤ c ∧ c ≤ maxLen
theorem RfAt.lt {w : World} {g : Nat} {s : St} (h : RfAt w g s) : g < w.heap.size := by
  obtain ⟨A, c, hb, _⟩ := h
  exact hb.lt
set_option maxRecDepth 100000 in
set_option maxHeartbeats 2000000 in
theorem c61 (g n : Nat) (s : St) (w : World) (hw : RfAt w g s) (hn : n ≤ 1099511627776) :
    Calls Tryd.prog 61 #[.pointer (some ⟨g, 0, none⟩), .int .i64 n] w fun e w' => ∃ A c, e = .returned (.slice A n c) ∧ n ≤ c ∧ Reads w' w'.heap.size 1 A n (cellsB (tkR n s).1) ∧ RfAt w' g (tkR n s).2 ∧ w.grownBy w' (some g) := by
  obtain ⟨i0, hi0, hz0, hz1, hz2⟩ := info_parts u8_info
  obtain ⟨l, bad⟩ := s
  obtain ⟨A, c, hb, hr, hc, hm⟩ := hw
  simp only at hb hr hc
  unfold maxLen at hm
  have HB := Lib.hid hb
  have HR := Lib.hid hr
  have q0 := hb.cell 0
  have q1 := hb.cell 1
  have f0 := hb.frozen 0
  have f1 := hb.frozen 1
  clear hb hr
  have hn0 : (0 : Int) ≤ (n : Int) := by omega
  by_cases h : bad = true ∨ l.length < n
  · have HT := Lib.hid (show tkR n (l, bad) = (List.replicate n 0, (l, true)) by unfold tkR; rw [if_pos h])
    have X2 := Lib.hid (HB.out.set_ 1 (.bool true))
    cases bad
    · have hl : (l.length : Int) < (n : Int) := by
        rcases h with h | h
        · cases h
        · omega
      clear h
      go_enter Tryd.func61, Tryd.ntmps61
      go_wp2_with (at_make; refine wpList_make_full _ rfl (.tmp 22) (.tmp 22) 43 rfl (w.heap.size) 5 i0 _ 1 Tryd.underlying43 hi0 hz0 hz1 _ _ _ _ n rfl rfl rfl rfl (by rw [hz2]; omega) (by unfold maxLen; omega) (by simp) ?_; intro w1 hown hgrow)
      go_ret
      refine ⟨_, n, rfl, Nat.le_refl _, ?_, ?_, ?_⟩
      · rw [HT.out, ← made_bytes]
        rw [World.size_setCell] at hown
        exact Reads.of_own hown
      · rw [HT.out]
        exact ⟨A, c, X2.out.grown hgrow (by simp), (HR.out.setCell (p := ⟨g, 1, none⟩) (Nat.le_refl _) _).below (((Below.refl _ _).grown hgrow (Nat.le_refl _) (fun k hk => by cases hk)).mono (by rw [World.size_setCell]; exact Nat.le_of_lt HB.out.lt)), hc, by unfold maxLen; omega⟩
      · exact (grown_set w g 1 _).trans ⟨hgrow.os, hgrow.tape, hgrow.output, hgrow.size, fun i hi _ => hgrow.block i hi (by simp)⟩
    · clear h
      go_enter Tryd.func61, Tryd.ntmps61
      go_wp2_with (at_make; refine wpList_make_full _ rfl (.tmp 22) (.tmp 22) 43 rfl (w.heap.size) 5 i0 _ 1 Tryd.underlying43 hi0 hz0 hz1 _ _ _ _ n rfl rfl rfl rfl (by rw [hz2]; omega) (by unfold maxLen; omega) (by simp) ?_; intro w1 hown hgrow)
      go_ret
      refine ⟨_, n, rfl, Nat.le_refl _, ?_, ?_, ?_⟩
      · rw [HT.out, ← made_bytes]
        rw [World.size_setCell] at hown
        exact Reads.of_own hown
      · rw [HT.out]
        exact ⟨A, c, X2.out.grown hgrow (by simp), (HR.out.setCell (p := ⟨g, 1, none⟩) (Nat.le_refl _) _).below (((Below.refl _ _).grown hgrow (Nat.le_refl _) (fun k hk => by cases hk)).mono (by rw [World.size_setCell]; exact Nat.le_of_lt HB.out.lt)), hc, by unfold maxLen; omega⟩
      · exact (grown_set w g 1 _).trans ⟨hgrow.os, hgrow.tape, hgrow.output, hgrow.size, fun i hi _ => hgrow.block i hi (by simp)⟩
  · obtain rfl : bad = false := by cases bad; rfl; exact absurd (.inl rfl) h
    have hl' : ¬ l.length < n := fun e => h (.inr e)
    have hl : ¬ (l.length : Int) < (n : Int) := by omega
    have hnc : (n : Int) ≤ (c : Int) := by omega
    have hnl : (n : Int) ≤ (l.length : Int) := by omega
    have HT := Lib.hid (show tkR n (l, false) = (l.take n, (l.drop n, false)) by unfold tkR; rw [if_neg h])
    clear h
    go_enter Tryd.func61, Tryd.ntmps61
    go_wp2_with fail
    all_goals
      go_ret
      have hlt := HB.out.lt
      refine ⟨_, _, rfl, by omega, ?_, ?_, grown_set w g 0 _⟩
    · rw [HT.out]
      refine ⟨by rw [cellsB_len, List.length_take]; omega, fun hn => ?_⟩
      obtain ⟨ad, e, hbl, hcc⟩ := HR.out.2 (by omega)
      refine ⟨ad, e, by rw [World.size_setCell]; omega, fun j u hj => ?_⟩
      rw [World.cell?_setCell_other _ _ _ _ (fun e => by have := congrArg Addr.block e; rw [block_of_add] at this; simp at this; omega)]
      refine hcc j u ?_
      unfold cellsB at hj ⊢
      rw [List.map_take, List.getElem?_take] at hj
      split at hj
      · exact hj
      · cases hj
    · rw [HT.out]
      refine ⟨A, 0, ?_, ?_, ?_, by unfold maxLen; omega⟩
      · rw [List.length_drop]
        exact HB.out.set_ 0 _
      · rw [List.length_drop]
        exact ⟨by rw [cellsB_len, List.length_drop]; omega, fun hn => by omega⟩
      · rw [List.length_drop]
        omega
    · rw [HT.out]
      refine ⟨by rw [cellsB_len, List.length_take]; omega, fun hn => ?_⟩
      obtain ⟨ad, e, hbl, hcc⟩ := HR.out.2 (by omega)
      refine ⟨ad, e, by rw [World.size_setCell]; omega, fun j u hj => ?_⟩
      rw [World.cell?_setCell_other _ _ _ _ (fun e => by have := congrArg Addr.block e; rw [block_of_add] at this; simp at this; omega)]
      refine hcc j u ?_
      unfold cellsB at hj ⊢
      rw [List.map_take, List.getElem?_take] at hj
      split at hj
      · exact hj
      · cases hj
    · have hne' : ¬ c = n := by assumption
      rw [HT.out]
      refine ⟨Option.map (fun x => x.add n) A, c - n, ?_, ?_, ?_, by unfold maxLen; omega⟩
      · rw [List.length_drop]
        exact HB.out.set_ 0 _
      · rw [List.length_drop]
        have h1 := (HR.out.setCell (p := ⟨g, 0, none⟩) (Nat.le_refl _) (.slice (Option.map (fun x => x.add n) A) (l.length - n) (c - n))).cut (k := n) (cap := c) (by omega) hc
        rw [if_neg hne', Nat.mul_one] at h1
        unfold cellsB at h1 ⊢
        rw [List.map_drop]
        exact h1
      · rw [List.length_drop]
        omega
theorem tkR_len (n : Nat) (s : St) : (tkR n s).1.length = n := by
  unfold tkR
  split
  · simp
  · rename_i h
    simp only [not_or] at h
    simp; omega
set_option maxRecDepth 100000 in
set_option maxHeartbeats 2000000 in
theorem c60 (g n : Nat) (s : St) (w : World) (hw : RfAt w g s) (hn : n ≤ 8) :
    Calls Tryd.prog 60 #[.pointer (some ⟨g, 0, none⟩), .int .i64 n] w fun e w' => e = .returned (.int .i64 (nV tkR n s)) ∧ RfAt w' g (nS tkR n s) ∧ w.grownBy w' (some g) := by
  unfold nV nS
  have hlen := tkR_len n s
  have HW := Lib.hid hw
  clear hw
  go_enter Tryd.func60, Tryd.ntmps60
  go_wp2_with fail
  refine (c61 g n s w HW.out (by omega)).mono ?_
  rintro e w2 ⟨A, c, rfl, hc, hr, hrd, hg⟩
  generalize hxs : (tkR n s).1 = xs at hlen hr
  generalize hs2 : (tkR n s).2 = s2 at hrd
  have HXS := Lib.hid hxs
  have HS2 := Lib.hid hs2
  clear hxs hs2
  have HRD := Lib.hid hrd
  have HGR := Lib.hid hg
  have HR := Lib.hid hr
  clear hrd hg hr
  go_wp2_with fail
  go_loopw [7, 5] (fun i v wr => ∃ k : Nat, k ≤ n ∧ i = .int .i64 k ∧ v = .int .u64 (natB (xs.take k) : Nat) ∧ wr = w2) (fun i _ _ => n - (intOf i).toNat)
  case atStart => exact ⟨0, by omega, rfl, rfl, rfl⟩
  case round =>
    obtain ⟨k, hk, rfl, rfl, rfl⟩ := hrel
    by_cases hlt : k < n
    · have hl : (k : Int) < (n : Int) := by omega
      have hkx : k < xs.length := by omega
      obtain ⟨ad, u, rfl, hbl, hu, hcs⟩ := HR.out.at_ hlt
      obtain rfl : byV xs[k] = u := by
        unfold cellsB at hu
        rw [List.getElem?_map, List.getElem?_eq_getElem hkx] at hu
        exact Option.some.inj hu
      clear hu
      have hb := natB_snoc (xs.take k) xs[k]
      have ht : xs.take (k + 1) = xs.take k ++ [xs[k]] := by rw [List.take_add_one, List.getElem?_eq_getElem hkx]; rfl
      rw [← ht] at hb
      have hlt8 := natB_lt (xs.take k)
      generalize xs[k] = y at hcs hb ht
      generalize natB (xs.take k) = nv at hb hlt8
      have HB := Lib.hid hb
      clear hb ht
      have hnv : nv < 72057594037927936 := by
        have h1 : 256 ^ (xs.take k).length ≤ 256 ^ 7 := Nat.pow_le_pow_right (by decide) (by rw [List.length_take]; omega)
        exact Nat.lt_of_lt_of_le hlt8 h1
      have HO := Lib.hid ((or_byte nv y.toNat hnv y.toNat_lt).trans (congrArg Int.ofNat HB.out.symm))
      clear hnv hlt8
      go_wp2_with fail
      go_roundw
      case rel => exact ⟨k + 1, by omega, by go_num, by rw [HO.out]; rfl, trivial⟩
      case measure => simp [intOf]; omega
    · have hl : ¬ (k : Int) < (n : Int) := by omega
      have HX := Lib.hid (show xs.take k = xs from List.take_of_length_le (by omega))
      have HS := Lib.hid (wrap_sgn (natB xs) (by
        have h1 := natB_lt xs
        have h2 : 256 ^ xs.length ≤ 256 ^ 8 := Nat.pow_le_pow_right (by decide) (by omega)
        exact Nat.lt_of_lt_of_le h1 h2))
      go_wp2_with fail
      go_ret
      refine ⟨?_, by rw [HS2.out]; exact HRD.out, HGR.out⟩
      rw [HX.out, HXS.out]
      rw [← HS.out]
      rfl
end Go.Proofs.YtiphicejaljhiaaDoor
