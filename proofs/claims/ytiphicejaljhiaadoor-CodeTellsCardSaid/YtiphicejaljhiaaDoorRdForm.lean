/- The reader of a form. -/
import Derived.Test.YtiphicejaljhiaaDoorRdNum
import Derived.Test.YtiphicejaljhiaaDoorEncP
namespace Go.Proofs.YtiphicejaljhiaaDoor
open Go.ChangeShapes Go.WideShapes Go.ChangeAt Go.RowKit
theorem i64_info : (Tryd.prog.info? 3).map (fun i => (i.zero, i.size, i.bytes)) = some (some (.int .i64 0), 1, 8) := by kernel_rfl
theorem nV_range (n : Nat) (s : St) (hn : n ≤ 7) : 0 ≤ nV tkC n s ∧ nV tkC n s < 256 ^ n := by
  have h1 := natB_lt (tkC n s).1
  rw [tkC_len] at h1
  have h2 : 256 ^ n ≤ 256 ^ 7 := Nat.pow_le_pow_right (by decide) hn
  have h3 : natB (tkC n s).1 < 9223372036854775808 := by omega
  unfold nV sgn
  rw [if_pos h3]
  refine ⟨by omega, ?_⟩
  have := Int.ofNat_lt.2 h1
  rw [Int.natCast_pow] at this
  exact this
section
variable {a b c : World} {row : Option Nat}
theorem grown_then (h : a.grownBy b row) (k : b.grownBy c row) : a.grownBy c row :=
  ⟨k.os.trans h.os, k.tape.trans h.tape, k.output.trans h.output, Nat.le_trans h.size k.size, fun i hi hr => (k.block i (Nat.lt_of_lt_of_le hi h.size) hr).trans (h.block i hi hr)⟩
theorem grown_own {row' : Option Nat} (h : a.grownBy b row) (k : b.grownBy c row') (hr : ∀ j, row' = some j → a.heap.size ≤ j) : a.grownBy c row :=
  ⟨k.os.trans h.os, k.tape.trans h.tape, k.output.trans h.output, Nat.le_trans h.size k.size, fun i hi hne => (k.block i (Nat.lt_of_lt_of_le hi h.size) (fun e => by have := hr i e.symm; omega)).trans (h.block i hi hne)⟩
theorem grown_alloc (h : a.grownBy b row) (o : Obj) : a.grownBy (b.alloc o) row :=
  ⟨h.os, h.tape, h.output, by rw [World.size_alloc]; have := h.size; omega, fun i hi hr => (Below.heap_alloc b o i (Nat.lt_of_lt_of_le hi h.size)).trans (h.block i hi hr)⟩
theorem grown_store (h : a.grownBy b row) {g i : Nat} (hg : a.heap.size ≤ g) (v : Value) : a.grownBy (b.setCell ⟨g, i, none⟩ v) row :=
  grown_own h (grown_set b g i v) (fun j e => by injection e with e; omega)
end
theorem Blk.setRow_ {w : World} {g : Nat} {t : TypeId} {cs : Array Value} (h : Blk w g t cs) (cs' : Array Value) : Blk (w.setRow g cs') g t cs' := setRow_heap w g cs cs' t (0, 0) h
theorem grown_setRow (w : World) (g : Nat) (cs : Array Value) : w.grownBy (w.setRow g cs) (some g) :=
  ⟨rfl, rfl, rfl, by rw [setRow_size]; exact Nat.le_refl _, fun k _ hne => by
    have hk : g ≠ k := fun e => hne (by rw [e])
    simp [World.setRow, Array.getElem?_modify, hk]⟩
theorem RdAt.alloc {w : World} {g : Nat} {s : St} (h : RdAt w g s) (o : Obj) : RdAt (w.alloc o) g s := by
  obtain ⟨A, c, hb, hr, hc, hm⟩ := h
  exact ⟨A, c, hb.alloc o, hr.alloc (Nat.le_of_lt hb.lt) o, hc, hm⟩
theorem RdAt.drew {w : World} {g : Nat} {s : St} (h : RdAt w g s) : RdAt w.drew g s := h
/-- What turned is a row that is no reader. -/
theorem RdAt.grown {w w' : World} {g : Nat} {s : St} {row : Option Nat} (h : RdAt w g s) (hg : w.grownBy w' row) (hr : ∀ j, row = some j → g < j) : RdAt w' g s := by
  obtain ⟨A, c, hb, hr', hc, hm⟩ := h
  refine ⟨A, c, hb.grown hg (fun e => by have := hr g e.symm; omega), hr'.keep fun p hp => ?_, hc, hm⟩
  exact World.cell?_of_block (hg.block p.block (Nat.lt_trans hp hb.lt) (fun e => by have := hr p.block e.symm; omega))
theorem RdAt.lt {w : World} {g : Nat} {s : St} (h : RdAt w g s) : g < w.heap.size := by
  obtain ⟨A, c, hb, _⟩ := h
  exact hb.lt
theorem RdAt.cell {w : World} {g : Nat} {s : St} (h : RdAt w g s) : w.cell? ⟨g, 1, none⟩ = some (.bool s.2) := by
  obtain ⟨A, c, hb, _⟩ := h
  exact hb.cell 1
theorem rdKeep {w w' : World} {g k : Nat} {t : TypeId} {cs : Array Value} (h : Blk w k t cs) (hg : w.grownBy w' (some g)) (hne : k ≠ g) : Blk w' k t cs := h.grown hg (fun e => hne (Option.some.inj e))
theorem own_mono {w : World} {base base' : Nat} {e : TypeId} {size n : Nat} {v : Value} {xs : List Value} (h : w.ownsRow base e size v n xs) (hb : base' ≤ base) : w.ownsRow base' e size v n xs := by
  refine ⟨h.1, ?_⟩
  rcases h.2 with h | ⟨g, cap, cur, hv, hg, rest⟩
  · exact .inl h
  · exact .inr ⟨g, cap, cur, hv, Nat.le_trans hb hg, rest⟩
theorem own_keep {w w' : World} {base g : Nat} {e : TypeId} {size n : Nat} {v : Value} {xs : List Value} (h : w.ownsRow base e size v n xs) (hg : w.grownBy w' (some g)) (hb : g < base) : w'.ownsRow base e size v n xs :=
  h.kept hg (by
    cases hv : v.ownBlock with
    | none => exact .inl rfl
    | some k => exact .inr (fun e => by have := (h.lt k hv).1; have e2 := Option.some.inj e; omega))
set_option maxRecDepth 100000 in
set_option maxHeartbeats 4000000 in
theorem c58 (g : Nat) (s : St) (w : World) (hw : RdAt w g s) :
    Calls Tryd.prog 58 #[.pointer (some ⟨g, 0, none⟩)] w fun e w' => ∃ x : Fmv, e = .returned (.agg #[.int .i64 x.fm.kind, .int .i64 x.fm.a, .int .i64 x.fm.b, .slice x.ad x.fm.cons.length x.cap]) ∧ x.fm = (rFm tkC s).1 ∧
      (w'.ownsRow w.heap.size 3 1 (.slice x.ad x.fm.cons.length x.cap) x.fm.cons.length (x.fm.cons.map (Value.int .i64)) ∧ x.fm.cons.length ≤ 65536) ∧ RdAt w' g (rFm tkC s).2 ∧ w.grownBy w' (some g) := by
  obtain ⟨i0, hi0, hz0, hz1, hz2⟩ := info_parts i64_info
  have hgw := hw.lt
  have HW := Lib.hid (hw.alloc (.cells #[.int .i64 0, .int .i64 0, .int .i64 0, .slice none 0 0] 63))
  have P0 := Blk.new w 63 #[.int .i64 0, .int .i64 0, .int .i64 0, .slice none 0 0]
  have G0 := Lib.hid (grown_alloc (World.grownBy.refl w (some g)) (.cells #[.int .i64 0, .int .i64 0, .int .i64 0, .slice none 0 0] 63))
  clear hw
  go_enter Tryd.func58, Tryd.ntmps58
  go_wp2_with fail
  refine (c55 g 1 s _ HW.out (by decide)).mono ?_
  rintro e w1 ⟨rfl, r1, g1⟩
  have R1 := Lib.hid r1
  have G1 := Lib.hid (grown_then G0.out g1)
  have P1 := rdKeep P0 g1 (by omega)
  clear r1 g1 P0
  go_wp2_with fail
  refine (c55 g 1 _ _ R1.out (by decide)).mono ?_
  rintro e w2 ⟨rfl, r2, g2⟩
  have R2 := Lib.hid r2
  have G2 := Lib.hid (grown_then G1.out g2)
  have P2 := rdKeep P1 g2 (by omega)
  clear r2 g2 P1
  go_wp2_with fail
  refine (c55 g 1 _ _ R2.out (by decide)).mono ?_
  rintro e w3 ⟨rfl, r3, g3⟩
  have G3 := Lib.hid (grown_then G2.out g3)
  have P3 := rdKeep P2 g3 (by omega)
  have hsz := G3.out.size
  have hsz' : w.heap.size < w3.heap.size := Nat.lt_of_lt_of_le P3.lt (Nat.le_refl _)
  generalize hkd : nV tkC 1 s = kd
  generalize hs1 : nS tkC 1 s = s1 at r3
  generalize hfa : nV tkC 1 s1 = fa
  generalize hs2 : nS tkC 1 s1 = s2 at r3
  generalize hfb : nV tkC 1 s2 = fb
  generalize hs3 : nS tkC 1 s2 = s3 at r3
  have HN := Lib.hid (show rFm tkC s = (⟨kd, fa, fb, (rCons tkC (nV tkC 1 s3).toNat (nS tkC 1 s3)).1⟩, (rCons tkC (nV tkC 1 s3).toNat (nS tkC 1 s3)).2) by
    unfold rFm
    simp only [hkd, hs1, hfa, hs2, hfb, hs3])
  clear hkd hs1 hfa hs2 hfb hs3 g3 P2
  have R3 := Lib.hid (r3.alloc (.cells #[.int .i64 kd, .int .i64 fa, .int .i64 fb, .slice none 0 0] 63))
  have G4 := Lib.hid (grown_alloc G3.out (.cells #[.int .i64 kd, .int .i64 fa, .int .i64 fb, .slice none 0 0] 63))
  have P4 := P3.alloc (.cells #[.int .i64 kd, .int .i64 fa, .int .i64 fb, .slice none 0 0] 63)
  have Q4 := Blk.new w3 63 #[.int .i64 kd, .int .i64 fa, .int .i64 fb, .slice none 0 0]
  clear r3 P3
  go_wp2_with fail
  refine (c55 g 1 s3 _ R3.out (by decide)).mono ?_
  rintro e w5 ⟨rfl, r5, g5⟩
  have G5 := Lib.hid (grown_then G4.out g5)
  have P5 := rdKeep P4 g5 (by omega)
  have Q5 := rdKeep Q4 g5 (by omega)
  have hnr := nV_range 1 s3 (by decide)
  generalize nV tkC 1 s3 = m0 at HN hnr
  generalize nS tkC 1 s3 = s4 at HN r5
  obtain ⟨m, rfl⟩ : ∃ m : Nat, m0 = m := ⟨m0.toNat, by omega⟩
  rw [Int.toNat_natCast] at HN
  have hm : m < 256 := by omega
  have R5 := Lib.hid r5
  clear g5 r5 P4 Q4 hnr
  generalize hb3 : w3.heap.size = b3 at Q5 hsz hsz'
  go_wp2_with fail
  go_loopw [4] (fun i wr => ∃ (k : Nat) (st : St) (acc : List Int) (A : Option Addr) (c : Nat), i = .int .i64 k ∧ acc.length + k ≤ m ∧ (rCons tkC m s4).1 = acc ++ (rCons tkC k st).1 ∧ (rCons tkC m s4).2 = (rCons tkC k st).2 ∧ Hid (RdAt wr g st) ∧ Hid (wr.ownsRow (w.heap.size + 1) 3 1 (.slice A acc.length c) acc.length (acc.map (Value.int .i64))) ∧ Hid (w.grownBy wr (some g)) ∧ Blk wr w.heap.size 63 #[.int .i64 0, .int .i64 0, .int .i64 0, .slice none 0 0] ∧ Blk wr b3 63 #[.int .i64 kd, .int .i64 fa, .int .i64 fb, .slice A acc.length c]) (fun i _ => (intOf i).toNat)
  case atStart => exact ⟨m, s4, [], none, 0, rfl, by simp, rfl, rfl, R5, Lib.hid ⟨rfl, .inl ⟨rfl, rfl⟩⟩, G5, P5, Q5⟩
  case round =>
    obtain ⟨k, st, acc, A, c, rfl, hk, he1, he2, HR, HO, HG, hP, hQ⟩ := hrel
    have HE1 := Lib.hid he1
    have HE2 := Lib.hid he2
    have cb := HR.out.cell
    clear he1 he2
    have hst : ¬ st.2 = true → ∀ k, rCons tkC (k + 1) st = ((if nV tkC 1 st = 255 then -1 else nV tkC 1 st) :: (rCons tkC k (nS tkC 1 st)).1, (rCons tkC k (nS tkC 1 st)).2) := fun h k => by
      rw [rCons, if_neg h]
    have hst1 : st.2 = true ∨ k = 0 → rCons tkC k st = ([], st) := fun h => by
      cases k with
      | zero => rfl
      | succ k => rw [rCons, if_pos (by simpa using h)]
    have HST := Lib.hid hst
    have HST1 := Lib.hid hst1
    clear hst hst1
    by_cases hgo : st.2 = false ∧ 0 < k
    · obtain ⟨hbad, hk0⟩ := hgo
      rw [hbad] at cb
      obtain ⟨k, rfl⟩ : ∃ j, k = j + 1 := ⟨k - 1, by omega⟩
      have fk : decide ((0 : Int) < ((k + 1 : Nat) : Int)) = true := decide_eq_true (by omega)
      have HBAD := Lib.hid hbad
      clear hbad
      go_wp2_with fail
      refine (c55 g 1 st _ HR.out (by decide)).mono ?_
      rintro e w6 ⟨rfl, r6, g6⟩
      have cc : wr.heap.size ≤ w6.heap.size := g6.size
      have R6 := Lib.hid r6
      have G6 := Lib.hid (grown_then HG.out g6)
      have P6 := rdKeep hP g6 (by omega)
      have Q6 := rdKeep hQ g6 (by omega)
      have O6 := Lib.hid (own_keep HO.out g6 (by omega))
      clear r6 g6 cb hP hQ
      generalize hv : nV tkC 1 st = v6
      have HV := Lib.hid hv
      clear hv
      have W1 : IntKind.i64.wrap (((k + 1 : Nat) : Int) - 1) = (k : Int) := (IntWalk.i64_in _ (by omega)).trans (by omega)
      by_cases hv255 : v6 = 255
      · have f255 : (v6 == 255) = true := beq_iff_eq.2 hv255
        have HC := Lib.hid (show rCons tkC (k + 1) st = (-1 :: (rCons tkC k (nS tkC 1 st)).1, (rCons tkC k (nS tkC 1 st)).2) by rw [HST.out (by simp [HBAD.out]), HV.out, if_pos hv255])
        clear hv255
        have Q7 := Q6.alloc (.cells #[.int .i64 (-1)] 3)
        have q3 := Q6.cell 3
        go_wp2_with (at_builtin; refine wpList_append_any _ rfl (.tmp 31) (.tmp 33) _ rfl (w.heap.size + 1) 3 i0 _ 1 8 Tryd.underlying61 hi0 hz0 hz1 hz2 rfl (by omega) (.slice A acc.length c) acc.length (acc.map (Value.int .i64)) rfl (O6.out.alloc _) (w6.heap.size + 1) (some ⟨w6.heap.size, 0, none⟩) 1 1 [.int .i64 (-1)] rfl (reads_one (Blk.new w6 3 #[.int .i64 (-1)])) (by simp [Value.oneCell']) (by unfold maxLen; omega) (by omega) (by rw [World.size_alloc]; have := HG.out.size; have := P6.lt; omega) ?_; intro v1 w1 hown1 hgrow hat; obtain ⟨a1, c1, rfl⟩ := own_form hown1; have hne : (Value.slice A acc.length c).ownBlock ≠ some b3 := own_blk_ne (O6.out.alloc (.cells #[.int .i64 (-1)] 3)) Q7 (by decide); have Q8 := Q7.grown hgrow (fun e => hne e.symm); have s3 := Q8.cell 3; have t3 := Q8.frozen 3)
        have hrow : ∀ j, (Value.slice A acc.length c).ownBlock = some j → w.heap.size + 1 ≤ j := fun j e => (O6.out.lt j e).1
        have hne' : (Value.slice a1 (acc.length + 1) c1).ownBlock ≠ some b3 := own_blk_ne hown1 Q8 (by decide)
        have P7 := (P6.alloc (.cells #[.int .i64 (-1)] 3)).grown hgrow (fun e => own_blk_ne (O6.out.alloc (.cells #[.int .i64 (-1)] 3)) (P6.alloc (.cells #[.int .i64 (-1)] 3)) (by decide) e.symm)
        have hb3g : w.heap.size < b3 := hsz'
        have P8 := P7.far (p := ⟨b3, 3, none⟩) (by simp; omega) (.slice a1 (acc.length + 1) c1)
        have Q9 := Q8.set_ 3 (.slice a1 (acc.length + 1) c1)
        have R8 := Lib.hid (((R6.out.alloc (.cells #[.int .i64 (-1)] 3)).grown hgrow (fun j e => by have := hrow j e; omega)).grown (grown_set _ b3 3 (.slice a1 (acc.length + 1) c1)) (fun j e => by have := Option.some.inj e; omega))
        have G8 := Lib.hid (grown_store (grown_own (grown_alloc G6.out (.cells #[.int .i64 (-1)] 3)) hgrow (fun j e => by have := hrow j e; omega)) (g := b3) (i := 3) (by omega) (.slice a1 (acc.length + 1) c1))
        have O8 := Lib.hid (show ((w1.setCell ⟨b3, 3, none⟩ (.slice a1 (acc.length + 1) c1)).ownsRow (w.heap.size + 1) 3 1 (.slice a1 (acc ++ [-1]).length c1) (acc ++ [-1]).length ((acc ++ [-1]).map (Value.int .i64))) by
          rw [List.length_append, List.map_append]
          exact hown1.kept (grown_set w1 b3 3 _) (.inr hne'))
        clear s3 t3 q3 Q7 Q8 P7
        go_wp2_with fail
        go_roundw
        case rel =>
          refine ⟨k, nS tkC 1 st, acc ++ [-1], a1, c1, by first | rfl | go_num, by simp; omega, ?_, ?_, R8, O8, G8, P8, ?_⟩
          · rw [HE1.out, HC.out, List.append_assoc]; rfl
          · rw [HE2.out, HC.out]
          · rw [List.length_append]; exact Q9
        case measure => simp [intOf]
      · have f255 : (v6 == 255) = false := beq_eq_false_iff_ne.2 hv255
        have HC := Lib.hid (show rCons tkC (k + 1) st = (v6 :: (rCons tkC k (nS tkC 1 st)).1, (rCons tkC k (nS tkC 1 st)).2) by rw [HST.out (by simp [HBAD.out]), HV.out, if_neg hv255])
        clear hv255
        have Q7 := Q6.alloc (.cells #[.int .i64 (v6)] 3)
        have q3 := Q6.cell 3
        go_wp2_with (at_builtin; refine wpList_append_any _ rfl (.tmp 31) (.tmp 33) _ rfl (w.heap.size + 1) 3 i0 _ 1 8 Tryd.underlying61 hi0 hz0 hz1 hz2 rfl (by omega) (.slice A acc.length c) acc.length (acc.map (Value.int .i64)) rfl (O6.out.alloc _) (w6.heap.size + 1) (some ⟨w6.heap.size, 0, none⟩) 1 1 [.int .i64 (v6)] rfl (reads_one (Blk.new w6 3 #[.int .i64 (v6)])) (by simp [Value.oneCell']) (by unfold maxLen; omega) (by omega) (by rw [World.size_alloc]; have := HG.out.size; have := P6.lt; omega) ?_; intro v1 w1 hown1 hgrow hat; obtain ⟨a1, c1, rfl⟩ := own_form hown1; have hne : (Value.slice A acc.length c).ownBlock ≠ some b3 := own_blk_ne (O6.out.alloc (.cells #[.int .i64 (v6)] 3)) Q7 (by decide); have Q8 := Q7.grown hgrow (fun e => hne e.symm); have s3 := Q8.cell 3; have t3 := Q8.frozen 3)
        have hrow : ∀ j, (Value.slice A acc.length c).ownBlock = some j → w.heap.size + 1 ≤ j := fun j e => (O6.out.lt j e).1
        have hne' : (Value.slice a1 (acc.length + 1) c1).ownBlock ≠ some b3 := own_blk_ne hown1 Q8 (by decide)
        have P7 := (P6.alloc (.cells #[.int .i64 (v6)] 3)).grown hgrow (fun e => own_blk_ne (O6.out.alloc (.cells #[.int .i64 (v6)] 3)) (P6.alloc (.cells #[.int .i64 (v6)] 3)) (by decide) e.symm)
        have hb3g : w.heap.size < b3 := hsz'
        have P8 := P7.far (p := ⟨b3, 3, none⟩) (by simp; omega) (.slice a1 (acc.length + 1) c1)
        have Q9 := Q8.set_ 3 (.slice a1 (acc.length + 1) c1)
        have R8 := Lib.hid (((R6.out.alloc (.cells #[.int .i64 (v6)] 3)).grown hgrow (fun j e => by have := hrow j e; omega)).grown (grown_set _ b3 3 (.slice a1 (acc.length + 1) c1)) (fun j e => by have := Option.some.inj e; omega))
        have G8 := Lib.hid (grown_store (grown_own (grown_alloc G6.out (.cells #[.int .i64 (v6)] 3)) hgrow (fun j e => by have := hrow j e; omega)) (g := b3) (i := 3) (by omega) (.slice a1 (acc.length + 1) c1))
        have O8 := Lib.hid (show ((w1.setCell ⟨b3, 3, none⟩ (.slice a1 (acc.length + 1) c1)).ownsRow (w.heap.size + 1) 3 1 (.slice a1 (acc ++ [v6]).length c1) (acc ++ [v6]).length ((acc ++ [v6]).map (Value.int .i64))) by
          rw [List.length_append, List.map_append]
          exact hown1.kept (grown_set w1 b3 3 _) (.inr hne'))
        clear s3 t3 q3 Q7 Q8 P7
        go_wp2_with fail
        go_roundw
        case rel =>
          refine ⟨k, nS tkC 1 st, acc ++ [v6], a1, c1, by first | rfl | go_num, by simp; omega, ?_, ?_, R8, O8, G8, P8, ?_⟩
          · rw [HE1.out, HC.out, List.append_assoc]; rfl
          · rw [HE2.out, HC.out]
          · rw [List.length_append]; exact Q9
        case measure => simp [intOf]
    · have HGO := Lib.hid (HST1.out (by
        cases hb : st.2
        · exact .inr (Nat.eq_zero_of_not_pos fun h => hgo ⟨hb, h⟩)
        · exact .inl rfl))
      have q0 := hQ.cell 0
      have q1 := hQ.cell 1
      have q2 := hQ.cell 2
      have q3 := hQ.cell 3
      have p0 := hP.cell 0
      have p1 := hP.cell 1
      have p2 := hP.cell 2
      have p3 := hP.cell 3
      have pf0 := hP.frozen 0
      have pf1 := hP.frozen 1
      have pf2 := hP.frozen 2
      have pf3 := hP.frozen 3
      have B4 : Blk ((((wr.setCell ⟨w.heap.size, 0, none⟩ (.int .i64 kd)).setCell ⟨w.heap.size, 1, none⟩ (.int .i64 fa)).setCell ⟨w.heap.size, 2, none⟩ (.int .i64 fb)).setCell ⟨w.heap.size, 3, none⟩ (.slice A acc.length c)) w.heap.size 63 #[.int .i64 kd, .int .i64 fa, .int .i64 fb, .slice A acc.length c] := (((hP.set_ 0 _).set_ 1 _).set_ 2 _).set_ 3 _
      have GW : wr.grownBy ((((wr.setCell ⟨w.heap.size, 0, none⟩ (.int .i64 kd)).setCell ⟨w.heap.size, 1, none⟩ (.int .i64 fa)).setCell ⟨w.heap.size, 2, none⟩ (.int .i64 fb)).setCell ⟨w.heap.size, 3, none⟩ (.slice A acc.length c)) (some w.heap.size) := grown_then (grown_then (grown_then (grown_set _ _ 0 _) (grown_set _ _ 1 _)) (grown_set _ _ 2 _)) (grown_set _ _ 3 _)
      have END : ∀ a : Act, a.tmps.getD 2 undef = .pointer (some ⟨w.heap.size, 0, none⟩) → a.defers = [] → bodyPost Tryd.prog Tryd.f58 (fun e w' => ∃ x : Fmv, e = .returned (.agg #[.int .i64 x.fm.kind, .int .i64 x.fm.a, .int .i64 x.fm.b, .slice x.ad x.fm.cons.length x.cap]) ∧ x.fm = (rFm tkC s).1 ∧
          (w'.ownsRow w.heap.size 3 1 (.slice x.ad x.fm.cons.length x.cap) x.fm.cons.length (x.fm.cons.map (Value.int .i64)) ∧ x.fm.cons.length ≤ 65536) ∧ RdAt w' g (rFm tkC s).2 ∧ w.grownBy w' (some g)) .ret a ((((wr.setCell ⟨w.heap.size, 0, none⟩ (.int .i64 kd)).setCell ⟨w.heap.size, 1, none⟩ (.int .i64 fa)).setCell ⟨w.heap.size, 2, none⟩ (.int .i64 fb)).setCell ⟨w.heap.size, 3, none⟩ (.slice A acc.length c)) := by
        intro a h1 h2
        refine bodyPost_ret (results_cell_row rfl _ _ _ 63 _ (0, 0) _ h1 B4 Tryd.underlying63 rfl (by kernel_rfl)) h2 ⟨⟨⟨kd, fa, fb, acc⟩, A, c⟩, rfl, ?_, ⟨?_, ?_⟩, ?_, ?_⟩
        · rw [HN.out, HE1.out, HGO.out, List.append_nil]
        · exact own_mono (own_keep HO.out GW (Nat.lt_succ_self _)) (Nat.le_succ _)
        · show acc.length ≤ 65536
          omega
        · rw [HN.out, HE2.out, HGO.out]
          exact HR.out.grown GW (fun j e => by have := Option.some.inj e; omega)
        · exact grown_own HG.out GW (fun j e => by have := Option.some.inj e; omega)
      clear B4 GW
      by_cases hk0 : 0 < k
      · have fk : decide ((0 : Int) < (k : Int)) = true := decide_eq_true (by omega)
        have hbad : st.2 = true := by
          cases hb : st.2
          · exact absurd ⟨hb, hk0⟩ hgo
          · rfl
        rw [hbad] at cb
        clear hbad hgo
        have HEND := Lib.hid END
        clear END
        go_wp2_with fail
        exact HEND.out _ rfl rfl
      · have fk : decide ((0 : Int) < (k : Int)) = false := decide_eq_false (by omega)
        clear hgo cb
        have HEND := Lib.hid END
        clear END
        go_wp2_with fail
        exact HEND.out _ rfl rfl
end Go.Proofs.YtiphicejaljhiaaDoor
