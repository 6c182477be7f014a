/- OpTells: the walk. -/
import Derived.Test.YtiphicejaljhiaaDoorOpWakes
import Derived.Deep.RegionHeld3
namespace Go.Proofs.YtiphicejaljhiaaDoor
open Go.ChangeShapes Go.WideShapes Go.ChangeAt Go.RowKit
theorem OpTab.drew {w : World} (h : OpTab w) : OpTab w.drew := h
/-- What a law carries from call to call: the table, and that of old memory nothing has turned. -/
structure Side (w0 w : World) : Prop where
  tab : OpTab w
  low : Below w0.heap.size w0 w
theorem Side.drew {w0 w : World} (h : Side w0 w) : Side w0 w.drew := ⟨h.tab, h.low.drew⟩
theorem Side.next {w0 w w' : World} (h : Side w0 w) (hb : Below w.heap.size w w') : Side w0 w' := ⟨h.tab.next hb, next_ h.low hb⟩
/-- What the law's loop has found among the first k names. -/
def Found (s : List UInt8) (k : Nat) (x : Int) : Prop := (NoneTo s k ∧ x = -1) ∨ ∃ j : Nat, j < k ∧ gOf s = some j ∧ x = (j : Int)
theorem nm_inj : ∀ j, j < 38 → ∀ k, k < 38 → ((opRow j).nm == (opRow k).nm) = true → j = k := by decide +kernel
theorem gOf_nm {s : List UInt8} {j : Nat} (h : gOf s = some j) : j < 38 ∧ (opRow j).nm = s := by
  unfold gOf at h
  rw [List.findIdx?_eq_some_iff_getElem] at h
  obtain ⟨hj, hp, _⟩ := h
  rw [opRow_at hj] at hp
  exact ⟨hj, by simpa using hp⟩
theorem found_yes {s : List UInt8} {k : Nat} {x : Int} (hk : k < 38) (h : Found s k x) (h2 : ((opRow k).nm == s) = true) : Found s (k + 1) (k : Int) := by
  rcases h with ⟨hn, _⟩ | ⟨j, hj, hg, _⟩
  · exact .inr ⟨k, by omega, gOf_yes hk hn h2, rfl⟩
  · obtain ⟨hj2, hs⟩ := gOf_nm hg
    have : j = k := nm_inj j hj2 k hk (by rw [hs]; simpa [BEq.comm] using h2)
    omega
theorem found_no {s : List UInt8} {k : Nat} {x : Int} (h : Found s k x) (h2 : ((opRow k).nm == s) = false) : Found s (k + 1) x := by
  rcases h with ⟨hn, hx⟩ | ⟨j, hj, hg, hx⟩
  · exact .inl ⟨noneTo_succ hn h2, hx⟩
  · exact .inr ⟨j, by omega, hg, hx⟩
theorem found_end {s : List UInt8} {x : Int} (h : Found s 38 x) : ((gOf s).isSome == decide (0 ≤ x)) = true ∧ (if 0 < x then x else 0) = (((gOf s).getD 0 : Nat) : Int) := by
  rcases h with ⟨hn, rfl⟩ | ⟨j, _, hg, rfl⟩
  · rw [gOf_no hn]
    exact ⟨rfl, rfl⟩
  · rw [hg]
    refine ⟨by simp, ?_⟩
    simp
    omega
theorem keepS {w w2 W W' : World} {o a b f s : Int} (h : Side w W ∧ w.heap.size < W.heap.size ∧ w2.heap.size < W.heap.size ∧ W.cell? ⟨w.heap.size, 0, none⟩ = some (.int .i64 o) ∧ W.cell? ⟨w.heap.size, 1, none⟩ = some (.int .i64 a) ∧ W.cell? ⟨w.heap.size, 2, none⟩ = some (.int .i64 b) ∧ W.cell? ⟨w2.heap.size, 0, none⟩ = some (.int .i64 f) ∧ W.cell? ⟨w2.heap.size, 1, none⟩ = some (.int .i64 s)) (hb : Below W.heap.size W W') : Side w W' ∧ w.heap.size < W'.heap.size ∧ w2.heap.size < W'.heap.size ∧ W'.cell? ⟨w.heap.size, 0, none⟩ = some (.int .i64 o) ∧ W'.cell? ⟨w.heap.size, 1, none⟩ = some (.int .i64 a) ∧ W'.cell? ⟨w.heap.size, 2, none⟩ = some (.int .i64 b) ∧ W'.cell? ⟨w2.heap.size, 0, none⟩ = some (.int .i64 f) ∧ W'.cell? ⟨w2.heap.size, 1, none⟩ = some (.int .i64 s) := by
  obtain ⟨h1, h2, h3, h4, h5, h6, h7, h8⟩ := h
  exact ⟨h1.next hb, Nat.lt_of_lt_of_le h2 hb.size, Nat.lt_of_lt_of_le h3 hb.size, (hb.cell h2).trans h4, (hb.cell h2).trans h5, (hb.cell h2).trans h6, (hb.cell h3).trans h7, (hb.cell h3).trans h8⟩
theorem drewS {w w2 W : World} {o a b f s : Int} (h : Side w W ∧ w.heap.size < W.heap.size ∧ w2.heap.size < W.heap.size ∧ W.cell? ⟨w.heap.size, 0, none⟩ = some (.int .i64 o) ∧ W.cell? ⟨w.heap.size, 1, none⟩ = some (.int .i64 a) ∧ W.cell? ⟨w.heap.size, 2, none⟩ = some (.int .i64 b) ∧ W.cell? ⟨w2.heap.size, 0, none⟩ = some (.int .i64 f) ∧ W.cell? ⟨w2.heap.size, 1, none⟩ = some (.int .i64 s)) : Side w W.drew ∧ w.heap.size < W.drew.heap.size ∧ w2.heap.size < W.drew.heap.size ∧ W.drew.cell? ⟨w.heap.size, 0, none⟩ = some (.int .i64 o) ∧ W.drew.cell? ⟨w.heap.size, 1, none⟩ = some (.int .i64 a) ∧ W.drew.cell? ⟨w.heap.size, 2, none⟩ = some (.int .i64 b) ∧ W.drew.cell? ⟨w2.heap.size, 0, none⟩ = some (.int .i64 f) ∧ W.drew.cell? ⟨w2.heap.size, 1, none⟩ = some (.int .i64 s) :=
  ⟨h.1.drew, h.2⟩
set_option maxHeartbeats 2000000 in
theorem c3 (o a b : Int) (s : ByteArray) (w : World) (ht : OpTab w) : Calls Tryd.prog 3 #[.agg #[.int .i64 o, .int .i64 a, .int .i64 b], .string s] w fun e w' => e = .returned (.bool true) ∧ Below w.heap.size w w' := by
  have ht1 : OpTab (w.alloc (.cells #[.int .i64 o, .int .i64 a, .int .i64 b] 23)) := ht.next (below_new _ _)
  have hz := ht.1
  cases hg : gGood o a b
  ·
    go_enter Tryd.func3, Tryd.ntmps3
    go_wp2_with fail
    refine (c15 _ _ _ _ ht1).mono ?_
    rintro e w1 ⟨rfl, b1⟩
    have t1 := ht1.next b1
    have B1 := Lib.hid (next_ (below_new _ _) b1)
    have P1 := (Blk.new w 23 #[.int .i64 o, .int .i64 a, .int .i64 b]).next b1
    have p0 := P1.cell 0
    have p1 := P1.cell 1
    have p2 := P1.cell 2
    simp at p0 p1 p2
    clear b1 ht ht1
    go_wp2_with fail
    refine (c16 _ _ _ _).mono ?_
    rintro e w2 ⟨rfl, b2⟩
    have t2 := t1.next b2
    have B2 := Lib.hid (next_ B1.out b2)
    have P2 := P1.next b2
    have q0 := P2.cell 0
    have q1 := P2.cell 1
    have q2 := P2.cell 2
    simp at q0 q1 q2
    have z2 := P2.lt
    have hA := allocb
    clear b2 t1 P1 p0 p1 p2
    unfold effV
    go_wp2_with fail
    refine (c17 _ _ _ _).mono ?_
    rintro e w3 ⟨rfl, b3⟩
    have t3 := (t2.next (below_new _ _)).next b3
    have B3 := Lib.hid (next_ (next_ B2.out (below_new _ _)) b3)
    have P3 := (P2.alloc (.cells #[.int .i64 (rEff o a b).fst, .int .i64 (rEff o a b).snd] 27)).next b3
    have E3 := (Blk.new w2 27 #[.int .i64 (rEff o a b).fst, .int .i64 (rEff o a b).snd]).next b3
    have Z2 := Lib.hid z2
    have r0 := P3.cell 0
    have r1 := P3.cell 1
    have r2 := P3.cell 2
    have e0 := E3.cell 0
    have e1 := E3.cell 1
    have f0 := E3.frozen 0
    have f1 := E3.frozen 1
    simp at r0 r1 r2 e0 e1
    have z3 := P3.lt
    have y3 := E3.lt
    clear b3 t2 P2 q0 q1 q2
    go_wp2_with fail
    have E4 : Blk ((w3.setCell ⟨w2.heap.size, 0, none⟩ (.int .i64 0)).setCell ⟨w2.heap.size, 1, none⟩ (.int .i64 0)) w2.heap.size 27 #[.int .i64 0, .int .i64 0] := (E3.set_ 0 (.int .i64 0)).set_ 1 (.int .i64 0)
    have P4 : Blk ((w3.setCell ⟨w2.heap.size, 0, none⟩ (.int .i64 0)).setCell ⟨w2.heap.size, 1, none⟩ (.int .i64 0)) w.heap.size 23 _ := (P3.far (p := ⟨w2.heap.size, 0, none⟩) (by have := Z2.out; simp; omega) _).far (p := ⟨w2.heap.size, 1, none⟩) (by have := Z2.out; simp; omega) _
    have T4 : OpTab ((w3.setCell ⟨w2.heap.size, 0, none⟩ (.int .i64 0)).setCell ⟨w2.heap.size, 1, none⟩ (.int .i64 0)) := t3.below (((Below.refl w.heap.size _).setCell (p := ⟨w2.heap.size, 0, none⟩) (by have := Z2.out; simp; omega) _).setCell (p := ⟨w2.heap.size, 1, none⟩) (by have := Z2.out; simp; omega) _) hz
    have B4 := Lib.hid ((B3.out.setCell (p := ⟨w2.heap.size, 0, none⟩) (by have := Z2.out; simp; omega) (.int .i64 0)).setCell (p := ⟨w2.heap.size, 1, none⟩) (by have := Z2.out; simp; omega) (.int .i64 0))
    clear B3
    generalize hW : (w3.setCell ⟨w2.heap.size, 0, none⟩ (.int .i64 0)).setCell ⟨w2.heap.size, 1, none⟩ (.int .i64 0) = W at *
    clear hW
    clear t3 B2 B1 P3 E3 r0 r1 r2 e0 e1 f0 f1
    go_loop [9, 10] (fun x i => ∃ (k : Nat) (z : Int), k ≤ 38 ∧ i = .int .i64 k ∧ x = .int .i64 z ∧ Found s.toList k z) (fun _ i => 38 - (intOf i).toNat)
    case atStart => exact ⟨0, -1, by omega, rfl, rfl, .inl ⟨fun j hj => by omega, rfl⟩⟩
    case round =>
      obtain ⟨k, z, hk, rfl, rfl, hf⟩ := hrel
      have HF := Lib.hid hf
      clear hf
      by_cases hlt : k < 38
      · have hl : (k : Int) < 38 := by omega
        have hn := gName_yes hlt
        go_wp2_with (go_at_call 18; refine (c18 _ _).mono ?_; rintro e w' ⟨rfl, rfl⟩)
        · have h2 : ((opRow k).nm == s.toList) = true := by assumption
          go_round
          case rel => exact ⟨k + 1, k, by omega, by go_num, rfl, found_yes hlt HF.out h2⟩
          case measure => simp [intOf]; omega
        · have h2 : ((opRow k).nm == s.toList) = false := by assumption
          go_round
          case rel => exact ⟨k + 1, z, by omega, by go_num, rfl, found_no HF.out h2⟩
          case measure => simp [intOf]; omega
      · have hl : ¬ (k : Int) < 38 := by omega
        obtain rfl : k = 38 := by omega
        obtain ⟨hgo, hmx⟩ := found_end HF.out
        go_wp2_with fail
        refine (c19 _ _ T4).mono ?_
        rintro e w5 ⟨rfl, b5⟩
        have T5 := T4.next b5
        have B5 := next_ B4.out b5
        have P5 := P4.next b5
        have E5 := E4.next b5
        have s0 := P5.cell 0
        have s1 := P5.cell 1
        have s2 := P5.cell 2
        have u0 := E5.cell 0
        have u1 := E5.cell 1
        simp at s0 s1 s2 u0 u1
        have y5 := P5.lt
        have z5 := E5.lt
        have SD : Side w w5 ∧ w.heap.size < w5.heap.size ∧ w2.heap.size < w5.heap.size ∧ w5.cell? ⟨w.heap.size, 0, none⟩ = some (.int .i64 o) ∧ w5.cell? ⟨w.heap.size, 1, none⟩ = some (.int .i64 a) ∧ w5.cell? ⟨w.heap.size, 2, none⟩ = some (.int .i64 b) ∧ w5.cell? ⟨w2.heap.size, 0, none⟩ = some (.int .i64 0) ∧ w5.cell? ⟨w2.heap.size, 1, none⟩ = some (.int .i64 0) := ⟨⟨T5, B5⟩, y5, z5, s0, s1, s2, u0, u1⟩
        clear b5 T4 P4 E4 HF T5 B5 P5 E5 s0 s1 s2 u0 u1
        go_wp2_with fail
        go_region_held3 (fun w' => Side w w' ∧ w.heap.size < w'.heap.size ∧ w2.heap.size < w'.heap.size ∧ w'.cell? ⟨w.heap.size, 0, none⟩ = some (.int .i64 o) ∧ w'.cell? ⟨w.heap.size, 1, none⟩ = some (.int .i64 a) ∧ w'.cell? ⟨w.heap.size, 2, none⟩ = some (.int .i64 b) ∧ w'.cell? ⟨w2.heap.size, 0, none⟩ = some (.int .i64 0) ∧ w'.cell? ⟨w2.heap.size, 1, none⟩ = some (.int .i64 0)) (first | exact keepS (by assumption) hb | exact drewS (by assumption) | assumption)
          (first
          | (go_at_call 20; refine (c20 _ _ (Side.tab (w0 := w) (And.left (by assumption)))).mono ?_; rintro e w' ⟨rfl, rfl⟩)
          | (go_at_call 18; refine (c18 _ _).mono ?_; rintro e w' ⟨rfl, rfl⟩)
          | (go_at_call 21; refine (c21 _ _ _ _ (Side.tab (w0 := w) (And.left (by assumption)))).mono ?_; rintro e w' ⟨rfl, hb⟩)
          | (go_at_call 17; refine (c17 _ _ _ _).mono ?_; rintro e w' ⟨rfl, hb⟩)
          | (go_at_call 22; refine (c22 _ _ _ _).mono ?_; rintro e w' ⟨rfl, hb⟩)
          | (go_at_call 23; refine (c23 _ _ _ _).mono ?_; rintro e w' ⟨rfl, hb⟩)
          | (go_at_call 24; refine (c24 _ (Side.tab (w0 := w) (And.left (by assumption)))).mono ?_; rintro e w' ⟨rfl, hb⟩))
        go_wp2_with fail
        go_ret
        exact ⟨rfl, Side.low (w0 := w) (And.left (by assumption))⟩
  ·
    go_enter Tryd.func3, Tryd.ntmps3
    go_wp2_with fail
    refine (c15 _ _ _ _ ht1).mono ?_
    rintro e w1 ⟨rfl, b1⟩
    have t1 := ht1.next b1
    have B1 := Lib.hid (next_ (below_new _ _) b1)
    have P1 := (Blk.new w 23 #[.int .i64 o, .int .i64 a, .int .i64 b]).next b1
    have p0 := P1.cell 0
    have p1 := P1.cell 1
    have p2 := P1.cell 2
    simp at p0 p1 p2
    clear b1 ht ht1
    go_wp2_with fail
    refine (c16 _ _ _ _).mono ?_
    rintro e w2 ⟨rfl, b2⟩
    have t2 := t1.next b2
    have B2 := Lib.hid (next_ B1.out b2)
    have P2 := P1.next b2
    have q0 := P2.cell 0
    have q1 := P2.cell 1
    have q2 := P2.cell 2
    simp at q0 q1 q2
    have z2 := P2.lt
    have hA := allocb
    clear b2 t1 P1 p0 p1 p2
    have hre := rEff_good hg
    rw [hre]
    unfold effV
    dsimp only
    go_wp2_with fail
    refine (c17 _ _ _ _).mono ?_
    rintro e w3 ⟨rfl, b3⟩
    have t3 := (t2.next (below_new _ _)).next b3
    have B3 := Lib.hid (next_ (next_ B2.out (below_new _ _)) b3)
    have P3 := (P2.alloc (.cells #[.int .i64 (gTakes o a b), .int .i64 (gLeaves o)] 27)).next b3
    have E3 := (Blk.new w2 27 #[.int .i64 (gTakes o a b), .int .i64 (gLeaves o)]).next b3
    have Z2 := Lib.hid z2
    have r0 := P3.cell 0
    have r1 := P3.cell 1
    have r2 := P3.cell 2
    have e0 := E3.cell 0
    have e1 := E3.cell 1
    have f0 := E3.frozen 0
    have f1 := E3.frozen 1
    simp at r0 r1 r2 e0 e1
    have z3 := P3.lt
    have y3 := E3.lt
    clear b3 t2 P2 q0 q1 q2
    go_wp2_with fail
    have E4 := E3
    have P4 := P3
    have T4 := t3
    have B4 := B3
    clear B3
    clear t3 B2 B1 P3 E3 r0 r1 r2 e0 e1 f0 f1
    go_loop [9, 10] (fun x i => ∃ (k : Nat) (z : Int), k ≤ 38 ∧ i = .int .i64 k ∧ x = .int .i64 z ∧ Found s.toList k z) (fun _ i => 38 - (intOf i).toNat)
    case atStart => exact ⟨0, -1, by omega, rfl, rfl, .inl ⟨fun j hj => by omega, rfl⟩⟩
    case round =>
      obtain ⟨k, z, hk, rfl, rfl, hf⟩ := hrel
      have HF := Lib.hid hf
      clear hf
      by_cases hlt : k < 38
      · have hl : (k : Int) < 38 := by omega
        have hn := gName_yes hlt
        go_wp2_with (go_at_call 18; refine (c18 _ _).mono ?_; rintro e w' ⟨rfl, rfl⟩)
        · have h2 : ((opRow k).nm == s.toList) = true := by assumption
          go_round
          case rel => exact ⟨k + 1, k, by omega, by go_num, rfl, found_yes hlt HF.out h2⟩
          case measure => simp [intOf]; omega
        · have h2 : ((opRow k).nm == s.toList) = false := by assumption
          go_round
          case rel => exact ⟨k + 1, z, by omega, by go_num, rfl, found_no HF.out h2⟩
          case measure => simp [intOf]; omega
      · have hl : ¬ (k : Int) < 38 := by omega
        obtain rfl : k = 38 := by omega
        obtain ⟨hgo, hmx⟩ := found_end HF.out
        go_wp2_with fail
        refine (c19 _ _ T4).mono ?_
        rintro e w5 ⟨rfl, b5⟩
        have T5 := T4.next b5
        have B5 := next_ B4.out b5
        have P5 := P4.next b5
        have E5 := E4.next b5
        have s0 := P5.cell 0
        have s1 := P5.cell 1
        have s2 := P5.cell 2
        have u0 := E5.cell 0
        have u1 := E5.cell 1
        simp at s0 s1 s2 u0 u1
        have y5 := P5.lt
        have z5 := E5.lt
        have SD : Side w w5 ∧ w.heap.size < w5.heap.size ∧ w2.heap.size < w5.heap.size ∧ w5.cell? ⟨w.heap.size, 0, none⟩ = some (.int .i64 o) ∧ w5.cell? ⟨w.heap.size, 1, none⟩ = some (.int .i64 a) ∧ w5.cell? ⟨w.heap.size, 2, none⟩ = some (.int .i64 b) ∧ w5.cell? ⟨w2.heap.size, 0, none⟩ = some (.int .i64 (gTakes o a b)) ∧ w5.cell? ⟨w2.heap.size, 1, none⟩ = some (.int .i64 (gLeaves o)) := ⟨⟨T5, B5⟩, y5, z5, s0, s1, s2, u0, u1⟩
        clear b5 T4 P4 E4 HF T5 B5 P5 E5 s0 s1 s2 u0 u1
        go_wp2_with fail
        go_region_held3 (fun w' => Side w w' ∧ w.heap.size < w'.heap.size ∧ w2.heap.size < w'.heap.size ∧ w'.cell? ⟨w.heap.size, 0, none⟩ = some (.int .i64 o) ∧ w'.cell? ⟨w.heap.size, 1, none⟩ = some (.int .i64 a) ∧ w'.cell? ⟨w.heap.size, 2, none⟩ = some (.int .i64 b) ∧ w'.cell? ⟨w2.heap.size, 0, none⟩ = some (.int .i64 (gTakes o a b)) ∧ w'.cell? ⟨w2.heap.size, 1, none⟩ = some (.int .i64 (gLeaves o))) (first | exact keepS (by assumption) hb | exact drewS (by assumption) | assumption)
          (first
          | (go_at_call 20; refine (c20 _ _ (Side.tab (w0 := w) (And.left (by assumption)))).mono ?_; rintro e w' ⟨rfl, rfl⟩)
          | (go_at_call 18; refine (c18 _ _).mono ?_; rintro e w' ⟨rfl, rfl⟩)
          | (go_at_call 21; refine (c21 _ _ _ _ (Side.tab (w0 := w) (And.left (by assumption)))).mono ?_; rintro e w' ⟨rfl, hb⟩)
          | (go_at_call 17; refine (c17 _ _ _ _).mono ?_; rintro e w' ⟨rfl, hb⟩)
          | (go_at_call 22; refine (c22 _ _ _ _).mono ?_; rintro e w' ⟨rfl, hb⟩)
          | (go_at_call 23; refine (c23 _ _ _ _).mono ?_; rintro e w' ⟨rfl, hb⟩)
          | (go_at_call 24; refine (c24 _ (Side.tab (w0 := w) (And.left (by assumption)))).mono ?_; rintro e w' ⟨rfl, hb⟩))
        go_wp2_with fail
        go_ret
        exact ⟨rfl, Side.low (w0 := w) (And.left (by assumption))⟩
end Go.Proofs.YtiphicejaljhiaaDoor
