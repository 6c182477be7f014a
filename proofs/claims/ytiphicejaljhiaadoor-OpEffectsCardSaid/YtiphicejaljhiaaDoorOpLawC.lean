/- OpEffects: the walk. -/
import Derived.Test.YtiphicejaljhiaaDoorOpWakes
import Derived.Deep.QuietTactic
import Derived.BigQuiet
import Derived.Deep.RegionHeld3
namespace Go.Proofs.YtiphicejaljhiaaDoor
open Go.ChangeShapes Go.WideShapes Go.ChangeAt Go.RowKit
theorem rows_bd : ∀ k, k < 38 → (0 ≤ (opRow k).lv ∧ (opRow k).lv ≤ 1) ∧ (0 ≤ (opRow k).tk ∧ (opRow k).tk ≤ 30) := by decide +kernel
theorem b_bd : ∀ k, k < 38 → 0 ≤ (opRow k).b0 ∧ (opRow k).b1 ≤ 40 ∧ (k = 36 ∨ (opRow k).b1 ≤ 30) := by decide +kernel
theorem eff_bd {o a b : Int} (h : gGood o a b = true) : 0 ≤ gLeaves o ∧ gLeaves o ≤ 1 ∧ 0 ≤ gTakes o a b ∧ gTakes o a b ≤ 30 := by
  have hr : ¬ (o < 0 ∨ 38 ≤ o) := fun hh => by rw [gGood_no hh] at h; cases h
  obtain ⟨k, hk, rfl⟩ := of_nat o hr
  obtain ⟨⟨h1, h2⟩, h3, h4⟩ := rows_bd k hk
  obtain ⟨h5, h6, h7⟩ := b_bd k hk
  refine ⟨h1, h2, ?_⟩
  unfold gTakes
  rw [Int.toNat_natCast]
  split
  · rename_i hh
    unfold gGood at h
    rw [if_neg hr, if_neg (by omega)] at h
    have := of_decide_eq_true h
    rw [Int.toNat_natCast] at this
    omega
  · split
    · split
      · omega
      · split <;> omega
    · omega
theorem OpTab.drew {w : World} (h : OpTab w) : OpTab w.drew := h
structure Side (w0 w : World) : Prop where
  tab : OpTab w
  low : Below w0.heap.size w0 w
theorem Side.drew {w0 w : World} (h : Side w0 w) : Side w0 w.drew := ⟨h.tab, h.low.drew⟩
theorem Side.next {w0 w w' : World} (h : Side w0 w) (hb : Below w.heap.size w w') : Side w0 w' := ⟨h.tab.next hb, next_ h.low hb⟩
theorem keepS {w W W' : World} {o a b o' a' b' : Int} (h : Side w W ∧ w.heap.size < W.heap.size ∧ w.heap.size + 1 < W.heap.size ∧ W.cell? ⟨w.heap.size, 0, none⟩ = some (.int .i64 o) ∧ W.cell? ⟨w.heap.size, 1, none⟩ = some (.int .i64 a) ∧ W.cell? ⟨w.heap.size, 2, none⟩ = some (.int .i64 b) ∧ W.cell? ⟨w.heap.size + 1, 0, none⟩ = some (.int .i64 o') ∧ W.cell? ⟨w.heap.size + 1, 1, none⟩ = some (.int .i64 a') ∧ W.cell? ⟨w.heap.size + 1, 2, none⟩ = some (.int .i64 b')) (hb : Below W.heap.size W W') : Side w W' ∧ w.heap.size < W'.heap.size ∧ w.heap.size + 1 < W'.heap.size ∧ W'.cell? ⟨w.heap.size, 0, none⟩ = some (.int .i64 o) ∧ W'.cell? ⟨w.heap.size, 1, none⟩ = some (.int .i64 a) ∧ W'.cell? ⟨w.heap.size, 2, none⟩ = some (.int .i64 b) ∧ W'.cell? ⟨w.heap.size + 1, 0, none⟩ = some (.int .i64 o') ∧ W'.cell? ⟨w.heap.size + 1, 1, none⟩ = some (.int .i64 a') ∧ W'.cell? ⟨w.heap.size + 1, 2, none⟩ = some (.int .i64 b') := by
  obtain ⟨h1, h2, h3, h4, h5, h6, h7, h8, h9⟩ := h
  exact ⟨h1.next hb, Nat.lt_of_lt_of_le h2 hb.size, Nat.lt_of_lt_of_le h3 hb.size, (hb.cell h2).trans h4, (hb.cell h2).trans h5, (hb.cell h2).trans h6, (hb.cell h3).trans h7, (hb.cell h3).trans h8, (hb.cell h3).trans h9⟩
theorem drewS {w W : World} {o a b o' a' b' : Int} (h : Side w W ∧ w.heap.size < W.heap.size ∧ w.heap.size + 1 < W.heap.size ∧ W.cell? ⟨w.heap.size, 0, none⟩ = some (.int .i64 o) ∧ W.cell? ⟨w.heap.size, 1, none⟩ = some (.int .i64 a) ∧ W.cell? ⟨w.heap.size, 2, none⟩ = some (.int .i64 b) ∧ W.cell? ⟨w.heap.size + 1, 0, none⟩ = some (.int .i64 o') ∧ W.cell? ⟨w.heap.size + 1, 1, none⟩ = some (.int .i64 a') ∧ W.cell? ⟨w.heap.size + 1, 2, none⟩ = some (.int .i64 b')) : Side w W.drew ∧ w.heap.size < W.drew.heap.size ∧ w.heap.size + 1 < W.drew.heap.size ∧ W.drew.cell? ⟨w.heap.size, 0, none⟩ = some (.int .i64 o) ∧ W.drew.cell? ⟨w.heap.size, 1, none⟩ = some (.int .i64 a) ∧ W.drew.cell? ⟨w.heap.size, 2, none⟩ = some (.int .i64 b) ∧ W.drew.cell? ⟨w.heap.size + 1, 0, none⟩ = some (.int .i64 o') ∧ W.drew.cell? ⟨w.heap.size + 1, 1, none⟩ = some (.int .i64 a') ∧ W.drew.cell? ⟨w.heap.size + 1, 2, none⟩ = some (.int .i64 b') := ⟨h.1.drew, h.2⟩
theorem takes_any {o : Int} (h6 : ¬ o = 6) (h19 : ¬ o = 19) (h36 : ¬ o = 36) (a b a' b' : Int) : gTakes o a b = gTakes o a' b' := by
  unfold gTakes
  rw [if_neg (by omega), if_neg h36, if_neg (by omega), if_neg h36]
theorem takes_b {o a b : Int} (h : o = 6 ∨ o = 19) : gTakes o a b = b := if_pos h
theorem takes_host {a b b' : Int} : gTakes 36 a b = gTakes 36 a b' := rfl
set_option maxHeartbeats 2000000 in
theorem c5 (o a b o' a' b' : Int) (w : World) (ht : OpTab w) : Calls Tryd.prog 5 #[.agg #[.int .i64 o, .int .i64 a, .int .i64 b], .agg #[.int .i64 o', .int .i64 a', .int .i64 b']] w fun e w' => e = .returned (.bool true) ∧ Below w.heap.size w w' := by
  have tt : OpTab ((w.alloc (.cells #[.int .i64 o, .int .i64 a, .int .i64 b] 23)).alloc (.cells #[.int .i64 o', .int .i64 a', .int .i64 b'] 23)) := (ht.next (below_new _ _)).next (below_new _ _)
  cases hg : gGood o a b
  · cases hg' : gGood o' a' b'
    ·
      go_enter Tryd.func5, Tryd.ntmps5
      go_wp2_with fail
      refine (c15 _ _ _ _ tt).mono ?_
      rintro e w1 ⟨rfl, b1⟩
      have t1 := tt.next b1
      have B1 := Lib.hid (next_ (next_ (below_new _ _) (below_new _ _)) b1)
      have P1 := Blk.next ((Blk.new w 23 _).alloc _) b1
      have Q1 := Blk.next (Blk.new (w.alloc _) 23 _) b1
      simp only [World.size_alloc] at Q1
      have p0 := P1.cell 0
      have p1 := P1.cell 1
      have p2 := P1.cell 2
      have q0 := Q1.cell 0
      have q1 := Q1.cell 1
      have q2 := Q1.cell 2
      simp at p0 p1 p2 q0 q1 q2
      clear b1
      go_wp2_with fail
      refine (c15 _ _ _ _ t1).mono ?_
      rintro e w2 ⟨rfl, b2⟩
      have t2 := t1.next b2
      have B2 := Lib.hid (next_ B1.out b2)
      have P2 := P1.next b2
      have Q2 := Q1.next b2
      clear p0 p1 p2 q0 q1 q2
      have p0 := P2.cell 0
      have p1 := P2.cell 1
      have p2 := P2.cell 2
      have q0 := Q2.cell 0
      have q1 := Q2.cell 1
      have q2 := Q2.cell 2
      simp at p0 p1 p2 q0 q1 q2
      clear b2
      go_wp2_with fail
      refine (c17 _ _ _ _).mono ?_
      rintro e w3 ⟨rfl, b3⟩
      have t3 := t2.next b3
      have Q3 := Q2.next b3
      have q0 := Q3.cell 0
      have q1 := Q3.cell 1
      have q2 := Q3.cell 2
      simp at q0 q1 q2
      have B3 := Lib.hid (next_ B2.out b3)
      clear b3
      go_wp2_with fail
      refine (c17 _ _ _ _).mono ?_
      rintro e w4 ⟨rfl, b4⟩
      have t4 := t3.next b4
      have B4 := Lib.hid (next_ B3.out b4)
      clear b4
      go_wp2_with fail
      refine (c24 _ t4).mono ?_
      rintro e w5 ⟨rfl, b5⟩
      go_wp2_with fail
      go_ret
      exact ⟨rfl, next_ B4.out b5⟩
    ·
      go_enter Tryd.func5, Tryd.ntmps5
      go_wp2_with fail
      refine (c15 _ _ _ _ tt).mono ?_
      rintro e w1 ⟨rfl, b1⟩
      have t1 := tt.next b1
      have B1 := Lib.hid (next_ (next_ (below_new _ _) (below_new _ _)) b1)
      have P1 := Blk.next ((Blk.new w 23 _).alloc _) b1
      have Q1 := Blk.next (Blk.new (w.alloc _) 23 _) b1
      simp only [World.size_alloc] at Q1
      have p0 := P1.cell 0
      have p1 := P1.cell 1
      have p2 := P1.cell 2
      have q0 := Q1.cell 0
      have q1 := Q1.cell 1
      have q2 := Q1.cell 2
      simp at p0 p1 p2 q0 q1 q2
      clear b1
      go_wp2_with fail
      refine (c15 _ _ _ _ t1).mono ?_
      rintro e w2 ⟨rfl, b2⟩
      have t2 := t1.next b2
      have B2 := Lib.hid (next_ B1.out b2)
      have P2 := P1.next b2
      have Q2 := Q1.next b2
      clear p0 p1 p2 q0 q1 q2
      have p0 := P2.cell 0
      have p1 := P2.cell 1
      have p2 := P2.cell 2
      have q0 := Q2.cell 0
      have q1 := Q2.cell 1
      have q2 := Q2.cell 2
      simp at p0 p1 p2 q0 q1 q2
      clear b2
      go_wp2_with fail
      refine (c17 _ _ _ _).mono ?_
      rintro e w3 ⟨rfl, b3⟩
      have t3 := t2.next b3
      have Q3 := Q2.next b3
      have q0 := Q3.cell 0
      have q1 := Q3.cell 1
      have q2 := Q3.cell 2
      simp at q0 q1 q2
      have B3 := Lib.hid (next_ B2.out b3)
      clear b3
      go_wp2_with fail
      refine (c17 _ _ _ _).mono ?_
      rintro e w4 ⟨rfl, b4⟩
      have t4 := t3.next b4
      have B4 := Lib.hid (next_ B3.out b4)
      clear b4
      go_wp2_with fail
      refine (c24 _ t4).mono ?_
      rintro e w5 ⟨rfl, b5⟩
      go_wp2_with fail
      go_ret
      exact ⟨rfl, next_ B4.out b5⟩
  · cases hg' : gGood o' a' b'
    ·
      go_enter Tryd.func5, Tryd.ntmps5
      go_wp2_with fail
      refine (c15 _ _ _ _ tt).mono ?_
      rintro e w1 ⟨rfl, b1⟩
      have t1 := tt.next b1
      have B1 := Lib.hid (next_ (next_ (below_new _ _) (below_new _ _)) b1)
      have P1 := Blk.next ((Blk.new w 23 _).alloc _) b1
      have Q1 := Blk.next (Blk.new (w.alloc _) 23 _) b1
      simp only [World.size_alloc] at Q1
      have p0 := P1.cell 0
      have p1 := P1.cell 1
      have p2 := P1.cell 2
      have q0 := Q1.cell 0
      have q1 := Q1.cell 1
      have q2 := Q1.cell 2
      simp at p0 p1 p2 q0 q1 q2
      clear b1
      go_wp2_with fail
      refine (c15 _ _ _ _ t1).mono ?_
      rintro e w2 ⟨rfl, b2⟩
      have t2 := t1.next b2
      have B2 := Lib.hid (next_ B1.out b2)
      have P2 := P1.next b2
      have Q2 := Q1.next b2
      clear p0 p1 p2 q0 q1 q2
      have p0 := P2.cell 0
      have p1 := P2.cell 1
      have p2 := P2.cell 2
      have q0 := Q2.cell 0
      have q1 := Q2.cell 1
      have q2 := Q2.cell 2
      simp at p0 p1 p2 q0 q1 q2
      clear b2
      go_wp2_with fail
      refine (c17 _ _ _ _).mono ?_
      rintro e w3 ⟨rfl, b3⟩
      have t3 := t2.next b3
      have Q3 := Q2.next b3
      have q0 := Q3.cell 0
      have q1 := Q3.cell 1
      have q2 := Q3.cell 2
      simp at q0 q1 q2
      have B3 := Lib.hid (next_ B2.out b3)
      clear b3
      go_wp2_with fail
      refine (c17 _ _ _ _).mono ?_
      rintro e w4 ⟨rfl, b4⟩
      have t4 := t3.next b4
      have B4 := Lib.hid (next_ B3.out b4)
      clear b4
      go_wp2_with fail
      refine (c24 _ t4).mono ?_
      rintro e w5 ⟨rfl, b5⟩
      go_wp2_with fail
      go_ret
      exact ⟨rfl, next_ B4.out b5⟩
    · obtain ⟨l0, l1, k0, k1⟩ := eff_bd hg
      by_cases ho : o = o'
      · subst ho
        by_cases h6 : o = 6
        · subst h6
          have e1 := takes_b (o := 6) (a := a) (b := b) (by decide)
          have e2 : gLeaves 6 = 1 := rfl
          go_enter Tryd.func5, Tryd.ntmps5
          go_wp2_with fail
          refine (c15 _ _ _ _ tt).mono ?_
          rintro e w1 ⟨rfl, b1⟩
          have t1 := tt.next b1
          have B1 := Lib.hid (next_ (next_ (below_new _ _) (below_new _ _)) b1)
          have P1 := Blk.next ((Blk.new w 23 _).alloc _) b1
          have Q1 := Blk.next (Blk.new (w.alloc _) 23 _) b1
          simp only [World.size_alloc] at Q1
          have p0 := P1.cell 0
          have p1 := P1.cell 1
          have p2 := P1.cell 2
          have q0 := Q1.cell 0
          have q1 := Q1.cell 1
          have q2 := Q1.cell 2
          simp at p0 p1 p2 q0 q1 q2
          clear b1
          go_wp2_with fail
          refine (c15 _ _ _ _ t1).mono ?_
          rintro e w2 ⟨rfl, b2⟩
          have t2 := t1.next b2
          have B2 := Lib.hid (next_ B1.out b2)
          have P2 := P1.next b2
          have Q2 := Q1.next b2
          clear p0 p1 p2 q0 q1 q2
          have p0 := P2.cell 0
          have p1 := P2.cell 1
          have p2 := P2.cell 2
          have q0 := Q2.cell 0
          have q1 := Q2.cell 1
          have q2 := Q2.cell 2
          simp at p0 p1 p2 q0 q1 q2
          clear b2
          go_wp2_with fail
          refine (c24 _ t2).mono ?_
          rintro e w5 ⟨rfl, b5⟩
          go_wp2_with fail
          go_ret
          exact ⟨rfl, next_ B2.out b5⟩
        · by_cases h19 : o = 19
          · subst h19
            have e1 := takes_b (o := 19) (a := a) (b := b) (by decide)
            have e2 : gLeaves 19 = 1 := rfl
            go_enter Tryd.func5, Tryd.ntmps5
            go_wp2_with fail
            refine (c15 _ _ _ _ tt).mono ?_
            rintro e w1 ⟨rfl, b1⟩
            have t1 := tt.next b1
            have B1 := Lib.hid (next_ (next_ (below_new _ _) (below_new _ _)) b1)
            have P1 := Blk.next ((Blk.new w 23 _).alloc _) b1
            have Q1 := Blk.next (Blk.new (w.alloc _) 23 _) b1
            simp only [World.size_alloc] at Q1
            have p0 := P1.cell 0
            have p1 := P1.cell 1
            have p2 := P1.cell 2
            have q0 := Q1.cell 0
            have q1 := Q1.cell 1
            have q2 := Q1.cell 2
            simp at p0 p1 p2 q0 q1 q2
            clear b1
            go_wp2_with fail
            refine (c15 _ _ _ _ t1).mono ?_
            rintro e w2 ⟨rfl, b2⟩
            have t2 := t1.next b2
            have B2 := Lib.hid (next_ B1.out b2)
            have P2 := P1.next b2
            have Q2 := Q1.next b2
            clear p0 p1 p2 q0 q1 q2
            have p0 := P2.cell 0
            have p1 := P2.cell 1
            have p2 := P2.cell 2
            have q0 := Q2.cell 0
            have q1 := Q2.cell 1
            have q2 := Q2.cell 2
            simp at p0 p1 p2 q0 q1 q2
            clear b2
            go_wp2_with fail
            refine (c24 _ t2).mono ?_
            rintro e w5 ⟨rfl, b5⟩
            go_wp2_with fail
            go_ret
            exact ⟨rfl, next_ B2.out b5⟩
          · by_cases h36 : o = 36
            · subst h36
              have e2 : gLeaves 36 = 1 := rfl
              by_cases haa : a = a'
              · subst haa
                have e1 := takes_host (a := a) (b := b) (b' := b')
                go_enter Tryd.func5, Tryd.ntmps5
                go_wp2_with fail
                refine (c15 _ _ _ _ tt).mono ?_
                rintro e w1 ⟨rfl, b1⟩
                have t1 := tt.next b1
                have B1 := Lib.hid (next_ (next_ (below_new _ _) (below_new _ _)) b1)
                have P1 := Blk.next ((Blk.new w 23 _).alloc _) b1
                have Q1 := Blk.next (Blk.new (w.alloc _) 23 _) b1
                simp only [World.size_alloc] at Q1
                have p0 := P1.cell 0
                have p1 := P1.cell 1
                have p2 := P1.cell 2
                have q0 := Q1.cell 0
                have q1 := Q1.cell 1
                have q2 := Q1.cell 2
                simp at p0 p1 p2 q0 q1 q2
                clear b1
                go_wp2_with fail
                refine (c15 _ _ _ _ t1).mono ?_
                rintro e w2 ⟨rfl, b2⟩
                have t2 := t1.next b2
                have B2 := Lib.hid (next_ B1.out b2)
                have P2 := P1.next b2
                have Q2 := Q1.next b2
                clear p0 p1 p2 q0 q1 q2
                have p0 := P2.cell 0
                have p1 := P2.cell 1
                have p2 := P2.cell 2
                have q0 := Q2.cell 0
                have q1 := Q2.cell 1
                have q2 := Q2.cell 2
                simp at p0 p1 p2 q0 q1 q2
                clear b2
                go_wp2_with fail
                refine (c24 _ t2).mono ?_
                rintro e w5 ⟨rfl, b5⟩
                go_wp2_with fail
                go_ret
                exact ⟨rfl, next_ B2.out b5⟩
              · have haa' : (a != a') = true := by simpa using haa
                go_enter Tryd.func5, Tryd.ntmps5
                go_wp2_with fail
                refine (c15 _ _ _ _ tt).mono ?_
                rintro e w1 ⟨rfl, b1⟩
                have t1 := tt.next b1
                have B1 := Lib.hid (next_ (next_ (below_new _ _) (below_new _ _)) b1)
                have P1 := Blk.next ((Blk.new w 23 _).alloc _) b1
                have Q1 := Blk.next (Blk.new (w.alloc _) 23 _) b1
                simp only [World.size_alloc] at Q1
                have p0 := P1.cell 0
                have p1 := P1.cell 1
                have p2 := P1.cell 2
                have q0 := Q1.cell 0
                have q1 := Q1.cell 1
                have q2 := Q1.cell 2
                simp at p0 p1 p2 q0 q1 q2
                clear b1
                go_wp2_with fail
                refine (c15 _ _ _ _ t1).mono ?_
                rintro e w2 ⟨rfl, b2⟩
                have t2 := t1.next b2
                have B2 := Lib.hid (next_ B1.out b2)
                have P2 := P1.next b2
                have Q2 := Q1.next b2
                clear p0 p1 p2 q0 q1 q2
                have p0 := P2.cell 0
                have p1 := P2.cell 1
                have p2 := P2.cell 2
                have q0 := Q2.cell 0
                have q1 := Q2.cell 1
                have q2 := Q2.cell 2
                simp at p0 p1 p2 q0 q1 q2
                clear b2
                go_wp2_with fail
                refine (c24 _ t2).mono ?_
                rintro e w5 ⟨rfl, b5⟩
                go_wp2_with fail
                go_ret
                exact ⟨rfl, next_ B2.out b5⟩
            · have e1 := takes_any h6 h19 h36 a b a' b'
              have g6 : (o == 6) = false := by simpa using h6
              have g19 : (o == 19) = false := by simpa using h19
              have g36 : (o == 36) = false := by simpa using h36
              go_enter Tryd.func5, Tryd.ntmps5
              go_wp2_with fail
              refine (c15 _ _ _ _ tt).mono ?_
              rintro e w1 ⟨rfl, b1⟩
              have t1 := tt.next b1
              have B1 := Lib.hid (next_ (next_ (below_new _ _) (below_new _ _)) b1)
              have P1 := Blk.next ((Blk.new w 23 _).alloc _) b1
              have Q1 := Blk.next (Blk.new (w.alloc _) 23 _) b1
              simp only [World.size_alloc] at Q1
              have p0 := P1.cell 0
              have p1 := P1.cell 1
              have p2 := P1.cell 2
              have q0 := Q1.cell 0
              have q1 := Q1.cell 1
              have q2 := Q1.cell 2
              simp at p0 p1 p2 q0 q1 q2
              clear b1
              go_wp2_with fail
              refine (c15 _ _ _ _ t1).mono ?_
              rintro e w2 ⟨rfl, b2⟩
              have t2 := t1.next b2
              have B2 := Lib.hid (next_ B1.out b2)
              have P2 := P1.next b2
              have Q2 := Q1.next b2
              clear p0 p1 p2 q0 q1 q2
              have p0 := P2.cell 0
              have p1 := P2.cell 1
              have p2 := P2.cell 2
              have q0 := Q2.cell 0
              have q1 := Q2.cell 1
              have q2 := Q2.cell 2
              simp at p0 p1 p2 q0 q1 q2
              clear b2
              go_wp2_with fail
              have SD : Side w w2 ∧ w.heap.size < w2.heap.size ∧ w.heap.size + 1 < w2.heap.size ∧ w2.cell? ⟨w.heap.size, 0, none⟩ = some (.int .i64 o) ∧ w2.cell? ⟨w.heap.size, 1, none⟩ = some (.int .i64 a) ∧ w2.cell? ⟨w.heap.size, 2, none⟩ = some (.int .i64 b) ∧ w2.cell? ⟨w.heap.size + 1, 0, none⟩ = some (.int .i64 o) ∧ w2.cell? ⟨w.heap.size + 1, 1, none⟩ = some (.int .i64 a') ∧ w2.cell? ⟨w.heap.size + 1, 2, none⟩ = some (.int .i64 b') := ⟨⟨t2, B2.out⟩, P2.lt, Q2.lt, p0, p1, p2, q0, q1, q2⟩
              clear t2 B2 B1 P1 Q1 P2 Q2 p0 p1 p2 q0 q1 q2 t1
              go_region_held3 (fun w' => Side w w' ∧ w.heap.size < w'.heap.size ∧ w.heap.size + 1 < w'.heap.size ∧ w'.cell? ⟨w.heap.size, 0, none⟩ = some (.int .i64 o) ∧ w'.cell? ⟨w.heap.size, 1, none⟩ = some (.int .i64 a) ∧ w'.cell? ⟨w.heap.size, 2, none⟩ = some (.int .i64 b) ∧ w'.cell? ⟨w.heap.size + 1, 0, none⟩ = some (.int .i64 o) ∧ w'.cell? ⟨w.heap.size + 1, 1, none⟩ = some (.int .i64 a') ∧ w'.cell? ⟨w.heap.size + 1, 2, none⟩ = some (.int .i64 b')) (first | exact keepS (by assumption) hb | exact drewS (by assumption) | assumption)
               (first
               | (go_at_call 22; refine (c22 _ _ _ _).mono ?_; rintro e w' ⟨rfl, hb⟩)
               | (go_at_call 24; refine (c24 _ (Side.tab (w0 := w) (And.left (by assumption)))).mono ?_; rintro e w' ⟨rfl, hb⟩))
              go_wp2_with fail
              go_ret
              exact ⟨rfl, Side.low (w0 := w) (And.left (by assumption))⟩
      · have ho' : (o != o') = true := by simpa using ho
        go_enter Tryd.func5, Tryd.ntmps5
        go_wp2_with fail
        refine (c15 _ _ _ _ tt).mono ?_
        rintro e w1 ⟨rfl, b1⟩
        have t1 := tt.next b1
        have B1 := Lib.hid (next_ (next_ (below_new _ _) (below_new _ _)) b1)
        have P1 := Blk.next ((Blk.new w 23 _).alloc _) b1
        have Q1 := Blk.next (Blk.new (w.alloc _) 23 _) b1
        simp only [World.size_alloc] at Q1
        have p0 := P1.cell 0
        have p1 := P1.cell 1
        have p2 := P1.cell 2
        have q0 := Q1.cell 0
        have q1 := Q1.cell 1
        have q2 := Q1.cell 2
        simp at p0 p1 p2 q0 q1 q2
        clear b1
        go_wp2_with fail
        refine (c15 _ _ _ _ t1).mono ?_
        rintro e w2 ⟨rfl, b2⟩
        have t2 := t1.next b2
        have B2 := Lib.hid (next_ B1.out b2)
        have P2 := P1.next b2
        have Q2 := Q1.next b2
        clear p0 p1 p2 q0 q1 q2
        have p0 := P2.cell 0
        have p1 := P2.cell 1
        have p2 := P2.cell 2
        have q0 := Q2.cell 0
        have q1 := Q2.cell 1
        have q2 := Q2.cell 2
        simp at p0 p1 p2 q0 q1 q2
        clear b2
        go_wp2_with fail
        refine (c24 _ t2).mono ?_
        rintro e w5 ⟨rfl, b5⟩
        go_wp2_with fail
        go_ret
        exact ⟨rfl, next_ B2.out b5⟩
end Go.Proofs.YtiphicejaljhiaaDoor
