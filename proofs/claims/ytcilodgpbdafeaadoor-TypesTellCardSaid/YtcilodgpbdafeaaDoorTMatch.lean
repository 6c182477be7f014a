/- types.Match: is a type an instance of another one. -/
import Derived.Test.YtcilodgpbdafeaaDoorTAt
namespace Go.Proofs.YtcilodgpbdafeaaDoor
open Go.ChangeShapes Go.WideShapes Go.ChangeAt Go.RowKit
set_option linter.unusedVariables false
set_option linter.unusedSimpArgs false
def MatchEnd (a b : List Part) (W : World) (e : Ending) (W' : World) : Prop := ∃ r, e = .returned (.bool r) ∧ (r = true ↔ Inst a b) ∧ Below W.heap.size W W'
theorem inst_enc {S T : Ty} (wS : S.wf) (wT : T.wf) (zS : S.size ≤ 200) (zT : T.size ≤ 200) : Inst (enc 0 S) (enc 0 T) ↔ (mat S T fun _ => none).1 = true := by
  rw [mat_iff]
  constructor
  · rintro ⟨S', T', wS', wT', _, _, e1, e2, h⟩
    rw [enc_inj wS wS' e1, enc_inj wT wT' e2]
    exact h
  · intro h
    exact ⟨S, T, wS, wT, zS, zT, rfl, rfl, h⟩
theorem sD_none : sD (fun _ => none) = fun _ => none := rfl
set_option maxRecDepth 100000 in
set_option maxHeartbeats 4000000 in
theorem c16 (a b : List Part) (A A' : Option Addr) (c c' : Nat) (W : World) (ha : RT W A a) (hb : RT W A' b) :
    Calls Tryd.prog 16 #[.slice A a.length c, .slice A' b.length c'] W (MatchEnd a b W) := by
  have HA := Lib.hid ha
  have HB := Lib.hid hb
  clear ha hb
  have hmm := @run_makeMap Tryd.prog
  have hM0 : MatM ((W.alloc (.map #[] 0)).alloc (.cells #[.slice A a.length c, .slice A' b.length c', .map (some W.heap.size)] 49)) (W.heap.size + 1) W.heap.size A A' c c' a b :=
    ⟨by have h := Blk.new (W.alloc (.map #[] 0)) 49 #[.slice A a.length c, .slice A' b.length c', .map (some W.heap.size)]; rw [World.size_alloc] at h; exact h, (HA.out.next (below_new _ _)).next (below_new _ _), (HB.out.next (below_new _ _)).next (below_new _ _)⟩
  have hI0 : IMap ((W.alloc (.map #[] 0)).alloc (.cells #[.slice A a.length c, .slice A' b.length c', .map (some W.heap.size)] 49)) W.heap.size (sD fun _ => none) 0 := (IMap.made W).alloc _
  have hb0 : Below W.heap.size W ((W.alloc (.map #[] 0)).alloc (.cells #[.slice A a.length c, .slice A' b.length c', .map (some W.heap.size)] 49)) := (below_new W _).alloc (by rw [World.size_alloc]; omega) _
  have HM0 := Lib.hid hM0
  have HI0 := Lib.hid hI0
  have HB0 := Lib.hid hb0
  have hc := c13 a A c _ _ (HA.out.next HB0.out) (Nat.le_refl _)
  have HC := Lib.hid hc
  clear hM0 hI0 hb0 hc
  cases hga : gTy a with
  | false =>
    have HN := Lib.hid (show ¬ Inst a b from fun h => by rw [h.good.1] at hga; cases hga)
    rw [hga] at HC
    clear hga
    go_enter Tryd.func16, Tryd.ntmps16
    go_wp2_with fail
    refine HC.out.mono ?_
    rintro e w1 ⟨rfl, hb1⟩
    have HB1 := Lib.hid (next_ HB0.out hb1)
    clear hb1
    go_wp2_with fail
    go_ret
    exact ⟨false, rfl, ⟨fun h => (by cases h), fun h => (HN.out h).elim⟩, HB1.out⟩
  | true =>
    have HGA := Lib.hid hga
    rw [hga] at HC
    clear hga
    cases hgb : gTy b with
    | false =>
      have HN := Lib.hid (show ¬ Inst a b from fun h => by rw [h.good.2] at hgb; cases hgb)
      have HGB := Lib.hid hgb
      clear hgb
      go_enter Tryd.func16, Tryd.ntmps16
      go_wp2_with fail
      refine HC.out.mono ?_
      rintro e w1 ⟨rfl, hb1⟩
      have HB1 := Lib.hid (next_ HB0.out hb1)
      clear hb1
      go_wp2_with fail
      refine (c13 b A' c' w1.heap.size w1 (HB.out.next HB1.out) (Nat.le_refl _)).mono ?_
      rw [HGB.out]
      rintro e w2 ⟨rfl, hb2⟩
      have HB2 := Lib.hid (next_ HB1.out hb2)
      clear hb2
      go_wp2_with fail
      go_ret
      exact ⟨false, rfl, ⟨fun h => (by cases h), fun h => (HN.out h).elim⟩, HB2.out⟩
    | true =>
      have HGB := Lib.hid hgb
      clear hgb
      obtain ⟨S, wS, eS, zS⟩ := (gTy_iff a).1 HGA.out
      obtain ⟨T, wT, eT, zT⟩ := (gTy_iff b).1 HGB.out
      have hiff := inst_enc wS wT zS zT
      rw [← eS, ← eT] at hiff
      have HIff := Lib.hid hiff
      have WS := Lib.hid wS
      have WT := Lib.hid wT
      have hAS : At a S (a.length - 1) := by rw [eS]; exact enc_at S
      have hAT : At b T (b.length - 1) := by rw [eT]; exact enc_at T
      have la : a.length = S.size := by rw [eS, enc_len]
      have lb : b.length = T.size := by rw [eT, enc_len]
      obtain ⟨i, hi⟩ : ∃ i, a.length = i + 1 := ⟨a.length - 1, by have := S.size_pos; omega⟩
      obtain ⟨j, hj⟩ : ∃ j, b.length = j + 1 := ⟨b.length - 1, by have := T.size_pos; omega⟩
      rw [hi] at hAS
      rw [hj] at hAT
      have HAS := Lib.hid hAS
      have HAT := Lib.hid hAT
      have hi1 : (a.length : Int) - 1 = (i : Int) := by omega
      have hj1 : (b.length : Int) - 1 = (j : Int) := by omega
      have hib : i < 200 := by omega
      have hjb : j < 200 := by omega
      have hla : a.length ≤ 200 := by omega
      have hlb : b.length ≤ 200 := by omega
      clear hiff wS wT eS eT zS zT hAS hAT la lb hi hj
      go_enter Tryd.func16, Tryd.ntmps16
      go_wp2_with fail
      refine HC.out.mono ?_
      rintro e w1 ⟨rfl, hb1⟩
      have HB1 := Lib.hid (next_ HB0.out hb1)
      have HM1 := Lib.hid (HM0.out.next hb1)
      have HI1 := Lib.hid (HI0.out.next hb1)
      clear hb1
      go_wp2_with fail
      refine (c13 b A' c' w1.heap.size w1 (HB.out.next HB1.out) (Nat.le_refl _)).mono ?_
      rw [HGB.out]
      rintro e w2 ⟨rfl, hb2⟩
      have HB2 := Lib.hid (next_ HB1.out hb2)
      have HM2 := Lib.hid (HM1.out.next hb2)
      have HI2 := Lib.hid (HI1.out.next hb2)
      clear hb2
      go_wp2_with fail
      refine (c30 S.size S T i j w2 (fun _ => none) 0 (fun _ => none) (Nat.le_refl _) WS.out WT.out HAS.out HAT.out HM2.out HI2.out (fun n => .inl ⟨rfl, rfl⟩)).mono ?_
      rintro e w3 ⟨rfl, s3, n3, hg3, _, _⟩
      have HB3 := Lib.hid (HB2.out.grown hg3 HB2.out.size (fun k e => by injection e with e; omega))
      clear hg3
      generalize (mat S T fun _ => none).1 = r at HIff ⊢
      go_wp2_with fail
      go_ret
      exact ⟨r, rfl, HIff.out.symm, HB3.out⟩
end Go.Proofs.YtcilodgpbdafeaaDoor
