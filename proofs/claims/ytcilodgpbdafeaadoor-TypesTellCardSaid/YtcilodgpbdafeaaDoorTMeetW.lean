/- types.Meet: the most general common instance. -/
import Derived.Test.YtcilodgpbdafeaaDoorTGood
namespace Go.Proofs.YtcilodgpbdafeaaDoor
open Go.ChangeShapes Go.WideShapes Go.ChangeAt Go.RowKit
set_option linter.unusedVariables false
set_option linter.unusedSimpArgs false
/-- A slice reads as a type. -/
def RT (w : World) (A : Option Addr) (l : List Part) : Prop := Reads w w.heap.size 5 A l.length (l.flatMap partC)
theorem RT.next {w w' : World} {A : Option Addr} {l : List Part} (h : RT w A l) (hb : Below w.heap.size w w') : RT w' A l := (Reads.below h hb).more hb.size
theorem RT.drewN {w : World} {A : Option Addr} {l : List Part} (h : RT w A l) (n : Nat) : RT (w.drewN n) A l := h
theorem Den.mono {N N' : Nat → Option Nd} (hN : ∀ y d, N y = some d → N' y = some d) {g : Nat} {U : Ty} (h : Den N g U) : Den N' g U := by
  induction h with
  | to e1 e2 _ ih => exact .to (hN _ _ e1) e2 ih
  | var e1 e2 e3 e4 e5 e6 => exact .var (hN _ _ e1) e2 e3 e4 e5 e6
  | leaf e1 e2 e3 e4 e5 => exact .leaf (hN _ _ e1) e2 e3 e4 e5
  | one e1 e2 e3 e4 e5 e6 _ ih => exact .one (hN _ _ e1) e2 e3 e4 e5 e6 ih
  | two e1 e2 e3 e4 e5 e6 _ _ ih1 ih2 => exact .two (hN _ _ e1) e2 e3 e4 e5 e6 ih1 ih2
/-- Each part of a type that may be is what a tree begins with. -/
theorem good_at {l : List Part} (h : gTy l = true) : ∀ i, i < l.length → ∃ U : Ty, U.wf ∧ At l U i := by
  intro i hi
  unfold gTy at h
  cases hb : begs l [] with
  | none => rw [hb] at h; simp at h
  | some F =>
    have ht := told_nil.begs hb
    rw [List.nil_append] at ht
    obtain ⟨b, hb⟩ : ∃ b, F[i]? = some b := ⟨_, List.getElem?_eq_getElem (by rw [ht.1]; exact hi)⟩
    obtain ⟨U, h1, h2, _⟩ := ht.2 i b hb
    exact ⟨U, h1, h2⟩
theorem enc_at (T : Ty) : At (enc 0 T) T ((enc 0 T).length - 1) := by
  have h := at_enc T []
  rw [enc_len]
  simpa using h
theorem vs_wf (s : Int → Option Nat) : WfS (vs s) := fun n hn => by
  show (0 : Int) ≤ _
  exact Int.natCast_nonneg _
/-- The nodes of two terms, the second's behind the first's. -/
def bothN (m : Nat) (N1 N2 : Nat → Option Nd) : Nat → Option Nd := fun x => if x < m then N1 x else N2 x
theorem own_down {w : World} {base base' n size : Nat} {e : TypeId} {v : Value} {xs : List Value} (h : w.ownsRow base e size v n xs) (hb : base' ≤ base) : w.ownsRow base' e size v n xs := by
  rcases h.2 with ⟨rfl, rfl⟩ | ⟨g, cap, cur, rfl, h1, h2⟩
  · exact ⟨h.1, .inl ⟨rfl, rfl⟩⟩
  · exact ⟨h.1, .inr ⟨g, cap, cur, rfl, Nat.le_trans hb h1, h2⟩⟩
/-- What Meet hands back. -/
def MeetEnd (a b : List Part) (W : World) (e : Ending) (W' : World) : Prop :=
  ∃ r v, e = .returned (.tuple #[v, .bool (Option.isSome r)]) ∧ MeetR a b r ∧ Below W.heap.size W W' ∧ (∀ m, r = some m → W'.ownsRow W.heap.size 29 5 v m.length (m.flatMap partC)) ∧ (r = none → v = .slice none 0 0)
theorem MeetEnd.no {a b : List Part} {W W' : World} (h : MeetR a b none) (hb : Below W.heap.size W W') : MeetEnd a b W (.returned (.tuple #[.slice none 0 0, .bool false])) W' :=
  ⟨none, _, rfl, h, hb, fun m h => by (cases h), fun _ => rfl⟩
set_option maxRecDepth 100000 in
set_option maxHeartbeats 4000000 in
theorem c21 (a b : List Part) (A A' : Option Addr) (c c' : Nat) (W : World) (ha : RT W A a) (hb : RT W A' b) :
    Calls Tryd.prog 21 #[.slice A a.length c, .slice A' b.length c'] W (MeetEnd a b W) := by
  have HA := Lib.hid ha
  have HB := Lib.hid hb
  clear ha hb
  cases hga : gTy a with
  | false =>
    have HG := Lib.hid (meet_bad (a := a) (b := b) (.inl hga))
    have hc := c13 a A c W.heap.size W HA.out (Nat.le_refl _)
    rw [hga] at hc
    have HC := Lib.hid hc
    clear hc hga
    go_enter Tryd.func21, Tryd.ntmps21
    go_wp2_with fail
    refine HC.out.mono ?_
    rintro e w1 ⟨rfl, hb1⟩
    have HB1 := Lib.hid hb1
    clear hb1
    go_wp2_with fail
    go_ret2
    exact MeetEnd.no HG.out HB1.out
  | true =>
    have hc := c13 a A c W.heap.size W HA.out (Nat.le_refl _)
    rw [hga] at hc
    have HC := Lib.hid hc
    have HGA := Lib.hid hga
    clear hc hga
    cases hgb : gTy b with
    | false =>
      have HG := Lib.hid (meet_bad (a := a) (b := b) (.inr hgb))
      have HGB := Lib.hid hgb
      clear hgb
      go_enter Tryd.func21, Tryd.ntmps21
      go_wp2_with fail
      refine HC.out.mono ?_
      rintro e w1 ⟨rfl, hb1⟩
      have HB1 := Lib.hid hb1
      clear hb1
      go_wp2_with fail
      refine (c13 b A' c' w1.heap.size w1 (HB.out.next HB1.out) (Nat.le_refl _)).mono ?_
      rw [HGB.out]
      rintro e w2 ⟨rfl, hb2⟩
      have HB2 := Lib.hid (next_ HB1.out hb2)
      clear hb2
      go_wp2_with fail
      go_ret2
      exact MeetEnd.no HG.out HB2.out
    | true =>
      have HGB := Lib.hid hgb
      clear hgb
      obtain ⟨S0, wS, eS, zS⟩ := (gTy_iff a).1 HGA.out
      obtain ⟨T0, wT, eT, zT⟩ := (gTy_iff b).1 HGB.out
      have HS := Lib.hid (show S0.wf ∧ a = enc 0 S0 ∧ S0.size ≤ 200 from ⟨wS, eS, zS⟩)
      have HT := Lib.hid (show T0.wf ∧ b = enc 0 T0 ∧ T0.size ≤ 200 from ⟨wT, eT, zT⟩)
      have la : a.length = S0.size := by rw [eS, enc_len]
      have lb : b.length = T0.size := by rw [eT, enc_len]
      have pa := S0.size_pos
      have pb := T0.size_pos
      have HL := Lib.hid (show 0 < a.length ∧ a.length ≤ 1000 ∧ 0 < b.length ∧ b.length ≤ 1000 by omega)
      clear wS eS zS wT eT zT la lb pa pb
      go_enter Tryd.func21, Tryd.ntmps21
      go_wp2_with fail
      refine HC.out.mono ?_
      rintro e w1 ⟨rfl, hb1⟩
      have HB1 := Lib.hid hb1
      clear hb1
      go_wp2_with fail
      refine (c13 b A' c' w1.heap.size w1 (HB.out.next HB1.out) (Nat.le_refl _)).mono ?_
      rw [HGB.out]
      rintro e w2 ⟨rfl, hb2⟩
      have HB2 := Lib.hid (next_ HB1.out hb2)
      clear hb2
      go_wp2_with fail
      refine (c31 a (good_at HGA.out) HL.out.1 HL.out.2.1 A c w2.heap.size w2 (HA.out.next HB2.out) (Nat.le_refl _)).mono ?_
      rintro e w3 ⟨g1, N1, s1, V1, rfl, m1, n1, b1, d1, j1, r1, t1⟩
      have M1 := Lib.hid m1
      have N1n := Lib.hid n1
      have HB3 := Lib.hid (next_ HB2.out b1)
      have D1 := Lib.hid d1
      have J1 := Lib.hid j1
      have R1 := Lib.hid r1
      have T1 := Lib.hid (t1 S0 HS.out.1 (by rw [HS.out.2.1]; exact enc_at S0))
      have HB2s := HB2.out.size
      clear m1 n1 b1 d1 j1 r1 t1
      go_wp2_with fail
      refine (c31 b (good_at HGB.out) HL.out.2.2.1 HL.out.2.2.2 A' c' w3.heap.size w3 (HB.out.next HB3.out) (Nat.le_refl _)).mono ?_
      rintro e w4 ⟨g2, N2, s2, V2, rfl, m2, n2, b2, d2, j2, r2, t2⟩
      have M1' := M1.out.next b2
      have HB4 := Lib.hid (next_ HB3.out b2)
      have T2 := Lib.hid (t2 T0 HT.out.1 (by rw [HT.out.2.1]; exact enc_at T0))
      have lt1 : ∀ y, N1 y ≠ none → y < w3.heap.size := fun y hy => by
        cases hn : N1 y with
        | none => exact absurd hn hy
        | some d => exact M1.out.lt hn
      have hN1 : ∀ y d, N1 y = some d → bothN w3.heap.size N1 N2 y = some d := fun y d hy => by
        unfold bothN
        rw [if_pos (lt1 y (by rw [hy]; simp))]
        exact hy
      have hN2 : ∀ y d, N2 y = some d → bothN w3.heap.size N1 N2 y = some d := fun y d hy => by
        unfold bothN
        rw [if_neg (by have := n2 y (by rw [hy]; simp); omega)]
        exact hy
      have hmem : TMem w4 (bothN w3.heap.size N1 N2) := fun g d hd => by
        unfold bothN at hd
        split at hd
        · exact M1' g d hd
        · exact m2 g d hd
      have hnew : ∀ x, bothN w3.heap.size N1 N2 x ≠ none → W.heap.size ≤ x := fun x hx => by
        unfold bothN at hx
        split at hx
        · exact Nat.le_trans HB2s (N1n.out x hx)
        · have := n2 x hx
          have := HB3.out.size
          omega
      have hap : Apart S0 T0 (sub (vs s1) S0) (sub (vs s2) T0) V1 V2 (fun n => (((s1 n).getD 0 : Nat) : Int)) (fun n => (((s2 n).getD 0 : Nat) : Int)) := by
        have some1 : ∀ x ∈ V1, ∃ y, s1 x = some y := fun x hx => Option.isSome_iff_exists.1 ((D1.out x).2 hx)
        have some2 : ∀ x ∈ V2, ∃ y, s2 x = some y := fun x hx => Option.isSome_iff_exists.1 ((d2 x).2 hx)
        refine ⟨T1.out.1, T2.out.1, fun x hx y hy e => ?_, fun x hx y hy e => ?_, fun x hx y hy e => ?_, rfl, rfl⟩
        · obtain ⟨u, hu⟩ := some1 x hx
          obtain ⟨v, hv⟩ := some1 y hy
          simp only [hu, hv, Option.getD_some] at e
          have e : u = v := by omega
          exact J1.out x y u hu (e ▸ hv)
        · obtain ⟨u, hu⟩ := some2 x hx
          obtain ⟨v, hv⟩ := some2 y hy
          simp only [hu, hv, Option.getD_some] at e
          have e : u = v := by omega
          exact j2 x y u hu (e ▸ hv)
        · obtain ⟨u, hu⟩ := some1 x hx
          obtain ⟨v, hv⟩ := some2 y hy
          simp only [hu, hv, Option.getD_some] at e
          have h1 := lt1 u (R1.out x u hu)
          have h2 := n2 v (r2 y v hv)
          omega
      have HAp := Lib.hid hap
      have HMem := Lib.hid hmem
      have HNew := Lib.hid hnew
      have E1 := Lib.hid (T1.out.2.mono hN1)
      have E2 := Lib.hid (T2.out.2.mono hN2)
      clear m2 n2 b2 d2 j2 r2 t2 M1' lt1 hN1 hN2 hmem hnew hap
      generalize hS : sub (vs s1) S0 = S at HAp E1
      generalize hT : sub (vs s2) T0 = T at HAp E2
      have WS := Lib.hid (show S.wf from hS ▸ sub_wf (vs_wf s1) S0 HS.out.1)
      have WT := Lib.hid (show T.wf from hT ▸ sub_wf (vs_wf s2) T0 HT.out.1)
      have VS := Lib.hid (show vin (V1.map (fun n => (((s1 n).getD 0 : Nat) : Int)) ++ V2.map (fun n => (((s2 n).getD 0 : Nat) : Int))) S from hS ▸ vin_subF (L := V1) (fun x hx => List.mem_append_left _ (List.mem_map.2 ⟨x, hx, rfl⟩)) S0 HAp.out.va)
      have VT := Lib.hid (show vin (V1.map (fun n => (((s1 n).getD 0 : Nat) : Int)) ++ V2.map (fun n => (((s2 n).getD 0 : Nat) : Int))) T from hT ▸ vin_subF (L := V2) (fun x hx => List.mem_append_right _ (List.mem_map.2 ⟨x, hx, rfl⟩)) T0 HAp.out.vb)
      generalize V1.map (fun n => (((s1 n).getD 0 : Nat) : Int)) ++ V2.map (fun n => (((s2 n).getD 0 : Nat) : Int)) = L at VS VT
      generalize bothN w3.heap.size N1 N2 = N at HMem HNew E1 E2
      clear hS hT
      go_wp2_with fail
      refine (c32 L.length S.size N L g1 g2 S T w4 (Nat.le_refl _) (Nat.le_refl _) HMem.out E1.out E2.out WS.out WT.out VS.out VT.out).mono ?_
      rintro e w5 ⟨r, rfl, ht, hn, hy⟩
      have HB5 := Lib.hid (show Below W.heap.size W w5 from ⟨ht.os.trans HB4.out.os, ht.tape.trans HB4.out.tape, ht.output.trans HB4.out.output, Nat.le_trans HB4.out.size ht.size, fun k hk => (ht.block k (Nat.lt_of_lt_of_le hk HB4.out.size) (by
        cases hnk : N k with
        | none => rfl
        | some d => have := HNew.out k (by rw [hnk]; simp); omega)).trans (HB4.out.block k hk)⟩)
      have HNo := Lib.hid hn
      have HYes := Lib.hid hy
      clear ht hn hy
      cases r with
      | false =>
        have HR := Lib.hid (show MeetR a b none by rw [HS.out.2.1, HT.out.2.1]; exact meet_none HAp.out HS.out.1 HT.out.1 (.inl (HNo.out rfl)))
        go_wp2_with fail
        go_ret2
        exact MeetEnd.no HR.out HB5.out
      | true =>
        obtain ⟨θ, N', hm, hm5, _, hc, hwθ, _⟩ := HYes.out rfl
        have HM := Lib.hid hm
        have HM5 := Lib.hid hm5
        have HD := Lib.hid (hc _ _ E1.out)
        have HWf := Lib.hid (sub_wf hwθ S WS.out)
        clear hm hm5 hc hwθ
        by_cases hz : (sub θ S).size ≤ 200
        · have HZ := Lib.hid hz
          clear hz
          go_wp2_with fail
          refine (c33 w5 HM5.out HD.out HWf.out HZ.out).mono ?_
          rintro e w6 ⟨v, rfl, ho, hb6⟩
          have HO := Lib.hid ho
          have HB6 := Lib.hid (next_ HB5.out hb6)
          clear ho hb6
          go_wp2_with fail
          go_ret2
          refine ⟨some (norm (enc 0 (sub θ S))), v, rfl, ?_, HB6.out, fun m e => ?_, fun e => by (cases e)⟩
          · rw [HS.out.2.1, HT.out.2.1]
            exact meet_some HAp.out HS.out.1 HT.out.1 HS.out.2.2 HT.out.2.2 HM.out HWf.out HZ.out
          · injection e with e
            rw [← e]
            exact own_down HO.out HB5.out.size
        · have HZ := Lib.hid (show 200 < (sub θ S).size by omega)
          clear hz
          go_wp2_with fail
          refine (c33big w5 HM5.out HD.out HZ.out).mono ?_
          rintro e w6 ⟨rfl, hb6⟩
          have HB6 := Lib.hid (next_ HB5.out hb6)
          clear hb6
          have HR := Lib.hid (show MeetR a b none by rw [HS.out.2.1, HT.out.2.1]; exact meet_none HAp.out HS.out.1 HT.out.1 (.inr ⟨θ, HM.out, HZ.out⟩))
          go_wp2_with fail
          go_ret2
          exact MeetEnd.no HR.out HB6.out
end Go.Proofs.YtcilodgpbdafeaaDoor
