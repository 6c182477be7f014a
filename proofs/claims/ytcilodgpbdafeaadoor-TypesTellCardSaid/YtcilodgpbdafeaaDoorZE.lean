/- The document's Normal and Meet. -/
import Derived.Test.YtcilodgpbdafeaaDoorZD
import Derived.Test.YtcilodgpbdafeaaDoorZC
import Derived.Test.YtcilodgpbdafeaaDoorTLawO
import Derived.Test.YtcilodgpbdafeaaDoorTReg
import Derived.Test.YtcilodgpbdafeaaDoorTSame
import Derived.Test.YtcilodgpbdafeaaDoorZA
namespace Go.Proofs.YtcilodgpbdafeaaDoor
open Go.ChangeShapes Go.WideShapes Go.ChangeAt Go.RowKit
set_option linter.unusedVariables false
set_option linter.unusedSimpArgs false
theorem PoolM.new (W : World) : PoolM (W.alloc (.cells #[.slice none 0 0] 58)) W.heap.size W.heap.size none 0 [] :=
  ⟨Blk.new W 58 _, ⟨rfl, .inl ⟨rfl, rfl⟩⟩, Nat.le_refl _, fun x hx => (by cases hx), by simp⟩
theorem vs_size (s : Int → Option Nat) (T : Ty) : (sub (vs s) T).size = T.size := by
  induction T with
  | leaf k t => rfl
  | var n => rfl
  | one k t ih => show (sub _ t).size + 1 = _; rw [ih]; rfl
  | two k t u ih1 ih2 => show (sub _ t).size + (sub _ u).size + 1 = _; rw [ih1, ih2]; rfl
theorem vin_nums (T : Ty) : ∀ (o : Nat) (V : List Int), T.wf → vin V T → ∀ p ∈ enc o T, p.k = 11 → p.n ∈ V := by
  induction T with
  | leaf k t => intro o V hw _ p hp hk; rw [List.mem_singleton.1 hp] at hk; simp only [Ty.wf] at hw; simp only at hk; exfalso; omega
  | var n => intro o V _ h p hp _; rw [List.mem_singleton.1 hp]; exact h
  | one k s ih =>
    intro o V hw h p hp hk
    rcases List.mem_append.1 hp with hp | hp
    · exact ih o V hw.2 h p hp hk
    · rw [List.mem_singleton.1 hp] at hk; have := hw.1; simp only at hk; exfalso; omega
  | two k s u ih1 ih2 =>
    intro o V hw h p hp hk
    rcases List.mem_append.1 hp with hp | hp
    · rcases List.mem_append.1 hp with hp | hp
      · exact ih1 o V hw.2.1 h.1 p hp hk
      · exact ih2 _ V hw.2.2 h.2 p hp hk
    · rw [List.mem_singleton.1 hp] at hk; have := hw.1; simp only at hk; exfalso; omega
theorem nums_from : ∀ (l : List Part) (N : List Int) (x : Int), x ∈ nums l N → x ∈ N ∨ ∃ p ∈ l, p.k = 11 ∧ p.n = x := by
  intro l
  induction l with
  | nil => intro N x h; exact .inl h
  | cons p l ih =>
    intro N x h
    rcases ih _ x h with h | ⟨q, hq, h1, h2⟩
    · split at h
      · rename_i hp
        rcases List.mem_append.1 h with h | h
        · exact .inl h
        · rw [List.mem_singleton] at h; exact .inr ⟨p, List.mem_cons_self .., hp.1, h.symm⟩
      · exact .inl h
    · exact .inr ⟨q, List.mem_cons_of_mem _ hq, h1, h2⟩
/-- Nodes for numbers: the normal one is as before. -/
theorem norm_vs {s : Int → Option Nat} {V : List Int} {T : Ty} (hw : T.wf) (hv : vin V T) (hd : ∀ n, (s n).isSome = true ↔ n ∈ V) (hi : ∀ n m x, s n = some x → s m = some x → n = m) : norm (enc 0 (sub (vs s) T)) = norm (enc 0 T) := by
  have e : enc 0 (sub (vs s) T) = (enc 0 T).map (rn fun n => (((s n).getD 0 : Nat) : Int)) := enc_rn T 0 hw
  rw [e]
  refine norm_rn _ fun x hx y hy he => ?_
  have hin : ∀ x ∈ nums (enc 0 T) [], ∃ u, s x = some u := fun x hx => by
    obtain ⟨p, hp, hk, rfl⟩ := (nums_from _ _ _ hx).resolve_left (fun h => by cases h)
    exact Option.isSome_iff_exists.1 ((hd _).2 (vin_nums T 0 V hw hv p hp hk))
  obtain ⟨u, hu⟩ := hin x hx
  obtain ⟨v, hv'⟩ := hin y hy
  simp only [hu, hv', Option.getD_some] at he
  have he : u = v := by omega
  exact hi x y u hu (he ▸ hv')
set_option maxRecDepth 100000 in
set_option maxHeartbeats 4000000 in
theorem c23 (l : List Part) (A : Option Addr) (c : Nat) (W : World) (hg : gTy l = true) (ha : RT W A l) : Calls Tryd.prog 23 #[.slice A l.length c] W fun e W' => ∃ v, e = .returned v ∧ TypeBack W W' v (norm l) := by
  obtain ⟨T, hw, el, hz⟩ := (gTy_iff l).1 hg
  have hlen : l.length = T.size := by rw [el, enc_len]
  have hTp := T.size_pos
  have hP := PoolM.new W
  have hr : Reads (W.alloc (.cells #[.slice none 0 0] 58)) W.heap.size 5 A l.length (l.flatMap partC) := Reads.alloc ha (Nat.le_refl _) _
  have HC := Lib.hid (c34 (L0 := []) l (good_at hg) (by omega) (by omega) (by simp) A c _ hr hP)
  have HW := Lib.hid hw
  have HEL := Lib.hid el
  have HZ := Lib.hid hz
  have HG := Lib.hid hg
  clear hg hw el hlen hP hr hz hTp
  go_enter Tryd.func23, Tryd.ntmps23
  go_wp2_with fail
  refine HC.out.mono ?_
  rintro e w1 ⟨g, A1, c1, L, s, V, rfl, hp, hb, _, _, hdom, hinj, _, hden⟩
  have hU := hden T HW.out (by rw [HEL.out]; exact enc_at T)
  have HC2 := Lib.hid (c36 hU.2 (sub_wf (vs_wf s) T HW.out) w1 hp)
  have HB := Lib.hid (show Below W.heap.size W w1 from (below_new W _).trans hb)
  have HN := Lib.hid (norm_vs HW.out hU.1 hdom hinj)
  clear hp hb hdom hinj hden hU HC
  go_wp2_with fail
  refine HC2.out.mono ?_
  rintro e w2 ⟨v, rfl, hb2, hfit, _⟩
  have HB2 := Lib.hid (HB.out.trans hb2)
  have h := hfit (by rw [vs_size]; exact HZ.out)
  rw [HN.out, vs_size] at h
  have H := Lib.hid h
  clear hb2 hfit h HC2
  go_wp2_with fail
  go_ret
  refine ⟨v, rfl, ?_, HB2.out⟩
  rw [norm_len, HEL.out, enc_len]
  exact H.out
/-- What the document's Meet hands back. -/
def RMeetEnd (a b : List Part) (W : World) (e : Ending) (W' : World) : Prop :=
  ∃ r v, e = .returned v ∧ MeetR a b r ∧ Below W.heap.size W W' ∧ (∀ m, r = some m → W'.ownsRow W.heap.size 29 5 v m.length (m.flatMap partC)) ∧ (r = none → v = .slice none 0 0)
theorem RMeetEnd.no {a b : List Part} {W W' : World} (h : MeetR a b none) (hb : Below W.heap.size W W') : RMeetEnd a b W (.returned (.slice none 0 0)) W' := ⟨none, _, rfl, h, hb, fun m h => (by cases h), fun _ => rfl⟩
set_option maxRecDepth 100000 in
set_option maxHeartbeats 8000000 in
theorem c22 (a b : List Part) (A A' : Option Addr) (c c' : Nat) (W : World) (ha : RT W A a) (hb : RT W A' b) : Calls Tryd.prog 22 #[.slice A a.length c, .slice A' b.length c'] W (RMeetEnd a b W) := by
  have HA := Lib.hid ha
  have HB := Lib.hid hb
  clear ha hb
  go_enter Tryd.func22, Tryd.ntmps22
  go_wp2_with fail
  refine (c9b a A c _ HA.out).mono ?_
  rintro e w1 ⟨rfl, b1⟩
  have B1 := Lib.hid b1
  clear b1
  cases hga : gTy a with
  | false =>
    have HR := Lib.hid (meet_bad (a := a) (b := b) (.inl hga))
    clear hga
    go_wp2_with fail
    go_ret
    exact RMeetEnd.no HR.out B1.out
  | true =>
  have HGA := Lib.hid hga
  clear hga
  go_wp2_with fail
  refine (c9b b A' c' _ (HB.out.next B1.out)).mono ?_
  rintro e w2 ⟨rfl, b2⟩
  have B2 := Lib.hid (next_ B1.out b2)
  clear b2 B1
  cases hgb : gTy b with
  | false =>
    have HR := Lib.hid (meet_bad (a := a) (b := b) (.inr hgb))
    clear hgb
    go_wp2_with fail
    go_ret
    exact RMeetEnd.no HR.out B2.out
  | true =>
  have HGB := Lib.hid hgb
  clear hgb
  obtain ⟨S0, wS, eS, zS⟩ := (gTy_iff a).1 HGA.out
  obtain ⟨T0, wT, eT, zT⟩ := (gTy_iff b).1 HGB.out
  have la : a.length = S0.size := by rw [eS, enc_len]
  have lb : b.length = T0.size := by rw [eT, enc_len]
  have pa := S0.size_pos
  have pb := T0.size_pos
  have HS := Lib.hid (show S0.wf ∧ a = enc 0 S0 ∧ S0.size ≤ 200 from ⟨wS, eS, zS⟩)
  have HT := Lib.hid (show T0.wf ∧ b = enc 0 T0 ∧ T0.size ≤ 200 from ⟨wT, eT, zT⟩)
  have HLn := Lib.hid (show 0 < a.length ∧ a.length ≤ 200 ∧ 0 < b.length ∧ b.length ≤ 200 by omega)
  have hP := PoolM.new w2
  have hra : Reads (w2.alloc (.cells #[.slice none 0 0] 58)) w2.heap.size 5 A a.length (a.flatMap partC) := Reads.alloc (HA.out.next B2.out) (Nat.le_refl _) _
  have hrb : Reads (w2.alloc (.cells #[.slice none 0 0] 58)) w2.heap.size 5 A' b.length (b.flatMap partC) := Reads.alloc (HB.out.next B2.out) (Nat.le_refl _) _
  have HRB := Lib.hid hrb
  have HC := Lib.hid (c34 (L0 := []) a (good_at HGA.out) (by omega) (by omega) (by simp) A c _ hra hP)
  have BP := Lib.hid (show Below w2.heap.size w2 (w2.alloc (.cells #[.slice none 0 0] 58)) from below_new w2 _)
  clear wS eS zS wT eT zT la lb pa pb hP hra hrb
  go_wp2_with fail
  refine HC.out.mono ?_
  rintro e w3 ⟨g1, A1, c1, L1, s1, V1, rfl, p1, b3, _, len1, dom1, inj1, lo1, den1⟩
  have B3 := Lib.hid (BP.out.trans b3)
  have T1 := Lib.hid (den1 S0 HS.out.1 (by rw [HS.out.2.1]; exact enc_at S0))
  have D1 := Lib.hid dom1
  have J1 := Lib.hid inj1
  have LO1 := Lib.hid lo1
  have HC2 := Lib.hid (c34 b (good_at HGB.out) HLn.out.2.2.1 HLn.out.2.2.2 (by have := HLn.out; simp at len1; omega) A' c' w3 (HRB.out.below b3) p1)
  clear p1 b3 len1 dom1 inj1 lo1 den1 HC HRB
  go_wp2_with fail
  refine HC2.out.mono ?_
  rintro e w4 ⟨g2, A2, c2, L2, s2, V2, rfl, p2, b4, ext2, _, dom2, inj2, lo2, den2⟩
  have B4 := Lib.hid (B3.out.trans b4)
  have T2 := den2 T0 HT.out.1 (by rw [HT.out.2.1]; exact enc_at T0)
  have hap : Apart S0 T0 (sub (vs s1) S0) (sub (vs s2) T0) V1 V2 (fun n => (((s1 n).getD 0 : Nat) : Int)) (fun n => (((s2 n).getD 0 : Nat) : Int)) := by
    have some1 : ∀ x ∈ V1, ∃ y, s1 x = some y := fun x hx => Option.isSome_iff_exists.1 ((D1.out x).2 hx)
    have some2 : ∀ x ∈ V2, ∃ y, s2 x = some y := fun x hx => Option.isSome_iff_exists.1 ((dom2 x).2 hx)
    refine ⟨T1.out.1, T2.1, fun x hx y hy e => ?_, fun x hx y hy e => ?_, fun x hx y hy e => ?_, rfl, rfl⟩
    · obtain ⟨u, hu⟩ := some1 x hx
      obtain ⟨v, hv⟩ := some1 y hy
      simp only [hu, hv, Option.getD_some] at e
      have e : u = v := by omega
      exact J1.out x y u hu (e ▸ hv)
    · obtain ⟨u, hu⟩ := some2 x hx
      obtain ⟨v, hv⟩ := some2 y hy
      simp only [hu, hv, Option.getD_some] at e
      have e : u = v := by omega
      exact inj2 x y u hu (e ▸ hv)
    · obtain ⟨u, hu⟩ := some1 x hx
      obtain ⟨v, hv⟩ := some2 y hy
      simp only [hu, hv, Option.getD_some] at e
      have h1 := (LO1.out x u hu).2
      have h2 := (lo2 y v hv).1
      omega
  have HAp := Lib.hid hap
  have E1 := Lib.hid (T1.out.2.mono ext2)
  have E2 := Lib.hid T2.2
  clear b4 ext2 dom2 inj2 lo2 den2 T2 hap HC2 T1 D1 J1 LO1
  generalize hS : sub (vs s1) S0 = S at HAp E1
  generalize hT : sub (vs s2) T0 = T at HAp E2
  have WS := Lib.hid (show S.wf from hS ▸ sub_wf (vs_wf s1) S0 HS.out.1)
  have WT := Lib.hid (show T.wf from hT ▸ sub_wf (vs_wf s2) T0 HT.out.1)
  have VS := show vin (V1.map (fun n => (((s1 n).getD 0 : Nat) : Int)) ++ V2.map (fun n => (((s2 n).getD 0 : Nat) : Int))) S from hS ▸ vin_subF (L := V1) (fun x hx => List.mem_append_left _ (List.mem_map.2 ⟨x, hx, rfl⟩)) S0 HAp.out.va
  have VT := show vin (V1.map (fun n => (((s1 n).getD 0 : Nat) : Int)) ++ V2.map (fun n => (((s2 n).getD 0 : Nat) : Int))) T from hT ▸ vin_subF (L := V2) (fun x hx => List.mem_append_right _ (List.mem_map.2 ⟨x, hx, rfl⟩)) T0 HAp.out.vb
  have HC3 := Lib.hid (c35 E1.out E2.out WS.out WT.out VS VT w4 p2)
  clear hS hT VS VT p2
  go_wp2_with fail
  refine HC3.out.mono ?_
  rintro e w5 ⟨r, L3, rfl, b5, p3, hno, hyes⟩
  have B5 := Lib.hid (B4.out.trans b5)
  have P3 := Lib.hid p3
  have HNo := Lib.hid hno
  have HYes := Lib.hid hyes
  have HW5 := Lib.hid (show Below W.heap.size W w5 from next_ B2.out B5.out)
  clear b5 p3 hno hyes HC3
  cases r with
  | false =>
    have HR := Lib.hid (show MeetR a b none by rw [HS.out.2.1, HT.out.2.1]; exact meet_none HAp.out HS.out.1 HT.out.1 (.inl (HNo.out (by trivial))))
    go_wp2_with fail
    go_ret
    exact RMeetEnd.no HR.out HW5.out
  | true =>
    obtain ⟨θ, hm, hc, hwθ⟩ := HYes.out rfl
    have HM := Lib.hid hm
    have HWf := Lib.hid (sub_wf hwθ S WS.out)
    have HC4 := Lib.hid (c36 (hc _ _ E1.out) HWf.out w5 P3.out)
    clear hm hc hwθ
    go_wp2_with fail
    refine HC4.out.mono ?_
    rintro e w6 ⟨v, rfl, b6, hfit, hbig⟩
    have HW6 := Lib.hid (show Below W.heap.size W w6 from next_ B2.out (B5.out.trans b6))
    have HFit := Lib.hid hfit
    have HBig := Lib.hid hbig
    clear b6 hfit hbig HC4
    go_wp2_with fail
    go_ret
    by_cases hz : (sub θ S).size ≤ 200
    · refine ⟨some (norm (enc 0 (sub θ S))), v, rfl, ?_, HW6.out, fun m e => ?_, fun e => by (cases e)⟩
      · rw [HS.out.2.1, HT.out.2.1]
        exact meet_some HAp.out HS.out.1 HT.out.1 HS.out.2.2 HT.out.2.2 HM.out HWf.out hz
      · injection e with e
        rw [← e]
        have h := own_down (HFit.out hz) B2.out.size
        rw [norm_len, enc_len]
        exact h
    · obtain rfl := HBig.out (by omega)
      refine RMeetEnd.no ?_ HW6.out
      rw [HS.out.2.1, HT.out.2.1]
      exact meet_none HAp.out HS.out.1 HT.out.1 (.inr ⟨θ, HM.out, by omega⟩)
end Go.Proofs.YtcilodgpbdafeaaDoor
namespace Go.Proofs.YtcilodgpbdafeaaDoor
open Go.ChangeShapes Go.WideShapes Go.ChangeAt Go.RowKit
set_option linter.unusedVariables false
set_option linter.unusedSimpArgs false
noncomputable def code38 (n : Nat) : Code := ((Tryd.f38.body).bind (regionOf n)).getD .skip
noncomputable def code25 (n : Nat) : Code := ((Tryd.f25.body).bind (regionOf n)).getD .skip
set_option maxRecDepth 100000 in
set_option maxHeartbeats 8000000 in
theorem reg38 {u3 u4 u5 u6 u7 u8 u9 u10 u11 u12 u13 u14 u15 u16 u17 u18 u19 u20 u21 u22 u23 u24 u25 u26 u27 u28 u29 u30 u31 u32 u33 u34 u35 u36 u37 u38 u39 u40 u41 u42 u43 u44 u45 u46 u47 u48 u49 u50 u51 u52 u53 u54 u55 u56 u57 u58 u59 u60 u61 : Value} {Q : Exit → Act → World → Prop}  (i j n c : Nat) (p q : Part) (ad : Addr) (w : World) (hi : i < n) (hj : j < n)
    (hb1 : ad.block < w.heap.size) (hb2 : ad.block < w.heap.size)
    (hp : ∀ j v, (partC p)[j]? = some v → w.cell? ((ad.add (i * 5)).add j) = some v) (hq : ∀ k v, (partC q)[k]? = some v → w.cell? ((ad.add (j * 5)).add k) = some v)
    (hQ : ∀ c a d v w', Q (.panic c) (a.put d v) w' → Q (.panic c) a w')
    (hend : ∀ (b7 b8 : Nat) (w' : World) (v10 v11 v12 v13 v14 v15 v16 v17 : Value), Blk w' b7 29 (partC p).toArray → Blk w' b8 29 (partC q).toArray → Below w.heap.size w w' → Q .normal ⟨#[.slice (some ad) n c, .int .i64 (i : Int), .int .i64 (j : Int), u3, u4, u5, u6, ptr b7, ptr b8, u9, v10, v11, v12, v13, v14, v15, v16, v17, u18, u19, u20, u21, u22, u23, u24, u25, u26, u27, u28, u29, u30, u31, u32, u33, u34, u35, u36, u37, u38, u39, u40, u41, u42, u43, u44, u45, u46, u47, u48, u49, u50, u51, u52, u53, u54, u55, u56, u57, u58, u59, u60, u61], []⟩ w') :
    Code.wp Tryd.prog (code38 1) Q ⟨#[.slice (some ad) n c, .int .i64 (i : Int), .int .i64 (j : Int), u3, u4, u5, u6, u7, u8, u9, u10, u11, u12, u13, u14, u15, u16, u17, u18, u19, u20, u21, u22, u23, u24, u25, u26, u27, u28, u29, u30, u31, u32, u33, u34, u35, u36, u37, u38, u39, u40, u41, u42, u43, u44, u45, u46, u47, u48, u49, u50, u51, u52, u53, u54, u55, u56, u57, u58, u59, u60, u61], []⟩ w := by
  have HEND := Lib.hid hend
  have HQ := Lib.hid hQ
  clear hend hQ
  have hi0 : (0 : Int) ≤ (i : Int) := by omega
  have hj0 : (0 : Int) ≤ (j : Int) := by omega
  have hi1 : (i : Int) < (n : Int) := by omega
  have hj1 : (j : Int) < (n : Int) := by omega
  have FP := Lib.hid hp
  have FQ := Lib.hid hq
  have FPb := Lib.hid (show (ad.add (i * 5)).block < w.heap.size by rw [block_of_add]; exact hb1)
  have FQb := Lib.hid (show (ad.add (j * 5)).block < w.heap.size by rw [block_of_add]; exact hb2)
  clear hp hq hi hj
  conv => arg 2; whnf
  refine wp_region_last (S := fun V => Below w.heap.size w V) 11 (by kernel_rfl) (by kernel_rfl) (by kernel_rfl) (by kernel_rfl) (Below.drew (Below.refl _ _)) (fun hHeld => ?_)
  generalize w.drew = d at hHeld ⊢
  refine wpAnyH_take (i := 0) (oi := ⟨some 10, _, _, _, _, _⟩) (v := ?_) rfl (by kernel_rfl) (by kernel_rfl) (by kernel_rfl) (fun _ _ _ h => HQ.out _ _ _ _ _ h) (Or.inl ⟨by kernel_rfl, ?_⟩) (by assumption) ?_
  rotate_left
  · intro V hSw
    go_simp
    try with_reducible rfl
  try simp only [Act.put, List.setIfInBounds_toArray, List.set_cons_zero, List.set_cons_succ]
  refine wpAnyH_take (i := 1) (oi := ⟨some 11, _, _, _, _, _⟩) (v := ?_) rfl (by kernel_rfl) (by kernel_rfl) (by kernel_rfl) (fun _ _ _ h => HQ.out _ _ _ _ _ h) (Or.inl ⟨by kernel_rfl, ?_⟩) (by assumption) ?_
  rotate_left
  · intro V hSw
    go_simp
    try with_reducible rfl
  try simp only [Act.put, List.setIfInBounds_toArray, List.set_cons_zero, List.set_cons_succ]
  refine wpAnyH_take (i := 2) (oi := ⟨some 12, _, _, _, _, _⟩) (v := ?_) rfl (by kernel_rfl) (by kernel_rfl) (by kernel_rfl) (fun _ _ _ h => HQ.out _ _ _ _ _ h) (Or.inl ⟨by kernel_rfl, ?_⟩) (by assumption) ?_
  rotate_left
  · intro V hSw
    go_simp
    try with_reducible rfl
  try simp only [Act.put, List.setIfInBounds_toArray, List.set_cons_zero, List.set_cons_succ]
  refine wpAnyH_take (i := 3) (oi := ⟨some 13, _, _, _, _, _⟩) (v := ?_) rfl (by kernel_rfl) (by kernel_rfl) (by kernel_rfl) (fun _ _ _ h => HQ.out _ _ _ _ _ h) (Or.inl ⟨by kernel_rfl, ?_⟩) (by assumption) ?_
  rotate_left
  · intro V hSw
    obtain ⟨p0, p1, p2, p3, p4⟩ := Below.part hSw FPb.out FP.out
    go_simp
    try with_reducible rfl
  try simp only [Act.put, List.setIfInBounds_toArray, List.set_cons_zero, List.set_cons_succ]
  refine wpAnyH_take (i := 4) (oi := ⟨some 14, _, _, _, _, _⟩) (v := ?_) rfl (by kernel_rfl) (by kernel_rfl) (by kernel_rfl) (fun _ _ _ h => HQ.out _ _ _ _ _ h) (Or.inl ⟨by kernel_rfl, ?_⟩) (by assumption) ?_
  rotate_left
  · intro V hSw
    go_simp
    try with_reducible rfl
  try simp only [Act.put, List.setIfInBounds_toArray, List.set_cons_zero, List.set_cons_succ]
  refine wpAnyH_take (i := 5) (oi := ⟨some 15, _, _, _, _, _⟩) (v := ?_) rfl (by kernel_rfl) (by kernel_rfl) (by kernel_rfl) (fun _ _ _ h => HQ.out _ _ _ _ _ h) (Or.inl ⟨by kernel_rfl, ?_⟩) (by assumption) ?_
  rotate_left
  · intro V hSw
    go_simp
    try with_reducible rfl
  try simp only [Act.put, List.setIfInBounds_toArray, List.set_cons_zero, List.set_cons_succ]
  refine wpAnyH_take (i := 6) (oi := ⟨some 16, _, _, _, _, _⟩) (v := ?_) rfl (by kernel_rfl) (by kernel_rfl) (by kernel_rfl) (fun _ _ _ h => HQ.out _ _ _ _ _ h) (Or.inl ⟨by kernel_rfl, ?_⟩) (by assumption) ?_
  rotate_left
  · intro V hSw
    go_simp
    try with_reducible rfl
  try simp only [Act.put, List.setIfInBounds_toArray, List.set_cons_zero, List.set_cons_succ]
  refine wpAnyH_take (i := 7) (oi := ⟨some 17, _, _, _, _, _⟩) (v := ?_) rfl (by kernel_rfl) (by kernel_rfl) (by kernel_rfl) (fun _ _ _ h => HQ.out _ _ _ _ _ h) (Or.inl ⟨by kernel_rfl, ?_⟩) (by assumption) ?_
  rotate_left
  · intro V hSw
    obtain ⟨q0, q1, q2, q3, q4⟩ := Below.part hSw FQb.out FQ.out
    go_simp
    try with_reducible rfl
  try simp only [Act.put, List.setIfInBounds_toArray, List.set_cons_zero, List.set_cons_succ]
  have hds := hHeld.size
  have HB0 := Lib.hid hHeld
  refine wpAnyH_ready (rs := [8, 9]) (by kernel_rfl) (by simp) ?_
  refine AllReadyH.cons (o := ⟨some 7, _, _, _, _, _⟩) rfl (fun K hK => ?_) (AllReadyH.cons (o := ⟨some 8, _, _, _, _, _⟩) rfl (fun K hK => ?_) AllReadyH.nil)
  · go_simp
    refine hK.out _ _ ?_ (fun hHeld => ?_)
    · exact (by first | exact hHeld.alloc hHeld.size _ | exact hHeld.setCell (by first | exact hHeld.size | assumption) _)
    clear hK K
    try simp only [Act.put, List.setIfInBounds_toArray, List.set_cons_zero, List.set_cons_succ]
    have hds1 := hHeld.size
    refine wpAnyH_ready (rs := [9]) (by kernel_rfl) (by simp) ?_
    refine AllReadyH.cons (o := ⟨some 8, _, _, _, _, _⟩) rfl (fun K hK => ?_) AllReadyH.nil
    go_simp
    refine hK.out _ _ ?_ (fun hHeld => ?_)
    · exact (by first | exact hHeld.alloc hHeld.size _ | exact hHeld.setCell (by first | exact hHeld.size | assumption) _)
    clear hK K
    try simp only [Act.put, List.setIfInBounds_toArray, List.set_cons_zero, List.set_cons_succ]
    refine wpAnyH_ready (rs := [10]) (by kernel_rfl) (by simp) ?_
    refine AllReadyH.cons (o := ⟨none, _, _, _, _, _⟩) rfl (fun K hK => ?_) AllReadyH.nil
    go_simp
    refine hK.out _ _ ?_ (fun hHeld => ?_)
    · exact (HB0.out.alloc hds _).alloc (by rw [World.size_alloc]; omega) _
    clear hK K
    try simp only [Act.put, List.setIfInBounds_toArray, List.set_cons_zero, List.set_cons_succ]
    refine wpAnyH_done (by kernel_rfl) ?_ _
    refine lastPost_run (o := ⟨none, _, _, _, _, _⟩) rfl (fun K hK => ?_)
    go_simp
    refine hK.out _ _ ?_
    clear hK K
    refine HEND.out _ _ ((d.alloc (.cells (partC p).toArray 29)).alloc (.cells (partC q).toArray 29)) _ _ _ _ _ _ _ _ ((Blk.new d 29 (partC p).toArray).alloc (.cells (partC q).toArray 29)) (by have h := Blk.new (d.alloc (.cells (partC p).toArray 29)) 29 (partC q).toArray; rw [World.size_alloc] at h; exact h) ((HB0.out.alloc hds _).alloc (by rw [World.size_alloc]; omega) _)
  · go_simp
    refine hK.out _ _ ?_ (fun hHeld => ?_)
    · exact (by first | exact hHeld.alloc hHeld.size _ | exact hHeld.setCell (by first | exact hHeld.size | assumption) _)
    clear hK K
    try simp only [Act.put, List.setIfInBounds_toArray, List.set_cons_zero, List.set_cons_succ]
    have hds1 := hHeld.size
    refine wpAnyH_ready (rs := [8]) (by kernel_rfl) (by simp) ?_
    refine AllReadyH.cons (o := ⟨some 7, _, _, _, _, _⟩) rfl (fun K hK => ?_) AllReadyH.nil
    go_simp
    refine hK.out _ _ ?_ (fun hHeld => ?_)
    · exact (by first | exact hHeld.alloc hHeld.size _ | exact hHeld.setCell (by first | exact hHeld.size | assumption) _)
    clear hK K
    try simp only [Act.put, List.setIfInBounds_toArray, List.set_cons_zero, List.set_cons_succ]
    refine wpAnyH_ready (rs := [10]) (by kernel_rfl) (by simp) ?_
    refine AllReadyH.cons (o := ⟨none, _, _, _, _, _⟩) rfl (fun K hK => ?_) AllReadyH.nil
    go_simp
    refine hK.out _ _ ?_ (fun hHeld => ?_)
    · exact (HB0.out.alloc hds _).alloc (by rw [World.size_alloc]; omega) _
    clear hK K
    try simp only [Act.put, List.setIfInBounds_toArray, List.set_cons_zero, List.set_cons_succ]
    refine wpAnyH_done (by kernel_rfl) ?_ _
    refine lastPost_run (o := ⟨none, _, _, _, _, _⟩) rfl (fun K hK => ?_)
    go_simp
    refine hK.out _ _ ?_
    clear hK K
    refine HEND.out _ _ ((d.alloc (.cells (partC q).toArray 29)).alloc (.cells (partC p).toArray 29)) _ _ _ _ _ _ _ _ (by have h := Blk.new (d.alloc (.cells (partC q).toArray 29)) 29 (partC p).toArray; rw [World.size_alloc] at h; exact h) ((Blk.new d 29 (partC q).toArray).alloc (.cells (partC p).toArray 29)) ((HB0.out.alloc hds _).alloc (by rw [World.size_alloc]; omega) _)
set_option maxRecDepth 100000 in
set_option maxHeartbeats 8000000 in
theorem reg25 {u2 u3 u4 u5 u6 u7 u9 u10 u11 u12 u13 u14 u15 u16 u17 u18 u19 u20 u21 u22 u23 u24 u25 u26 u27 u28 u29 u30 u31 u32 u33 u34 u35 u36 u37 u38 u39 u40 u41 u42 u43 u44 u45 u46 u47 u48 u49 u50 u51 u52 u53 u54 u55 u56 u57 u58 u59 u60 u61 u62 u63 u64 u65 u66 u67 u68 u69 u70 u71 u72 u73 u74 u75 u76 u77 u78 u79 u80 u81 u82 u83 u84 u85 u86 u87 u88 u89 u90 u91 u92 u93 u94 u95 u96 u97 u98 u99 u100 u101 u102 u103 u104 u105 u106 u107 u108 u109 u110 u111 u112 u113 u114 u115 u116 u117 u118 u119 u120 u121 u122 u123 u124 u125 u126 u127 u128 : Value} {Q : Exit → Act → World → Prop} (xb : Nat) (i j n n' c c' : Nat) (p q : Part) (ad ad' : Addr) (w : World) (hi : i < n) (hj : j < n')
    (hxb : xb < w.heap.size) (m1 : w.cell? ⟨xb, 0, none⟩ = some (.int .i64 (i : Int))) (m2 : w.cell? ⟨xb, 1, none⟩ = some (.int .i64 (j : Int))) (hb1 : ad.block < w.heap.size) (hb2 : ad'.block < w.heap.size)
    (hp : ∀ j v, (partC p)[j]? = some v → w.cell? ((ad.add (i * 5)).add j) = some v) (hq : ∀ k v, (partC q)[k]? = some v → w.cell? ((ad'.add (j * 5)).add k) = some v)
    (hQ : ∀ c a d v w', Q (.panic c) (a.put d v) w' → Q (.panic c) a w')
    (hend : ∀ (b7 b8 : Nat) (w' : World) (v44 v45 v46 v47 v48 v49 v50 v51 v52 v53 : Value), Blk w' b7 29 (partC p).toArray → Blk w' b8 29 (partC q).toArray → Below w.heap.size w w' → Q .normal ⟨#[.slice (some ad) n c, .slice (some ad') n' c', u2, u3, u4, u5, u6, u7, ptr xb, ptr b7, ptr b8, u11, u12, u13, u14, u15, u16, u17, u18, u19, u20, u21, u22, u23, u24, u25, u26, u27, u28, u29, u30, u31, u32, u33, u34, u35, u36, u37, u38, u39, u40, u41, u42, u43, v44, v45, v46, v47, v48, v49, v50, v51, v52, v53, u54, u55, u56, u57, u58, u59, u60, u61, u62, u63, u64, u65, u66, u67, u68, u69, u70, u71, u72, u73, u74, u75, u76, u77, u78, u79, u80, u81, u82, u83, u84, u85, u86, u87, u88, u89, u90, u91, u92, u93, u94, u95, u96, u97, u98, u99, u100, u101, u102, u103, u104, u105, u106, u107, u108, u109, u110, u111, u112, u113, u114, u115, u116, u117, u118, u119, u120, u121, u122, u123, u124, u125, u126, u127, u128], []⟩ w') :
    Code.wp Tryd.prog (code25 8) Q ⟨#[.slice (some ad) n c, .slice (some ad') n' c', u2, u3, u4, u5, u6, u7, ptr xb, u9, u10, u11, u12, u13, u14, u15, u16, u17, u18, u19, u20, u21, u22, u23, u24, u25, u26, u27, u28, u29, u30, u31, u32, u33, u34, u35, u36, u37, u38, u39, u40, u41, u42, u43, u44, u45, u46, u47, u48, u49, u50, u51, u52, u53, u54, u55, u56, u57, u58, u59, u60, u61, u62, u63, u64, u65, u66, u67, u68, u69, u70, u71, u72, u73, u74, u75, u76, u77, u78, u79, u80, u81, u82, u83, u84, u85, u86, u87, u88, u89, u90, u91, u92, u93, u94, u95, u96, u97, u98, u99, u100, u101, u102, u103, u104, u105, u106, u107, u108, u109, u110, u111, u112, u113, u114, u115, u116, u117, u118, u119, u120, u121, u122, u123, u124, u125, u126, u127, u128], []⟩ w := by
  have HEND := Lib.hid hend
  have HQ := Lib.hid hQ
  clear hend hQ
  have hi0 : (0 : Int) ≤ (i : Int) := by omega
  have hj0 : (0 : Int) ≤ (j : Int) := by omega
  have hi1 : (i : Int) < (n : Int) := by omega
  have hj1 : (j : Int) < (n' : Int) := by omega
  have FM1 := Lib.hid (show ∀ V, Below w.heap.size w V → V.cell? ⟨xb, 0, none⟩ = some (.int .i64 (i : Int)) from fun V h => (h.cell (p := ⟨xb, 0, none⟩) hxb).trans m1)
  have FM2 := Lib.hid (show ∀ V, Below w.heap.size w V → V.cell? ⟨xb, 1, none⟩ = some (.int .i64 (j : Int)) from fun V h => (h.cell (p := ⟨xb, 1, none⟩) hxb).trans m2)
  clear m1 m2
  have FP := Lib.hid hp
  have FQ := Lib.hid hq
  have FPb := Lib.hid (show (ad.add (i * 5)).block < w.heap.size by rw [block_of_add]; exact hb1)
  have FQb := Lib.hid (show (ad'.add (j * 5)).block < w.heap.size by rw [block_of_add]; exact hb2)
  clear hp hq hi hj
  conv => arg 2; whnf
  refine wp_region_last (S := fun V => Below w.heap.size w V) 13 (by kernel_rfl) (by kernel_rfl) (by kernel_rfl) (by kernel_rfl) (Below.drew (Below.refl _ _)) (fun hHeld => ?_)
  generalize w.drew = d at hHeld ⊢
  refine wpAnyH_take (i := 0) (oi := ⟨some 44, _, _, _, _, _⟩) (v := ?_) rfl (by kernel_rfl) (by kernel_rfl) (by kernel_rfl) (fun _ _ _ h => HQ.out _ _ _ _ _ h) (Or.inl ⟨by kernel_rfl, ?_⟩) (by assumption) ?_
  rotate_left
  · intro V hSw
    go_simp
    try with_reducible rfl
  try simp only [Act.put, List.setIfInBounds_toArray, List.set_cons_zero, List.set_cons_succ]
  refine wpAnyH_take (i := 1) (oi := ⟨some 45, _, _, _, _, _⟩) (v := ?_) rfl (by kernel_rfl) (by kernel_rfl) (by kernel_rfl) (fun _ _ _ h => HQ.out _ _ _ _ _ h) (Or.inl ⟨by kernel_rfl, ?_⟩) (by assumption) ?_
  rotate_left
  · intro V hSw
    go_simp
    try with_reducible rfl
  try simp only [Act.put, List.setIfInBounds_toArray, List.set_cons_zero, List.set_cons_succ]
  refine wpAnyH_take (i := 2) (oi := ⟨some 46, _, _, _, _, _⟩) (v := ?_) rfl (by kernel_rfl) (by kernel_rfl) (by kernel_rfl) (fun _ _ _ h => HQ.out _ _ _ _ _ h) (Or.inl ⟨by kernel_rfl, ?_⟩) (by assumption) ?_
  rotate_left
  · intro V hSw
    have m1 := FM1.out V hSw
    go_simp
    try with_reducible rfl
  try simp only [Act.put, List.setIfInBounds_toArray, List.set_cons_zero, List.set_cons_succ]
  refine wpAnyH_take (i := 3) (oi := ⟨some 47, _, _, _, _, _⟩) (v := ?_) rfl (by kernel_rfl) (by kernel_rfl) (by kernel_rfl) (fun _ _ _ h => HQ.out _ _ _ _ _ h) (Or.inl ⟨by kernel_rfl, ?_⟩) (by assumption) ?_
  rotate_left
  · intro V hSw
    go_simp
    try with_reducible rfl
  try simp only [Act.put, List.setIfInBounds_toArray, List.set_cons_zero, List.set_cons_succ]
  refine wpAnyH_take (i := 4) (oi := ⟨some 48, _, _, _, _, _⟩) (v := ?_) rfl (by kernel_rfl) (by kernel_rfl) (by kernel_rfl) (fun _ _ _ h => HQ.out _ _ _ _ _ h) (Or.inl ⟨by kernel_rfl, ?_⟩) (by assumption) ?_
  rotate_left
  · intro V hSw
    obtain ⟨p0, p1, p2, p3, p4⟩ := Below.part hSw FPb.out FP.out
    go_simp
    try with_reducible rfl
  try simp only [Act.put, List.setIfInBounds_toArray, List.set_cons_zero, List.set_cons_succ]
  refine wpAnyH_take (i := 5) (oi := ⟨some 49, _, _, _, _, _⟩) (v := ?_) rfl (by kernel_rfl) (by kernel_rfl) (by kernel_rfl) (fun _ _ _ h => HQ.out _ _ _ _ _ h) (Or.inl ⟨by kernel_rfl, ?_⟩) (by assumption) ?_
  rotate_left
  · intro V hSw
    go_simp
    try with_reducible rfl
  try simp only [Act.put, List.setIfInBounds_toArray, List.set_cons_zero, List.set_cons_succ]
  refine wpAnyH_take (i := 6) (oi := ⟨some 50, _, _, _, _, _⟩) (v := ?_) rfl (by kernel_rfl) (by kernel_rfl) (by kernel_rfl) (fun _ _ _ h => HQ.out _ _ _ _ _ h) (Or.inl ⟨by kernel_rfl, ?_⟩) (by assumption) ?_
  rotate_left
  · intro V hSw
    go_simp
    try with_reducible rfl
  try simp only [Act.put, List.setIfInBounds_toArray, List.set_cons_zero, List.set_cons_succ]
  refine wpAnyH_take (i := 7) (oi := ⟨some 51, _, _, _, _, _⟩) (v := ?_) rfl (by kernel_rfl) (by kernel_rfl) (by kernel_rfl) (fun _ _ _ h => HQ.out _ _ _ _ _ h) (Or.inl ⟨by kernel_rfl, ?_⟩) (by assumption) ?_
  rotate_left
  · intro V hSw
    have m2 := FM2.out V hSw
    go_simp
    try with_reducible rfl
  try simp only [Act.put, List.setIfInBounds_toArray, List.set_cons_zero, List.set_cons_succ]
  refine wpAnyH_take (i := 8) (oi := ⟨some 52, _, _, _, _, _⟩) (v := ?_) rfl (by kernel_rfl) (by kernel_rfl) (by kernel_rfl) (fun _ _ _ h => HQ.out _ _ _ _ _ h) (Or.inl ⟨by kernel_rfl, ?_⟩) (by assumption) ?_
  rotate_left
  · intro V hSw
    go_simp
    try with_reducible rfl
  try simp only [Act.put, List.setIfInBounds_toArray, List.set_cons_zero, List.set_cons_succ]
  refine wpAnyH_take (i := 9) (oi := ⟨some 53, _, _, _, _, _⟩) (v := ?_) rfl (by kernel_rfl) (by kernel_rfl) (by kernel_rfl) (fun _ _ _ h => HQ.out _ _ _ _ _ h) (Or.inl ⟨by kernel_rfl, ?_⟩) (by assumption) ?_
  rotate_left
  · intro V hSw
    obtain ⟨q0, q1, q2, q3, q4⟩ := Below.part hSw FQb.out FQ.out
    go_simp
    try with_reducible rfl
  try simp only [Act.put, List.setIfInBounds_toArray, List.set_cons_zero, List.set_cons_succ]
  have hds := hHeld.size
  have HB0 := Lib.hid hHeld
  refine wpAnyH_ready (rs := [10, 11]) (by kernel_rfl) (by simp) ?_
  refine AllReadyH.cons (o := ⟨some 9, _, _, _, _, _⟩) rfl (fun K hK => ?_) (AllReadyH.cons (o := ⟨some 10, _, _, _, _, _⟩) rfl (fun K hK => ?_) AllReadyH.nil)
  · go_simp
    refine hK.out _ _ ?_ (fun hHeld => ?_)
    · exact (by first | exact hHeld.alloc hHeld.size _ | exact hHeld.setCell (by first | exact hHeld.size | assumption) _)
    clear hK K
    try simp only [Act.put, List.setIfInBounds_toArray, List.set_cons_zero, List.set_cons_succ]
    have hds1 := hHeld.size
    refine wpAnyH_ready (rs := [11]) (by kernel_rfl) (by simp) ?_
    refine AllReadyH.cons (o := ⟨some 10, _, _, _, _, _⟩) rfl (fun K hK => ?_) AllReadyH.nil
    go_simp
    refine hK.out _ _ ?_ (fun hHeld => ?_)
    · exact (by first | exact hHeld.alloc hHeld.size _ | exact hHeld.setCell (by first | exact hHeld.size | assumption) _)
    clear hK K
    try simp only [Act.put, List.setIfInBounds_toArray, List.set_cons_zero, List.set_cons_succ]
    refine wpAnyH_ready (rs := [12]) (by kernel_rfl) (by simp) ?_
    refine AllReadyH.cons (o := ⟨none, _, _, _, _, _⟩) rfl (fun K hK => ?_) AllReadyH.nil
    go_simp
    refine hK.out _ _ ?_ (fun hHeld => ?_)
    · exact (HB0.out.alloc hds _).alloc (by rw [World.size_alloc]; omega) _
    clear hK K
    try simp only [Act.put, List.setIfInBounds_toArray, List.set_cons_zero, List.set_cons_succ]
    refine wpAnyH_done (by kernel_rfl) ?_ _
    refine lastPost_run (o := ⟨none, _, _, _, _, _⟩) rfl (fun K hK => ?_)
    go_simp
    refine hK.out _ _ ?_
    clear hK K
    refine HEND.out _ _ ((d.alloc (.cells (partC p).toArray 29)).alloc (.cells (partC q).toArray 29)) _ _ _ _ _ _ _ _ _ _ ((Blk.new d 29 (partC p).toArray).alloc (.cells (partC q).toArray 29)) (by have h := Blk.new (d.alloc (.cells (partC p).toArray 29)) 29 (partC q).toArray; rw [World.size_alloc] at h; exact h) ((HB0.out.alloc hds _).alloc (by rw [World.size_alloc]; omega) _)
  · go_simp
    refine hK.out _ _ ?_ (fun hHeld => ?_)
    · exact (by first | exact hHeld.alloc hHeld.size _ | exact hHeld.setCell (by first | exact hHeld.size | assumption) _)
    clear hK K
    try simp only [Act.put, List.setIfInBounds_toArray, List.set_cons_zero, List.set_cons_succ]
    have hds1 := hHeld.size
    refine wpAnyH_ready (rs := [10]) (by kernel_rfl) (by simp) ?_
    refine AllReadyH.cons (o := ⟨some 9, _, _, _, _, _⟩) rfl (fun K hK => ?_) AllReadyH.nil
    go_simp
    refine hK.out _ _ ?_ (fun hHeld => ?_)
    · exact (by first | exact hHeld.alloc hHeld.size _ | exact hHeld.setCell (by first | exact hHeld.size | assumption) _)
    clear hK K
    try simp only [Act.put, List.setIfInBounds_toArray, List.set_cons_zero, List.set_cons_succ]
    refine wpAnyH_ready (rs := [12]) (by kernel_rfl) (by simp) ?_
    refine AllReadyH.cons (o := ⟨none, _, _, _, _, _⟩) rfl (fun K hK => ?_) AllReadyH.nil
    go_simp
    refine hK.out _ _ ?_ (fun hHeld => ?_)
    · exact (HB0.out.alloc hds _).alloc (by rw [World.size_alloc]; omega) _
    clear hK K
    try simp only [Act.put, List.setIfInBounds_toArray, List.set_cons_zero, List.set_cons_succ]
    refine wpAnyH_done (by kernel_rfl) ?_ _
    refine lastPost_run (o := ⟨none, _, _, _, _, _⟩) rfl (fun K hK => ?_)
    go_simp
    refine hK.out _ _ ?_
    clear hK K
    refine HEND.out _ _ ((d.alloc (.cells (partC q).toArray 29)).alloc (.cells (partC p).toArray 29)) _ _ _ _ _ _ _ _ _ _ (by have h := Blk.new (d.alloc (.cells (partC q).toArray 29)) 29 (partC p).toArray; rw [World.size_alloc] at h; exact h) ((Blk.new d 29 (partC q).toArray).alloc (.cells (partC p).toArray 29)) ((HB0.out.alloc hds _).alloc (by rw [World.size_alloc]; omega) _)
end Go.Proofs.YtcilodgpbdafeaaDoor
namespace Go.Proofs.YtcilodgpbdafeaaDoor
open Go.ChangeShapes Go.WideShapes Go.ChangeAt Go.RowKit
set_option linter.unusedVariables false
set_option linter.unusedSimpArgs false
theorem kids_zero {U : Ty} (w : U.wf) (h7 : U.kind ≠ 7) (h9 : U.kind ≠ 9) (h6 : U.kind ≠ 6) (h8 : U.kind ≠ 8) : kids U.kind = 0 := by
  rw [kids_kind w]
  cases U with
  | leaf k t => rfl
  | var n => rfl
  | one k s => have := w.1; simp only [Ty.kind] at *; exfalso; omega
  | two k s u => have := w.1; simp only [Ty.kind] at *; exfalso; omega
set_option maxRecDepth 100000 in
set_option maxHeartbeats 16000000 in
theorem c38 {t : List Part} {c : Nat} {A : Option Addr} : ∀ (m : Nat) (U V : Ty) (i j : Nat) (W : World), U.size ≤ m → U.wf → V.wf → At t U i → At t V j → RT W A t →
    Calls Tryd.prog 38 #[.slice A t.length c, .int .i64 (i : Int), .int .i64 (j : Int)] W fun e W' => e = .returned (.bool (decide (U = V))) ∧ Below W.heap.size W W' := by
  intro m
  induction m with
  | zero => intro U V i j W h; have := U.size_pos; omega
  | succ m ih =>
    intro U V i j W hm wU wV hU hV hM
    obtain ⟨px, hpx, ek, et, en⟩ := hU.top
    obtain ⟨qx, hqx, ek', et', en'⟩ := hV.top
    have hi := hU.lt
    have hj := hV.lt
    obtain ⟨ad, rfl, hadb, hcp⟩ := Reads.partAt hM hpx
    obtain ⟨ad', hade, _, hcq⟩ := Reads.partAt hM hqx
    obtain rfl : ad = ad' := by injection hade
    have IH := Lib.hid ih
    have HM := Lib.hid hM
    have HP := Lib.hid hcp
    have HQ := Lib.hid hcq
    have HAd := Lib.hid hadb
    have HIJ := Lib.hid (show i < t.length ∧ j < t.length from ⟨hi, hj⟩)
    have HU := Lib.hid hU
    have HV := Lib.hid hV
    have WU := Lib.hid wU
    have WV := Lib.hid wV
    have HS := Lib.hid hm
    have HPX := Lib.hid hpx
    have HQX := Lib.hid hqx
    clear ih hM hcp hcq hadb hi hj hU hV hm hpx hqx hade
    obtain ⟨pk, pa, pb, pn, pt⟩ := px
    obtain ⟨qk, qa, qb, qn, qt⟩ := qx
    simp only at ek et en ek' et' en'
    by_cases hk : pk = qk
    · have f1 : (pk != qk) = false := bne_eq_false_iff_eq.2 hk
      by_cases ht : pt = qt
      · have f2 : (pt == qt) = true := beq_iff_eq.2 ht
        by_cases hn : pn = qn
        · have f3 : (pn != qn) = false := bne_eq_false_iff_eq.2 hn
          have hsame := Ty.same wU wV (by rw [← ek, ← ek', hk]) (by rw [← et, ← et', ht]) (by rw [← en, ← en', hn])
          rcases hsame with ⟨k7, k9, k6, k8, hUV⟩ | ⟨k, s, s', hk', rfl, rfl⟩ | ⟨k, s, u, s', u', hk', rfl, rfl⟩
          · have f7 : (pk == 7) = false := beq_false_of_ne (by rw [ek]; exact k7)
            have f9 : (pk == 9) = false := beq_false_of_ne (by rw [ek]; exact k9)
            have f6 : (pk == 6) = false := beq_false_of_ne (by rw [ek]; exact k6)
            have f8 : (pk == 8) = false := beq_false_of_ne (by rw [ek]; exact k8)
            have HNE := Lib.hid hUV
            have HKZ := Lib.hid (show kids pk = 0 by rw [ek]; exact kids_zero wU k7 k9 k6 k8)
            clear f7 f9 f6 f8
            clear ek et en ek' et' en' hk ht hn k7 k9 k6 k8 hUV wU wV
            go_enter Tryd.func38, Tryd.ntmps38
            go_wp2_with fail
            refine reg38 i j t.length c ⟨pk, pa, pb, pn, pt⟩ ⟨qk, qa, qb, qn, qt⟩ ad W HIJ.out.1 HIJ.out.2 HAd.out HAd.out HP.out HQ.out (fun _ _ d _ _ h => by cases d <;> exact h) ?_
            intro b7 b8 w1 v10 v11 v12 v13 v14 v15 v16 v17 h7 h8 hb1
            have HB1 := Lib.hid hb1
            have x0 : w1.cell? ⟨b7, 0, none⟩ = some (.int .i64 pk) := h7.cell 0
            have x1 : w1.cell? ⟨b7, 1, none⟩ = some (.int .i64 pa) := h7.cell 1
            have x2 : w1.cell? ⟨b7, 2, none⟩ = some (.int .i64 pb) := h7.cell 2
            have x3 : w1.cell? ⟨b7, 3, none⟩ = some (.int .i64 pn) := h7.cell 3
            have x4 : w1.cell? ⟨b7, 4, none⟩ = some (strV pt) := h7.cell 4
            have y0 : w1.cell? ⟨b8, 0, none⟩ = some (.int .i64 qk) := h8.cell 0
            have y1 : w1.cell? ⟨b8, 1, none⟩ = some (.int .i64 qa) := h8.cell 1
            have y2 : w1.cell? ⟨b8, 2, none⟩ = some (.int .i64 qb) := h8.cell 2
            have y3 : w1.cell? ⟨b8, 3, none⟩ = some (.int .i64 qn) := h8.cell 3
            have y4 : w1.cell? ⟨b8, 4, none⟩ = some (strV qt) := h8.cell 4
            clear h7 h8 hb1
            go_wp2_with fail
            refine (c27 pk _).mono ?_
            rintro e wk ⟨rfl, rfl⟩
            rw [HKZ.out]
            go_wp2_with fail
            go_ret
            exact ⟨by rw [decide_eq_true HNE.out]; rfl, HB1.out⟩
          · obtain ⟨j1, e1, hl1, hs1⟩ := HU.out
            obtain ⟨j2, e2, hl2, hs2⟩ := HV.out
            have ep := Option.some.inj (HPX.out.symm.trans hl1)
            have eq := Option.some.inj (HQX.out.symm.trans hl2)
            injection ep with p1 p2 p3 p4 p5
            injection eq with q1 q2 q3 q4 q5
            subst p1 p2 p3 p4 p5 q1 q2 q3 q4 q5
            have HS1 := Lib.hid hs1
            have HS2 := Lib.hid hs2
            have hks := hk'
            have HDec := Lib.hid (show ∀ k, decide (Ty.one k s = Ty.one k s') = decide (s = s') from fun k => by simp)
            have WS := Lib.hid wU.2
            have WS' := Lib.hid wV.2
            clear ek et en ek' et' en' hk ht hn hk' hs1 hs2 hl1 hl2 e1 e2 HU HV wU wV
            rcases hks with rfl | rfl
            · go_enter Tryd.func38, Tryd.ntmps38
              go_wp2_with fail
              refine reg38 i j t.length c ⟨7, (j1 : Int), 0, 0, []⟩ ⟨7, (j2 : Int), 0, 0, []⟩ ad W HIJ.out.1 HIJ.out.2 HAd.out HAd.out HP.out HQ.out (fun _ _ d _ _ h => by cases d <;> exact h) ?_
              intro b7 b8 w1 v10 v11 v12 v13 v14 v15 v16 v17 h7 h8 hb1
              have HB1 := Lib.hid hb1
              have x0 : w1.cell? ⟨b7, 0, none⟩ = some (.int .i64 7) := h7.cell 0
              have x1 : w1.cell? ⟨b7, 1, none⟩ = some (.int .i64 (j1 : Int)) := h7.cell 1
              have x2 : w1.cell? ⟨b7, 2, none⟩ = some (.int .i64 0) := h7.cell 2
              have x3 : w1.cell? ⟨b7, 3, none⟩ = some (.int .i64 0) := h7.cell 3
              have x4 : w1.cell? ⟨b7, 4, none⟩ = some (strV []) := h7.cell 4
              have y0 : w1.cell? ⟨b8, 0, none⟩ = some (.int .i64 7) := h8.cell 0
              have y1 : w1.cell? ⟨b8, 1, none⟩ = some (.int .i64 (j2 : Int)) := h8.cell 1
              have y2 : w1.cell? ⟨b8, 2, none⟩ = some (.int .i64 0) := h8.cell 2
              have y3 : w1.cell? ⟨b8, 3, none⟩ = some (.int .i64 0) := h8.cell 3
              have y4 : w1.cell? ⟨b8, 4, none⟩ = some (strV []) := h8.cell 4
              clear h7 h8 hb1
              go_wp2_with fail
              refine (c27 7 _).mono ?_
              rintro e wk ⟨rfl, rfl⟩
              rw [show kids 7 = 1 from rfl]
              go_wp2_with fail
              refine (IH.out s s' j1 j2 w1 (by have := HS.out; simp only [Ty.size] at this; omega) WS.out WS'.out HS1.out HS2.out (HM.out.next HB1.out)).mono ?_
              rintro e w2 ⟨rfl, hb2⟩
              have HB2 := Lib.hid (next_ HB1.out hb2)
              clear hb2
              have HDD := Lib.hid (HDec.out 7)
              generalize decide (s = s') = bd at HDD ⊢
              cases bd
              all_goals
                go_wp2_with fail
                go_ret
                exact ⟨by rw [HDD.out]; rfl, HB2.out⟩
            · go_enter Tryd.func38, Tryd.ntmps38
              go_wp2_with fail
              refine reg38 i j t.length c ⟨9, (j1 : Int), 0, 0, []⟩ ⟨9, (j2 : Int), 0, 0, []⟩ ad W HIJ.out.1 HIJ.out.2 HAd.out HAd.out HP.out HQ.out (fun _ _ d _ _ h => by cases d <;> exact h) ?_
              intro b7 b8 w1 v10 v11 v12 v13 v14 v15 v16 v17 h7 h8 hb1
              have HB1 := Lib.hid hb1
              have x0 : w1.cell? ⟨b7, 0, none⟩ = some (.int .i64 9) := h7.cell 0
              have x1 : w1.cell? ⟨b7, 1, none⟩ = some (.int .i64 (j1 : Int)) := h7.cell 1
              have x2 : w1.cell? ⟨b7, 2, none⟩ = some (.int .i64 0) := h7.cell 2
              have x3 : w1.cell? ⟨b7, 3, none⟩ = some (.int .i64 0) := h7.cell 3
              have x4 : w1.cell? ⟨b7, 4, none⟩ = some (strV []) := h7.cell 4
              have y0 : w1.cell? ⟨b8, 0, none⟩ = some (.int .i64 9) := h8.cell 0
              have y1 : w1.cell? ⟨b8, 1, none⟩ = some (.int .i64 (j2 : Int)) := h8.cell 1
              have y2 : w1.cell? ⟨b8, 2, none⟩ = some (.int .i64 0) := h8.cell 2
              have y3 : w1.cell? ⟨b8, 3, none⟩ = some (.int .i64 0) := h8.cell 3
              have y4 : w1.cell? ⟨b8, 4, none⟩ = some (strV []) := h8.cell 4
              clear h7 h8 hb1
              go_wp2_with fail
              refine (c27 9 _).mono ?_
              rintro e wk ⟨rfl, rfl⟩
              rw [show kids 9 = 1 from rfl]
              go_wp2_with fail
              refine (IH.out s s' j1 j2 w1 (by have := HS.out; simp only [Ty.size] at this; omega) WS.out WS'.out HS1.out HS2.out (HM.out.next HB1.out)).mono ?_
              rintro e w2 ⟨rfl, hb2⟩
              have HB2 := Lib.hid (next_ HB1.out hb2)
              clear hb2
              have HDD := Lib.hid (HDec.out 9)
              generalize decide (s = s') = bd at HDD ⊢
              cases bd
              all_goals
                go_wp2_with fail
                go_ret
                exact ⟨by rw [HDD.out]; rfl, HB2.out⟩
          · obtain ⟨j1, g1, e1, hl1, hs1, hu1, _⟩ := HU.out
            obtain ⟨j2, g2, e2, hl2, hs2, hu2, _⟩ := HV.out
            have ep := Option.some.inj (HPX.out.symm.trans hl1)
            have eq := Option.some.inj (HQX.out.symm.trans hl2)
            injection ep with p1 p2 p3 p4 p5
            injection eq with q1 q2 q3 q4 q5
            subst p1 p2 p3 p4 p5 q1 q2 q3 q4 q5
            have HS1 := Lib.hid hs1
            have HS2 := Lib.hid hs2
            have HS3 := Lib.hid hu1
            have HS4 := Lib.hid hu2
            have hks := hk'
            have HDec := Lib.hid (show ∀ k, decide (Ty.two k s u = Ty.two k s' u') = (decide (s = s') && decide (u = u')) from fun k => by simp)
            have WS := Lib.hid wU.2
            have WS' := Lib.hid wV.2
            clear ek et en ek' et' en' hk ht hn hk' hs1 hs2 hu1 hu2 hl1 hl2 e1 e2 HU HV wU wV
            rcases hks with rfl | rfl
            · go_enter Tryd.func38, Tryd.ntmps38
              go_wp2_with fail
              refine reg38 i j t.length c ⟨6, (g1 : Int), (j1 : Int), 0, []⟩ ⟨6, (g2 : Int), (j2 : Int), 0, []⟩ ad W HIJ.out.1 HIJ.out.2 HAd.out HAd.out HP.out HQ.out (fun _ _ d _ _ h => by cases d <;> exact h) ?_
              intro b7 b8 w1 v10 v11 v12 v13 v14 v15 v16 v17 h7 h8 hb1
              have HB1 := Lib.hid hb1
              have x0 : w1.cell? ⟨b7, 0, none⟩ = some (.int .i64 6) := h7.cell 0
              have x1 : w1.cell? ⟨b7, 1, none⟩ = some (.int .i64 (g1 : Int)) := h7.cell 1
              have x2 : w1.cell? ⟨b7, 2, none⟩ = some (.int .i64 (j1 : Int)) := h7.cell 2
              have x3 : w1.cell? ⟨b7, 3, none⟩ = some (.int .i64 0) := h7.cell 3
              have x4 : w1.cell? ⟨b7, 4, none⟩ = some (strV []) := h7.cell 4
              have y0 : w1.cell? ⟨b8, 0, none⟩ = some (.int .i64 6) := h8.cell 0
              have y1 : w1.cell? ⟨b8, 1, none⟩ = some (.int .i64 (g2 : Int)) := h8.cell 1
              have y2 : w1.cell? ⟨b8, 2, none⟩ = some (.int .i64 (j2 : Int)) := h8.cell 2
              have y3 : w1.cell? ⟨b8, 3, none⟩ = some (.int .i64 0) := h8.cell 3
              have y4 : w1.cell? ⟨b8, 4, none⟩ = some (strV []) := h8.cell 4
              have H7 := Lib.hid h7
              have H8 := Lib.hid h8
              clear h7 h8 hb1
              go_wp2_with fail
              refine (c27 6 _).mono ?_
              rintro e wk ⟨rfl, rfl⟩
              rw [show kids 6 = 2 from rfl]
              go_wp2_with fail
              refine (IH.out s s' g1 g2 w1 (by have := HS.out; have := u.size_pos; simp only [Ty.size] at *; omega) WS.out.1 WS'.out.1 HS1.out HS2.out (HM.out.next HB1.out)).mono ?_
              rintro e w2 ⟨rfl, hb2⟩
              have HB2 := Lib.hid (next_ HB1.out hb2)
              have z7 : w2.cell? ⟨b7, 2, none⟩ = some (.int .i64 (j1 : Int)) := (H7.out.next hb2).cell 2
              have z8 : w2.cell? ⟨b8, 2, none⟩ = some (.int .i64 (j2 : Int)) := (H8.out.next hb2).cell 2
              clear hb2
              by_cases hss : s = s'
              · have HSS := Lib.hid hss
                rw [decide_eq_true hss]
                clear hss
                go_wp2_with fail
                refine (IH.out u u' j1 j2 w2 (by have := HS.out; have := s.size_pos; simp only [Ty.size] at *; omega) WS.out.2 WS'.out.2 HS3.out HS4.out (HM.out.next HB2.out)).mono ?_
                rintro e w3 ⟨rfl, hb3⟩
                have HB3 := Lib.hid (next_ HB2.out hb3)
                clear hb3
                have HDD := Lib.hid (HDec.out 6)
                generalize decide (u = u') = bd at HDD ⊢
                cases bd
                all_goals
                  go_wp2_with fail
                  go_ret
                  exact ⟨by rw [HDD.out, decide_eq_true HSS.out]; rfl, HB3.out⟩
              · have HSS := Lib.hid hss
                rw [decide_eq_false hss]
                clear hss
                go_wp2_with fail
                go_ret
                exact ⟨by rw [HDec.out _, decide_eq_false HSS.out]; rfl, HB2.out⟩
            · go_enter Tryd.func38, Tryd.ntmps38
              go_wp2_with fail
              refine reg38 i j t.length c ⟨8, (g1 : Int), (j1 : Int), 0, []⟩ ⟨8, (g2 : Int), (j2 : Int), 0, []⟩ ad W HIJ.out.1 HIJ.out.2 HAd.out HAd.out HP.out HQ.out (fun _ _ d _ _ h => by cases d <;> exact h) ?_
              intro b7 b8 w1 v10 v11 v12 v13 v14 v15 v16 v17 h7 h8 hb1
              have HB1 := Lib.hid hb1
              have x0 : w1.cell? ⟨b7, 0, none⟩ = some (.int .i64 8) := h7.cell 0
              have x1 : w1.cell? ⟨b7, 1, none⟩ = some (.int .i64 (g1 : Int)) := h7.cell 1
              have x2 : w1.cell? ⟨b7, 2, none⟩ = some (.int .i64 (j1 : Int)) := h7.cell 2
              have x3 : w1.cell? ⟨b7, 3, none⟩ = some (.int .i64 0) := h7.cell 3
              have x4 : w1.cell? ⟨b7, 4, none⟩ = some (strV []) := h7.cell 4
              have y0 : w1.cell? ⟨b8, 0, none⟩ = some (.int .i64 8) := h8.cell 0
              have y1 : w1.cell? ⟨b8, 1, none⟩ = some (.int .i64 (g2 : Int)) := h8.cell 1
              have y2 : w1.cell? ⟨b8, 2, none⟩ = some (.int .i64 (j2 : Int)) := h8.cell 2
              have y3 : w1.cell? ⟨b8, 3, none⟩ = some (.int .i64 0) := h8.cell 3
              have y4 : w1.cell? ⟨b8, 4, none⟩ = some (strV []) := h8.cell 4
              have H7 := Lib.hid h7
              have H8 := Lib.hid h8
              clear h7 h8 hb1
              go_wp2_with fail
              refine (c27 8 _).mono ?_
              rintro e wk ⟨rfl, rfl⟩
              rw [show kids 8 = 2 from rfl]
              go_wp2_with fail
              refine (IH.out s s' g1 g2 w1 (by have := HS.out; have := u.size_pos; simp only [Ty.size] at *; omega) WS.out.1 WS'.out.1 HS1.out HS2.out (HM.out.next HB1.out)).mono ?_
              rintro e w2 ⟨rfl, hb2⟩
              have HB2 := Lib.hid (next_ HB1.out hb2)
              have z7 : w2.cell? ⟨b7, 2, none⟩ = some (.int .i64 (j1 : Int)) := (H7.out.next hb2).cell 2
              have z8 : w2.cell? ⟨b8, 2, none⟩ = some (.int .i64 (j2 : Int)) := (H8.out.next hb2).cell 2
              clear hb2
              by_cases hss : s = s'
              · have HSS := Lib.hid hss
                rw [decide_eq_true hss]
                clear hss
                go_wp2_with fail
                refine (IH.out u u' j1 j2 w2 (by have := HS.out; have := s.size_pos; simp only [Ty.size] at *; omega) WS.out.2 WS'.out.2 HS3.out HS4.out (HM.out.next HB2.out)).mono ?_
                rintro e w3 ⟨rfl, hb3⟩
                have HB3 := Lib.hid (next_ HB2.out hb3)
                clear hb3
                have HDD := Lib.hid (HDec.out 8)
                generalize decide (u = u') = bd at HDD ⊢
                cases bd
                all_goals
                  go_wp2_with fail
                  go_ret
                  exact ⟨by rw [HDD.out, decide_eq_true HSS.out]; rfl, HB3.out⟩
              · have HSS := Lib.hid hss
                rw [decide_eq_false hss]
                clear hss
                go_wp2_with fail
                go_ret
                exact ⟨by rw [HDec.out _, decide_eq_false HSS.out]; rfl, HB2.out⟩
        · have f3 : (pn != qn) = true := bne_iff_ne.2 hn
          have HNE := Lib.hid (show U ≠ V from fun e => hn (by rw [en, en', e]))
          clear ek et en ek' et' en' hk ht hn wU wV
          go_enter Tryd.func38, Tryd.ntmps38
          go_wp2_with fail
          refine reg38 i j t.length c ⟨pk, pa, pb, pn, pt⟩ ⟨qk, qa, qb, qn, qt⟩ ad W HIJ.out.1 HIJ.out.2 HAd.out HAd.out HP.out HQ.out (fun _ _ d _ _ h => by cases d <;> exact h) ?_
          intro b7 b8 w1 v10 v11 v12 v13 v14 v15 v16 v17 h7 h8 hb1
          have HB1 := Lib.hid hb1
          have x0 : w1.cell? ⟨b7, 0, none⟩ = some (.int .i64 pk) := h7.cell 0
          have x1 : w1.cell? ⟨b7, 1, none⟩ = some (.int .i64 pa) := h7.cell 1
          have x2 : w1.cell? ⟨b7, 2, none⟩ = some (.int .i64 pb) := h7.cell 2
          have x3 : w1.cell? ⟨b7, 3, none⟩ = some (.int .i64 pn) := h7.cell 3
          have x4 : w1.cell? ⟨b7, 4, none⟩ = some (strV pt) := h7.cell 4
          have y0 : w1.cell? ⟨b8, 0, none⟩ = some (.int .i64 qk) := h8.cell 0
          have y1 : w1.cell? ⟨b8, 1, none⟩ = some (.int .i64 qa) := h8.cell 1
          have y2 : w1.cell? ⟨b8, 2, none⟩ = some (.int .i64 qb) := h8.cell 2
          have y3 : w1.cell? ⟨b8, 3, none⟩ = some (.int .i64 qn) := h8.cell 3
          have y4 : w1.cell? ⟨b8, 4, none⟩ = some (strV qt) := h8.cell 4
          clear h7 h8 hb1
          go_wp2_with fail
          go_ret
          exact ⟨by rw [decide_eq_false HNE.out]; rfl, HB1.out⟩
      · have f2 : (pt == qt) = false := beq_false_of_ne ht
        have HNE := Lib.hid (show U ≠ V from fun e => ht (by rw [et, et', e]))
        clear ek et en ek' et' en' hk ht wU wV
        go_enter Tryd.func38, Tryd.ntmps38
        go_wp2_with fail
        refine reg38 i j t.length c ⟨pk, pa, pb, pn, pt⟩ ⟨qk, qa, qb, qn, qt⟩ ad W HIJ.out.1 HIJ.out.2 HAd.out HAd.out HP.out HQ.out (fun _ _ d _ _ h => by cases d <;> exact h) ?_
        intro b7 b8 w1 v10 v11 v12 v13 v14 v15 v16 v17 h7 h8 hb1
        have HB1 := Lib.hid hb1
        have x0 : w1.cell? ⟨b7, 0, none⟩ = some (.int .i64 pk) := h7.cell 0
        have x1 : w1.cell? ⟨b7, 1, none⟩ = some (.int .i64 pa) := h7.cell 1
        have x2 : w1.cell? ⟨b7, 2, none⟩ = some (.int .i64 pb) := h7.cell 2
        have x3 : w1.cell? ⟨b7, 3, none⟩ = some (.int .i64 pn) := h7.cell 3
        have x4 : w1.cell? ⟨b7, 4, none⟩ = some (strV pt) := h7.cell 4
        have y0 : w1.cell? ⟨b8, 0, none⟩ = some (.int .i64 qk) := h8.cell 0
        have y1 : w1.cell? ⟨b8, 1, none⟩ = some (.int .i64 qa) := h8.cell 1
        have y2 : w1.cell? ⟨b8, 2, none⟩ = some (.int .i64 qb) := h8.cell 2
        have y3 : w1.cell? ⟨b8, 3, none⟩ = some (.int .i64 qn) := h8.cell 3
        have y4 : w1.cell? ⟨b8, 4, none⟩ = some (strV qt) := h8.cell 4
        clear h7 h8 hb1
        go_wp2_with fail
        go_ret
        exact ⟨by rw [decide_eq_false HNE.out]; rfl, HB1.out⟩
    · have f1 : (pk != qk) = true := bne_iff_ne.2 hk
      have HNE := Lib.hid (show U ≠ V from fun e => hk (by rw [ek, ek', e]))
      clear ek et en ek' et' en' hk wU wV
      go_enter Tryd.func38, Tryd.ntmps38
      go_wp2_with fail
      refine reg38 i j t.length c ⟨pk, pa, pb, pn, pt⟩ ⟨qk, qa, qb, qn, qt⟩ ad W HIJ.out.1 HIJ.out.2 HAd.out HAd.out HP.out HQ.out (fun _ _ d _ _ h => by cases d <;> exact h) ?_
      intro b7 b8 w1 v10 v11 v12 v13 v14 v15 v16 v17 h7 h8 hb1
      have HB1 := Lib.hid hb1
      have x0 : w1.cell? ⟨b7, 0, none⟩ = some (.int .i64 pk) := h7.cell 0
      have x1 : w1.cell? ⟨b7, 1, none⟩ = some (.int .i64 pa) := h7.cell 1
      have x2 : w1.cell? ⟨b7, 2, none⟩ = some (.int .i64 pb) := h7.cell 2
      have x3 : w1.cell? ⟨b7, 3, none⟩ = some (.int .i64 pn) := h7.cell 3
      have x4 : w1.cell? ⟨b7, 4, none⟩ = some (strV pt) := h7.cell 4
      have y0 : w1.cell? ⟨b8, 0, none⟩ = some (.int .i64 qk) := h8.cell 0
      have y1 : w1.cell? ⟨b8, 1, none⟩ = some (.int .i64 qa) := h8.cell 1
      have y2 : w1.cell? ⟨b8, 2, none⟩ = some (.int .i64 qb) := h8.cell 2
      have y3 : w1.cell? ⟨b8, 3, none⟩ = some (.int .i64 qn) := h8.cell 3
      have y4 : w1.cell? ⟨b8, 4, none⟩ = some (strV qt) := h8.cell 4
      clear h7 h8 hb1
      go_wp2_with fail
      go_ret
      exact ⟨by rw [decide_eq_false HNE.out]; rfl, HB1.out⟩
end Go.Proofs.YtcilodgpbdafeaaDoor
