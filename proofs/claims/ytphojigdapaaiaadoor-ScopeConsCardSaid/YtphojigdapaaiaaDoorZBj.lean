/- The names of a pattern. -/
import Derived.Test.YtphojigdapaaiaaDoorZBi
import Derived.StillTailTactics
import Derived.Deep.QuietTactic
import Derived.BigQuiet
import Derived.Test.YtphojigdapaaiaaDoorSHp
namespace Go.Proofs.YtphojigdapaaiaaDoor
open Go.ChangeShapes Go.WideShapes Go.ChangeAt Go.RowKit
set_option linter.unusedVariables false
set_option linter.unusedSimpArgs false
structure Nm (W0 : World) (g cb bb xq mq wq mm : Nat) (t : Tre) (met : KS → Option Nat) (w : World) : Prop where
  x : Blk w xq 62 #[ptr g]
  m : Blk w mq 65 #[.map (some mm)]
  f : Blk w wq 68 #[.func (.func 55) #[] #[ptr xq, ptr mq, ptr wq]]
  map : SMap w mm (fun s => (met s).map natV)
  lt : ∀ s i, met s = some i → i < t.l.length
  le : W0.heap.size ≤ mm
  nc : mm ≠ cb
  nb : mm ≠ bb
section
variable {W0 w w' : World} {g pb cb bb xq mq wq mm : Nat} {A A' : Option Addr} {c c' : Nat} {t : Tre} {M : CM} {B : KS → Int} {bad : List Bool} {met : KS → Option Nat}
theorem Nm.next (h : Nm W0 g cb bb xq mq wq mm t met w) (hb : Below w.heap.size w w') : Nm W0 g cb bb xq mq wq mm t met w' :=
  ⟨h.x.next hb, h.m.next hb, h.f.next hb, h.map.next hb, h.lt, h.le, h.nc, h.nb⟩
theorem Nm.setBad (h : Nm W0 g cb bb xq mq wq mm t met w) (ha : Ak W0 g pb cb bb A A' c c' t M B bad w) (k : Nat) (v : Value) : Nm W0 g cb bb xq mq wq mm t met (w.setCell ⟨pb, k, none⟩ v) :=
  ⟨h.x.far (p := ⟨pb, k, none⟩) (h.x.ne_ ha.mark (by decide)) v, h.m.far (p := ⟨pb, k, none⟩) (h.m.ne_ ha.mark (by decide)) v, h.f.far (p := ⟨pb, k, none⟩) (h.f.ne_ ha.mark (by decide)) v, map_set h.map (p := ⟨pb, k, none⟩) (h.map.ne ha.mark) v, h.lt, h.le, h.nc, h.nb⟩
theorem met_put {met : KS → Option Nat} (s : KS) (k : Nat) : (fun x => if x = s then some (natV k) else (met x).map natV) = (fun x => (put met s k x).map natV) := by
  funext x
  unfold put
  split <;> rfl
theorem Nm.put (h : Nm W0 g cb bb xq mq wq mm t met w) (ha : Ak W0 g pb cb bb A A' c c' t M B bad w) (s : KS) (k : Nat) (hk : k < t.l.length) : ∃ w', (Instr.mapUpdate 65 (.map (some mm)) (strV s) (.int .i64 (k : Int))).run Tryd.prog w = .ok () w' ∧ Nm W0 g cb bb xq mq wq mm t (Go.Proofs.YtphojigdapaaiaaDoor.put met s k) w' ∧ Ak W0 g pb cb bb A A' c c' t M B bad w' ∧ w.grownBy w' (some mm) := by
  obtain ⟨w', hr, hm, hg⟩ := store65 h.map s (natV k)
  rw [met_put] at hm
  have hne : ∀ {b : Nat} {ty : TypeId} {cs : Array Value}, Blk w b ty cs → some b ≠ some mm := fun hb e => h.map.ne hb (Option.some.inj e)
  refine ⟨w', hr, ⟨h.x.grown hg (hne h.x), h.m.grown hg (hne h.m), h.f.grown hg (hne h.f), hm, fun x i hi => ?_, h.le, h.nc, h.nb⟩, ha.grown hg (fun j hj => by obtain rfl := Option.some.inj hj; exact ⟨h.le, fun e => h.map.ne ha.ask e.symm, fun e => h.map.ne ha.mark e.symm, h.nc, h.nb⟩), hg⟩
  unfold Go.Proofs.YtphojigdapaaiaaDoor.put at hi
  split at hi
  · rw [← Option.some.inj hi]; exact hk
  · exact h.lt x i hi
end
theorem kids_le (x : Nod) : (kidsS x).length ≤ 3 := by
  unfold kidsS
  repeat' split
  all_goals first
    | exact Nat.le_trans (List.length_filter_le _ _) (by simp)
    | simp
set_option maxRecDepth 100000 in
set_option maxHeartbeats 8000000 in
theorem c55 {W0 : World} {g pb cb bb xq mq wq mm : Nat} {A A' : Option Addr} {c c' : Nat} {t : Tre} {M : CM} {B : KS → Int} (hs : Shp t) (n : Nat) : ∀ (k : Nat) (S : NS) (w : World), k < n → k < t.l.length →
    Ak W0 g pb cb bb A A' c c' t M B S.bad w → Nm W0 g cb bb xq mq wq mm t S.met w →
    Calls Tryd.prog 55 #[.int .i64 (k : Int), ptr xq, ptr mq, ptr wq] w (fun e w' => e = .returned (.tuple #[]) ∧ Ak W0 g pb cb bb A A' c c' t M B (namesF t n k S).bad w' ∧ Nm W0 g cb bb xq mq wq mm t (namesF t n k S).met w' ∧ Fr pb mm w w') := by
  induction n with
  | zero => exact fun _ _ _ h => absurd h (Nat.not_lt_zero _)
  | succ n ih =>
    intro k S w hkn hkl ha hm
    have HI := Lib.hid ih
    clear ih
    have HSH := Lib.hid hs
    have HA0 := Lib.hid ha
    have HM0 := Lib.hid hm
    have HF0 := Lib.hid (Fr.refl pb mm w)
    have HKN := Lib.hid hkn
    have hx := nd_at hkl
    have HX := Lib.hid hx
    have HLN := Lib.hid hs.len
    have HEQ := Lib.hid (show namesF t (n + 1) k S = (kidsS (nd t (nameStep k (nd t k) S).2)).foldl (fun S c => namesF t n c.toNat S) (nameStep k (nd t k) S).1 from rfl)
    generalize hq : nd t k = x at hx HX HEQ
    clear hq ha hm hs
    have i1 : (0 : Int) ≤ (k : Int) := by omega
    have i2 : (k : Int) < (t.l.length : Int) := by omega
    obtain ⟨ad, hA, _, hcs⟩ := (HA0.out.tree.next HA0.out.low).nodes.nodAt hx
    subst hA
    have HCS := Lib.hid hcs
    have q0 : w.cell? ⟨xq, 0, none⟩ = some (ptr g) := HM0.out.x.cell 0
    have a0 : w.cell? ⟨g, 0, none⟩ = some (.slice (some ad) t.l.length c) := HA0.out.ask.cell 0
    clear hcs hx
    have hN := Blk.new w 30 #[.int .i64 x.k, strV x.t, strV x.t2, .int .i64 x.n, .int .i64 x.a, .int .i64 x.b, .int .i64 x.c, .int .i64 x.h]
    have hb1 := below_new w (.cells #[.int .i64 x.k, strV x.t, strV x.t2, .int .i64 x.n, .int .i64 x.a, .int .i64 x.b, .int .i64 x.c, .int .i64 x.h] 30)
    have HA1 := Lib.hid (HA0.out.next hb1)
    have HM1 := Lib.hid (HM0.out.next hb1)
    have HF1 := Lib.hid (HF0.out.below hb1)
    generalize hw1 : w.alloc (.cells #[.int .i64 x.k, strV x.t, strV x.t2, .int .i64 x.n, .int .i64 x.a, .int .i64 x.b, .int .i64 x.c, .int .i64 x.h] 30) = w1 at hN hb1 HA1 HM1 HF1
    have HN1 := Lib.hid hN
    clear hN hb1 HA0 HM0 HF0
    dsimp only [ptr]
    go_enter Tryd.func55, Tryd.ntmps55
    go_upto_region 1 with (refine wpList_load_at rfl 30 (.tmp 16) rfl (ad.add (k * 8)) rfl [.int .i64 x.k, strV x.t, strV x.t2, .int .i64 x.n, .int .i64 x.a, .int .i64 x.b, .int .i64 x.c, .int .i64 x.h] _ HCS.out Tryd.underlying30 rfl (by kernel_rfl) ?_)
    clear hw1 q0 a0 i1 i2
    generalize w.heap.size = nb at HN1 ⊢
    have n0 : w1.cell? ⟨nb, 0, none⟩ = some (.int .i64 x.k) := HN1.out.cell 0
    have n1 : w1.cell? ⟨nb, 1, none⟩ = some (strV x.t) := HN1.out.cell 1
    by_cases h27 : x.k = 27
    · have HK27 := Lib.hid h27
      rw [h27] at n0
      clear h27
      cases hme : S.met x.t with
      | some a =>
        have HME := Lib.hid hme
        have HAL := Lib.hid (HM1.out.lt _ _ hme)
        clear hme
        rcases (by omega : a < k ∨ ¬ a < k) with h9 | h9
        · have h1 : (a : Int) < (k : Int) := by omega
          have h2 : ¬ (k : Int) < (a : Int) := by omega
          have e5 : max (a : Int) (k : Int) = (k : Int) := by omega
          have e6 : min (a : Int) (k : Int) = (a : Int) := by omega
          have HK1 := Lib.hid (show a ≤ k ∧ a < t.l.length by have := HAL.out; omega)
          have HMX := Lib.hid (show k < t.l.length by have := HAL.out; omega)
          replace HEQ := Lib.hid (show namesF t (n + 1) k S = (kidsS (nd t a)).foldl (fun S c => namesF t n c.toNat S) ⟨S.bad.set k true, put S.met x.t a⟩ by
            rw [HEQ.out]
            have h8 : nameStep k x S = (⟨S.bad.set k true, put S.met x.t a⟩, a) := by
              unfold nameStep
              rw [if_pos HK27.out, HME.out]
              simp only [Nat.max_def, Nat.min_def]
              rw [if_pos (by omega), if_pos (by omega)]
            rw [h8])
          have hlk : (Instr.lookup 65 (.map (some mm)) (strV x.t) true).run Tryd.prog w1 = .ok (.tuple #[.int .i64 (a : Int), .bool true]) w1 := by
            have h8 := look65 HM1.out.map x.t true
            simp only [HME.out] at h8
            exact h8
          have m0 : w1.cell? ⟨mq, 0, none⟩ = some (.map (some mm)) := HM1.out.m.cell 0
          have q0 : w1.cell? ⟨xq, 0, none⟩ = some (ptr g) := HM1.out.x.cell 0
          have a3 : w1.cell? ⟨g, 3, none⟩ = some (.slice (some ⟨pb, 0, none⟩) t.l.length t.l.length) := HA1.out.ask.cell 3
          have z0 : (0 : Int) ≤ (k : Int) := by omega
          have z1 : (k : Int) < (t.l.length : Int) := by have := HMX.out; omega
          have zf := HA1.out.mark.frozen k
          obtain ⟨u0, zc⟩ : ∃ u, w1.cell? ⟨pb, k, none⟩ = some u := ⟨_, (HA1.out.mark.cell k).trans (by rw [List.getElem?_toArray]; exact List.getElem?_eq_getElem (by rw [List.length_map, HA1.out.len]; exact HMX.out))⟩
          go_upto_region 5 with fail
          clear hlk m0 q0 a3 z0 z1 zf zc n0 n1
          have HA2 := Lib.hid (HA1.out.setBad k true)
          have HM2 := Lib.hid (HM1.out.setBad HA1.out k (.bool true))
          have HF2 := Lib.hid (HF1.out.set (p := ⟨pb, k, none⟩) (.inl rfl) (.bool true))
          have HN2 := Lib.hid (HN1.out.far (p := ⟨pb, k, none⟩) (HN1.out.ne_ HA1.out.mark (by decide)) (.bool true))
          clear HA1 HM1 HF1 HN1
          generalize w1.setCell ⟨pb, k, none⟩ (.bool true) = w2 at HA2 HM2 HF2 HN2 ⊢
          have n1 : w2.cell? ⟨nb, 1, none⟩ = some (strV x.t) := HN2.out.cell 1
          have m0 : w2.cell? ⟨mq, 0, none⟩ = some (.map (some mm)) := HM2.out.m.cell 0
          obtain ⟨w3, hst, hm3, ha3, hg3⟩ := HM2.out.put HA2.out x.t a HK1.out.2
          have HA3 := Lib.hid (show Ak W0 g pb cb bb (some ad) A' c c' t M B (⟨S.bad.set k true, put S.met x.t a⟩ : NS).bad w3 from ha3)
          have HM3 := Lib.hid (show Nm W0 g cb bb xq mq wq mm t (⟨S.bad.set k true, put S.met x.t a⟩ : NS).met w3 from hm3)
          have HF3 := Lib.hid (HF2.out.grown hg3 (fun i hi => .inr (.inl (Option.some.inj hi).symm)))
          clear hm3 ha3 hg3
          go_upto_region 7 with fail
          clear hst n1 m0 HA2 HM2 HF2 HN2
          have q0 : w3.cell? ⟨xq, 0, none⟩ = some (ptr g) := HM3.out.x.cell 0
          have a0 : w3.cell? ⟨g, 0, none⟩ = some (.slice (some ad) t.l.length c) := HA3.out.ask.cell 0
          have a1 : w3.cell? ⟨g, 1, none⟩ = some (.slice A' t.y.length c') := HA3.out.ask.cell 1
          have a2 : w3.cell? ⟨g, 2, none⟩ = some (.int .i64 t.r) := HA3.out.ask.cell 2
          go_wp2_with fail
          clear q0 a0 a1 a2
          refine (show Calls Tryd.prog 42 #[.agg #[.slice (some ad) t.l.length c, .slice A' t.y.length c', .int .i64 t.r], .int .i64 (a : Int)] w3 _ from c42 (A := some ad) (A' := A') (c := c) (c' := c') a _ w3 (HA3.out.tree.next HA3.out.low) (nd_at HK1.out.2)).mono ?_
          rintro e w30 ⟨Ak1, ck1, rfl, hown, hb30⟩
          rw [List.length_map] at hown ⊢
          have HA30 := Lib.hid (HA3.out.next hb30)
          have HM30 := Lib.hid (HM3.out.next hb30)
          have HF30 := Lib.hid (HF3.out.below hb30)
          have HO30 := Lib.hid hown
          have HOL := Lib.hid (show ∀ i, blkOf Ak1 = some i → w3.heap.size ≤ i from fun i hi => (hown.lt i (by rw [own_blkOf]; exact hi)).1)
          clear hown hb30 HA3 HM3 HF3
          have HKD := Lib.hid (show ∀ c ∈ kidsS (nd t a), InR a c from HSH.out.kids a HK1.out.2)
          have HKL := Lib.hid (show (kidsS (nd t a)).length ≤ 3 from kids_le _)
          generalize hkk : kidsS (nd t a) = ks at HO30 HKD HKL HEQ ⊢
          clear hkk
          go_wp2_with fail
          go_loopw [51] (fun iv wr => ∃ (j : Nat), j ≤ ks.length ∧ iv = .int .i64 j ∧ Ak W0 g pb cb bb (some ad) A' c c' t M B ((ks.take j).foldl (fun S c => namesF t n c.toNat S) (⟨S.bad.set k true, put S.met x.t a⟩ : NS)).bad wr ∧ Nm W0 g cb bb xq mq wq mm t ((ks.take j).foldl (fun S c => namesF t n c.toNat S) (⟨S.bad.set k true, put S.met x.t a⟩ : NS)).met wr ∧ Fr pb mm w wr ∧ wr.ownsRow w3.heap.size 3 1 (.slice Ak1 ks.length ck1) ks.length (ks.map intV)) (fun iv _ => ks.length - (intOf iv).toNat)
          case atStart => exact ⟨0, by omega, rfl, HA30.out, HM30.out, HF30.out, HO30.out⟩
          case round =>
            obtain ⟨j, hj, rfl, ha, hm, hf, ho⟩ := hrel
            have HA := Lib.hid ha
            have HM := Lib.hid hm
            have HF := Lib.hid hf
            have HO := Lib.hid ho
            clear ha hm hf ho HA30 HM30 HF30 HO30
            by_cases hlt : j < ks.length
            · have HLT := Lib.hid hlt
              have hlj : (j : Int) < (ks.length : Int) := by omega
              have hj0 : (0 : Int) ≤ (j : Int) := by omega
              obtain ⟨ad2, u, hA2, _, hu, hcell⟩ := (Reads.of_own HO.out).at_ hlt
              subst hA2
              have hkj : ks[j]? = some ks[j] := List.getElem?_eq_getElem hlt
              have HRG := Lib.hid (HKD.out _ (List.getElem_mem hlt))
              rw [List.getElem?_map, hkj] at hu
              obtain rfl := Option.some.inj hu
              have HTK := Lib.hid (show (ks.take (j + 1)).foldl (fun S c => namesF t n c.toNat S) (⟨S.bad.set k true, put S.met x.t a⟩ : NS) = namesF t n (ks[j]).toNat ((ks.take j).foldl (fun S c => namesF t n c.toNat S) (⟨S.bad.set k true, put S.met x.t a⟩ : NS)) by rw [List.take_add_one, hkj, List.foldl_append]; rfl)
              generalize ks[j] = kc at hcell HRG HTK
              obtain ⟨m, rfl⟩ : ∃ m : Nat, kc = (m : Int) := ⟨kc.toNat, by have := HRG.out.1; omega⟩
              rw [Int.toNat_natCast] at HTK
              replace hcell : wr.cell? (ad2.add j) = some (.int .i64 (m : Int)) := hcell
              have f0 : wr.cell? ⟨wq, 0, none⟩ = some (.func (.func 55) #[] #[ptr xq, ptr mq, ptr wq]) := HM.out.f.cell 0
              clear hkj hu
              go_wp2_with fail
              clear hcell f0
              have hrg := HRG.out
              unfold InR at hrg
              refine (HI.out m _ wr (by have := HKN.out; have := HK1.out.1; omega) (by have := HK1.out.2; omega) HA.out HM.out).mono ?_
              rintro e w40 ⟨rfl, ha, hm, hf⟩
              clear hrg
              rw [← HTK.out] at ha hm
              have HA40 := Lib.hid ha
              have HM40 := Lib.hid hm
              have HF40 := Lib.hid (HF.out.trans hf)
              have HO40 := Lib.hid (own_fr HO.out hf (by rw [← own_blkOf (some ad2) ks.length ck1]; exact own_blk_ne HO.out HA.out.mark (by decide)) (by rw [← own_blkOf (some ad2) ks.length ck1]; exact own_map_ne HO.out HM.out.map))
              clear ha hm hf HA HM HF HO
              have hj9 : j < 3 := Nat.lt_of_lt_of_le HLT.out HKL.out
              go_wp2_with fail
              go_roundw
              case rel => exact ⟨j + 1, HLT.out, by go_num, HA40.out, HM40.out, HF40.out, HO40.out⟩
              case measure =>
                have := HLT.out
                simp [intOf]
                omega
            · obtain rfl : j = ks.length := by omega
              have hlj : ¬ ((ks.length : Int) < (ks.length : Int)) := by omega
              have HTK := Lib.hid (show (ks.take ks.length).foldl (fun S c => namesF t n c.toNat S) (⟨S.bad.set k true, put S.met x.t a⟩ : NS) = namesF t (n + 1) k S by rw [List.take_length, HEQ.out])
              rw [HTK.out] at HA HM
              go_wp2_with fail
              go_end0
              exact ⟨rfl, HA.out, HM.out, HF.out⟩
        · rcases (by omega : k < a ∨ a = k) with h10 | h10
          · have h1 : ¬ (a : Int) < (k : Int) := by omega
            have h2 : (k : Int) < (a : Int) := by omega
            have e5 : max (a : Int) (k : Int) = (a : Int) := by omega
            have e6 : min (a : Int) (k : Int) = (k : Int) := by omega
            have HK1 := Lib.hid (show k ≤ k ∧ k < t.l.length by have := HAL.out; omega)
            have HMX := Lib.hid (show a < t.l.length by have := HAL.out; omega)
            replace HEQ := Lib.hid (show namesF t (n + 1) k S = (kidsS (nd t k)).foldl (fun S c => namesF t n c.toNat S) ⟨S.bad.set a true, put S.met x.t k⟩ by
              rw [HEQ.out]
              have h8 : nameStep k x S = (⟨S.bad.set a true, put S.met x.t k⟩, k) := by
                unfold nameStep
                rw [if_pos HK27.out, HME.out]
                simp only [Nat.max_def, Nat.min_def]
                rw [if_neg (by omega), if_neg (by omega)]
              rw [h8])
            have hlk : (Instr.lookup 65 (.map (some mm)) (strV x.t) true).run Tryd.prog w1 = .ok (.tuple #[.int .i64 (a : Int), .bool true]) w1 := by
              have h8 := look65 HM1.out.map x.t true
              simp only [HME.out] at h8
              exact h8
            have m0 : w1.cell? ⟨mq, 0, none⟩ = some (.map (some mm)) := HM1.out.m.cell 0
            have q0 : w1.cell? ⟨xq, 0, none⟩ = some (ptr g) := HM1.out.x.cell 0
            have a3 : w1.cell? ⟨g, 3, none⟩ = some (.slice (some ⟨pb, 0, none⟩) t.l.length t.l.length) := HA1.out.ask.cell 3
            have z0 : (0 : Int) ≤ (a : Int) := by omega
            have z1 : (a : Int) < (t.l.length : Int) := by have := HMX.out; omega
            have zf := HA1.out.mark.frozen a
            obtain ⟨u0, zc⟩ : ∃ u, w1.cell? ⟨pb, a, none⟩ = some u := ⟨_, (HA1.out.mark.cell a).trans (by rw [List.getElem?_toArray]; exact List.getElem?_eq_getElem (by rw [List.length_map, HA1.out.len]; exact HMX.out))⟩
            go_upto_region 5 with fail
            clear hlk m0 q0 a3 z0 z1 zf zc n0 n1
            have HA2 := Lib.hid (HA1.out.setBad a true)
            have HM2 := Lib.hid (HM1.out.setBad HA1.out a (.bool true))
            have HF2 := Lib.hid (HF1.out.set (p := ⟨pb, a, none⟩) (.inl rfl) (.bool true))
            have HN2 := Lib.hid (HN1.out.far (p := ⟨pb, a, none⟩) (HN1.out.ne_ HA1.out.mark (by decide)) (.bool true))
            clear HA1 HM1 HF1 HN1
            generalize w1.setCell ⟨pb, a, none⟩ (.bool true) = w2 at HA2 HM2 HF2 HN2 ⊢
            have n1 : w2.cell? ⟨nb, 1, none⟩ = some (strV x.t) := HN2.out.cell 1
            have m0 : w2.cell? ⟨mq, 0, none⟩ = some (.map (some mm)) := HM2.out.m.cell 0
            obtain ⟨w3, hst, hm3, ha3, hg3⟩ := HM2.out.put HA2.out x.t k HK1.out.2
            have HA3 := Lib.hid (show Ak W0 g pb cb bb (some ad) A' c c' t M B (⟨S.bad.set a true, put S.met x.t k⟩ : NS).bad w3 from ha3)
            have HM3 := Lib.hid (show Nm W0 g cb bb xq mq wq mm t (⟨S.bad.set a true, put S.met x.t k⟩ : NS).met w3 from hm3)
            have HF3 := Lib.hid (HF2.out.grown hg3 (fun i hi => .inr (.inl (Option.some.inj hi).symm)))
            clear hm3 ha3 hg3
            go_upto_region 7 with fail
            clear hst n1 m0 HA2 HM2 HF2 HN2
            have q0 : w3.cell? ⟨xq, 0, none⟩ = some (ptr g) := HM3.out.x.cell 0
            have a0 : w3.cell? ⟨g, 0, none⟩ = some (.slice (some ad) t.l.length c) := HA3.out.ask.cell 0
            have a1 : w3.cell? ⟨g, 1, none⟩ = some (.slice A' t.y.length c') := HA3.out.ask.cell 1
            have a2 : w3.cell? ⟨g, 2, none⟩ = some (.int .i64 t.r) := HA3.out.ask.cell 2
            go_wp2_with fail
            clear q0 a0 a1 a2
            refine (show Calls Tryd.prog 42 #[.agg #[.slice (some ad) t.l.length c, .slice A' t.y.length c', .int .i64 t.r], .int .i64 (k : Int)] w3 _ from c42 (A := some ad) (A' := A') (c := c) (c' := c') k _ w3 (HA3.out.tree.next HA3.out.low) (nd_at HK1.out.2)).mono ?_
            rintro e w30 ⟨Ak1, ck1, rfl, hown, hb30⟩
            rw [List.length_map] at hown ⊢
            have HA30 := Lib.hid (HA3.out.next hb30)
            have HM30 := Lib.hid (HM3.out.next hb30)
            have HF30 := Lib.hid (HF3.out.below hb30)
            have HO30 := Lib.hid hown
            have HOL := Lib.hid (show ∀ i, blkOf Ak1 = some i → w3.heap.size ≤ i from fun i hi => (hown.lt i (by rw [own_blkOf]; exact hi)).1)
            clear hown hb30 HA3 HM3 HF3
            have HKD := Lib.hid (show ∀ c ∈ kidsS (nd t k), InR k c from HSH.out.kids k HK1.out.2)
            have HKL := Lib.hid (show (kidsS (nd t k)).length ≤ 3 from kids_le _)
            generalize hkk : kidsS (nd t k) = ks at HO30 HKD HKL HEQ ⊢
            clear hkk
            go_wp2_with fail
            go_loopw [51] (fun iv wr => ∃ (j : Nat), j ≤ ks.length ∧ iv = .int .i64 j ∧ Ak W0 g pb cb bb (some ad) A' c c' t M B ((ks.take j).foldl (fun S c => namesF t n c.toNat S) (⟨S.bad.set a true, put S.met x.t k⟩ : NS)).bad wr ∧ Nm W0 g cb bb xq mq wq mm t ((ks.take j).foldl (fun S c => namesF t n c.toNat S) (⟨S.bad.set a true, put S.met x.t k⟩ : NS)).met wr ∧ Fr pb mm w wr ∧ wr.ownsRow w3.heap.size 3 1 (.slice Ak1 ks.length ck1) ks.length (ks.map intV)) (fun iv _ => ks.length - (intOf iv).toNat)
            case atStart => exact ⟨0, by omega, rfl, HA30.out, HM30.out, HF30.out, HO30.out⟩
            case round =>
              obtain ⟨j, hj, rfl, ha, hm, hf, ho⟩ := hrel
              have HA := Lib.hid ha
              have HM := Lib.hid hm
              have HF := Lib.hid hf
              have HO := Lib.hid ho
              clear ha hm hf ho HA30 HM30 HF30 HO30
              by_cases hlt : j < ks.length
              · have HLT := Lib.hid hlt
                have hlj : (j : Int) < (ks.length : Int) := by omega
                have hj0 : (0 : Int) ≤ (j : Int) := by omega
                obtain ⟨ad2, u, hA2, _, hu, hcell⟩ := (Reads.of_own HO.out).at_ hlt
                subst hA2
                have hkj : ks[j]? = some ks[j] := List.getElem?_eq_getElem hlt
                have HRG := Lib.hid (HKD.out _ (List.getElem_mem hlt))
                rw [List.getElem?_map, hkj] at hu
                obtain rfl := Option.some.inj hu
                have HTK := Lib.hid (show (ks.take (j + 1)).foldl (fun S c => namesF t n c.toNat S) (⟨S.bad.set a true, put S.met x.t k⟩ : NS) = namesF t n (ks[j]).toNat ((ks.take j).foldl (fun S c => namesF t n c.toNat S) (⟨S.bad.set a true, put S.met x.t k⟩ : NS)) by rw [List.take_add_one, hkj, List.foldl_append]; rfl)
                generalize ks[j] = kc at hcell HRG HTK
                obtain ⟨m, rfl⟩ : ∃ m : Nat, kc = (m : Int) := ⟨kc.toNat, by have := HRG.out.1; omega⟩
                rw [Int.toNat_natCast] at HTK
                replace hcell : wr.cell? (ad2.add j) = some (.int .i64 (m : Int)) := hcell
                have f0 : wr.cell? ⟨wq, 0, none⟩ = some (.func (.func 55) #[] #[ptr xq, ptr mq, ptr wq]) := HM.out.f.cell 0
                clear hkj hu
                go_wp2_with fail
                clear hcell f0
                have hrg := HRG.out
                unfold InR at hrg
                refine (HI.out m _ wr (by have := HKN.out; have := HK1.out.1; omega) (by have := HK1.out.2; omega) HA.out HM.out).mono ?_
                rintro e w40 ⟨rfl, ha, hm, hf⟩
                clear hrg
                rw [← HTK.out] at ha hm
                have HA40 := Lib.hid ha
                have HM40 := Lib.hid hm
                have HF40 := Lib.hid (HF.out.trans hf)
                have HO40 := Lib.hid (own_fr HO.out hf (by rw [← own_blkOf (some ad2) ks.length ck1]; exact own_blk_ne HO.out HA.out.mark (by decide)) (by rw [← own_blkOf (some ad2) ks.length ck1]; exact own_map_ne HO.out HM.out.map))
                clear ha hm hf HA HM HF HO
                have hj9 : j < 3 := Nat.lt_of_lt_of_le HLT.out HKL.out
                go_wp2_with fail
                go_roundw
                case rel => exact ⟨j + 1, HLT.out, by go_num, HA40.out, HM40.out, HF40.out, HO40.out⟩
                case measure =>
                  have := HLT.out
                  simp [intOf]
                  omega
              · obtain rfl : j = ks.length := by omega
                have hlj : ¬ ((ks.length : Int) < (ks.length : Int)) := by omega
                have HTK := Lib.hid (show (ks.take ks.length).foldl (fun S c => namesF t n c.toNat S) (⟨S.bad.set a true, put S.met x.t k⟩ : NS) = namesF t (n + 1) k S by rw [List.take_length, HEQ.out])
                rw [HTK.out] at HA HM
                go_wp2_with fail
                go_end0
                exact ⟨rfl, HA.out, HM.out, HF.out⟩
          · have H10 := Lib.hid h10
            have h1 : ¬ (a : Int) < (k : Int) := by omega
            have h2 : ¬ (k : Int) < (a : Int) := by omega
            have e5 : max (a : Int) (k : Int) = (a : Int) := by omega
            have e6 : min (a : Int) (k : Int) = (a : Int) := by omega
            have HK1 := Lib.hid (show a ≤ k ∧ a < t.l.length by have := HAL.out; omega)
            have HMX := Lib.hid (show a < t.l.length by have := HAL.out; omega)
            replace HEQ := Lib.hid (show namesF t (n + 1) k S = (kidsS (nd t a)).foldl (fun S c => namesF t n c.toNat S) ⟨S.bad.set a true, put S.met x.t a⟩ by
              rw [HEQ.out]
              have h8 : nameStep k x S = (⟨S.bad.set a true, put S.met x.t a⟩, a) := by
                unfold nameStep
                rw [if_pos HK27.out, HME.out]
                simp only [Nat.max_def, Nat.min_def]
                rw [if_pos (by omega), if_pos (by omega)]
                rw [← h10]
              rw [h8])
            have hlk : (Instr.lookup 65 (.map (some mm)) (strV x.t) true).run Tryd.prog w1 = .ok (.tuple #[.int .i64 (a : Int), .bool true]) w1 := by
              have h8 := look65 HM1.out.map x.t true
              simp only [HME.out] at h8
              exact h8
            have m0 : w1.cell? ⟨mq, 0, none⟩ = some (.map (some mm)) := HM1.out.m.cell 0
            have q0 : w1.cell? ⟨xq, 0, none⟩ = some (ptr g) := HM1.out.x.cell 0
            have a3 : w1.cell? ⟨g, 3, none⟩ = some (.slice (some ⟨pb, 0, none⟩) t.l.length t.l.length) := HA1.out.ask.cell 3
            have z0 : (0 : Int) ≤ (a : Int) := by omega
            have z1 : (a : Int) < (t.l.length : Int) := by have := HMX.out; omega
            have zf := HA1.out.mark.frozen a
            obtain ⟨u0, zc⟩ : ∃ u, w1.cell? ⟨pb, a, none⟩ = some u := ⟨_, (HA1.out.mark.cell a).trans (by rw [List.getElem?_toArray]; exact List.getElem?_eq_getElem (by rw [List.length_map, HA1.out.len]; exact HMX.out))⟩
            clear h10
            go_upto_region 5 with fail
            clear hlk m0 q0 a3 z0 z1 zf zc n0 n1
            have HA2 := Lib.hid (HA1.out.setBad a true)
            have HM2 := Lib.hid (HM1.out.setBad HA1.out a (.bool true))
            have HF2 := Lib.hid (HF1.out.set (p := ⟨pb, a, none⟩) (.inl rfl) (.bool true))
            have HN2 := Lib.hid (HN1.out.far (p := ⟨pb, a, none⟩) (HN1.out.ne_ HA1.out.mark (by decide)) (.bool true))
            clear HA1 HM1 HF1 HN1
            generalize w1.setCell ⟨pb, a, none⟩ (.bool true) = w2 at HA2 HM2 HF2 HN2 ⊢
            have n1 : w2.cell? ⟨nb, 1, none⟩ = some (strV x.t) := HN2.out.cell 1
            have m0 : w2.cell? ⟨mq, 0, none⟩ = some (.map (some mm)) := HM2.out.m.cell 0
            obtain ⟨w3, hst, hm3, ha3, hg3⟩ := HM2.out.put HA2.out x.t a HK1.out.2
            have HA3 := Lib.hid (show Ak W0 g pb cb bb (some ad) A' c c' t M B (⟨S.bad.set a true, put S.met x.t a⟩ : NS).bad w3 from ha3)
            have HM3 := Lib.hid (show Nm W0 g cb bb xq mq wq mm t (⟨S.bad.set a true, put S.met x.t a⟩ : NS).met w3 from hm3)
            have HF3 := Lib.hid (HF2.out.grown hg3 (fun i hi => .inr (.inl (Option.some.inj hi).symm)))
            clear hm3 ha3 hg3
            go_upto_region 7 with fail
            clear hst n1 m0 HA2 HM2 HF2 HN2
            have q0 : w3.cell? ⟨xq, 0, none⟩ = some (ptr g) := HM3.out.x.cell 0
            have a0 : w3.cell? ⟨g, 0, none⟩ = some (.slice (some ad) t.l.length c) := HA3.out.ask.cell 0
            have a1 : w3.cell? ⟨g, 1, none⟩ = some (.slice A' t.y.length c') := HA3.out.ask.cell 1
            have a2 : w3.cell? ⟨g, 2, none⟩ = some (.int .i64 t.r) := HA3.out.ask.cell 2
            go_wp2_with fail
            clear q0 a0 a1 a2
            refine (show Calls Tryd.prog 42 #[.agg #[.slice (some ad) t.l.length c, .slice A' t.y.length c', .int .i64 t.r], .int .i64 (a : Int)] w3 _ from c42 (A := some ad) (A' := A') (c := c) (c' := c') a _ w3 (HA3.out.tree.next HA3.out.low) (nd_at HK1.out.2)).mono ?_
            rintro e w30 ⟨Ak1, ck1, rfl, hown, hb30⟩
            rw [List.length_map] at hown ⊢
            have HA30 := Lib.hid (HA3.out.next hb30)
            have HM30 := Lib.hid (HM3.out.next hb30)
            have HF30 := Lib.hid (HF3.out.below hb30)
            have HO30 := Lib.hid hown
            have HOL := Lib.hid (show ∀ i, blkOf Ak1 = some i → w3.heap.size ≤ i from fun i hi => (hown.lt i (by rw [own_blkOf]; exact hi)).1)
            clear hown hb30 HA3 HM3 HF3
            have HKD := Lib.hid (show ∀ c ∈ kidsS (nd t a), InR a c from HSH.out.kids a HK1.out.2)
            have HKL := Lib.hid (show (kidsS (nd t a)).length ≤ 3 from kids_le _)
            generalize hkk : kidsS (nd t a) = ks at HO30 HKD HKL HEQ ⊢
            clear hkk
            go_wp2_with fail
            go_loopw [51] (fun iv wr => ∃ (j : Nat), j ≤ ks.length ∧ iv = .int .i64 j ∧ Ak W0 g pb cb bb (some ad) A' c c' t M B ((ks.take j).foldl (fun S c => namesF t n c.toNat S) (⟨S.bad.set a true, put S.met x.t a⟩ : NS)).bad wr ∧ Nm W0 g cb bb xq mq wq mm t ((ks.take j).foldl (fun S c => namesF t n c.toNat S) (⟨S.bad.set a true, put S.met x.t a⟩ : NS)).met wr ∧ Fr pb mm w wr ∧ wr.ownsRow w3.heap.size 3 1 (.slice Ak1 ks.length ck1) ks.length (ks.map intV)) (fun iv _ => ks.length - (intOf iv).toNat)
            case atStart => exact ⟨0, by omega, rfl, HA30.out, HM30.out, HF30.out, HO30.out⟩
            case round =>
              obtain ⟨j, hj, rfl, ha, hm, hf, ho⟩ := hrel
              have HA := Lib.hid ha
              have HM := Lib.hid hm
              have HF := Lib.hid hf
              have HO := Lib.hid ho
              clear ha hm hf ho HA30 HM30 HF30 HO30
              by_cases hlt : j < ks.length
              · have HLT := Lib.hid hlt
                have hlj : (j : Int) < (ks.length : Int) := by omega
                have hj0 : (0 : Int) ≤ (j : Int) := by omega
                obtain ⟨ad2, u, hA2, _, hu, hcell⟩ := (Reads.of_own HO.out).at_ hlt
                subst hA2
                have hkj : ks[j]? = some ks[j] := List.getElem?_eq_getElem hlt
                have HRG := Lib.hid (HKD.out _ (List.getElem_mem hlt))
                rw [List.getElem?_map, hkj] at hu
                obtain rfl := Option.some.inj hu
                have HTK := Lib.hid (show (ks.take (j + 1)).foldl (fun S c => namesF t n c.toNat S) (⟨S.bad.set a true, put S.met x.t a⟩ : NS) = namesF t n (ks[j]).toNat ((ks.take j).foldl (fun S c => namesF t n c.toNat S) (⟨S.bad.set a true, put S.met x.t a⟩ : NS)) by rw [List.take_add_one, hkj, List.foldl_append]; rfl)
                generalize ks[j] = kc at hcell HRG HTK
                obtain ⟨m, rfl⟩ : ∃ m : Nat, kc = (m : Int) := ⟨kc.toNat, by have := HRG.out.1; omega⟩
                rw [Int.toNat_natCast] at HTK
                replace hcell : wr.cell? (ad2.add j) = some (.int .i64 (m : Int)) := hcell
                have f0 : wr.cell? ⟨wq, 0, none⟩ = some (.func (.func 55) #[] #[ptr xq, ptr mq, ptr wq]) := HM.out.f.cell 0
                clear hkj hu
                go_wp2_with fail
                clear hcell f0
                have hrg := HRG.out
                unfold InR at hrg
                refine (HI.out m _ wr (by have := HKN.out; have := HK1.out.1; omega) (by have := HK1.out.2; omega) HA.out HM.out).mono ?_
                rintro e w40 ⟨rfl, ha, hm, hf⟩
                clear hrg
                rw [← HTK.out] at ha hm
                have HA40 := Lib.hid ha
                have HM40 := Lib.hid hm
                have HF40 := Lib.hid (HF.out.trans hf)
                have HO40 := Lib.hid (own_fr HO.out hf (by rw [← own_blkOf (some ad2) ks.length ck1]; exact own_blk_ne HO.out HA.out.mark (by decide)) (by rw [← own_blkOf (some ad2) ks.length ck1]; exact own_map_ne HO.out HM.out.map))
                clear ha hm hf HA HM HF HO
                have hj9 : j < 3 := Nat.lt_of_lt_of_le HLT.out HKL.out
                go_wp2_with fail
                go_roundw
                case rel => exact ⟨j + 1, HLT.out, by go_num, HA40.out, HM40.out, HF40.out, HO40.out⟩
                case measure =>
                  have := HLT.out
                  simp [intOf]
                  omega
              · obtain rfl : j = ks.length := by omega
                have hlj : ¬ ((ks.length : Int) < (ks.length : Int)) := by omega
                have HTK := Lib.hid (show (ks.take ks.length).foldl (fun S c => namesF t n c.toNat S) (⟨S.bad.set a true, put S.met x.t a⟩ : NS) = namesF t (n + 1) k S by rw [List.take_length, HEQ.out])
                rw [HTK.out] at HA HM
                go_wp2_with fail
                go_end0
                exact ⟨rfl, HA.out, HM.out, HF.out⟩
      | none =>
        have HME := Lib.hid hme
        clear hme
        have HK1 := Lib.hid (show k ≤ k ∧ k < t.l.length from ⟨Nat.le_refl _, hkl⟩)
        replace HEQ := Lib.hid (show namesF t (n + 1) k S = (kidsS (nd t k)).foldl (fun S c => namesF t n c.toNat S) ⟨S.bad, put S.met x.t k⟩ by
          rw [HEQ.out]
          have h8 : nameStep k x S = (⟨S.bad, put S.met x.t k⟩, k) := by
            unfold nameStep
            rw [if_pos HK27.out, HME.out]
          rw [h8])
        have hlk : (Instr.lookup 65 (.map (some mm)) (strV x.t) true).run Tryd.prog w1 = .ok (.tuple #[.int .i64 0, .bool false]) w1 := by
          have h8 := look65 HM1.out.map x.t true
          simp only [HME.out] at h8
          exact h8
        have m0 : w1.cell? ⟨mq, 0, none⟩ = some (.map (some mm)) := HM1.out.m.cell 0
        go_upto_region 6 with fail
        clear hlk m0 n0 n1
        have n1 : w1.cell? ⟨nb, 1, none⟩ = some (strV x.t) := HN1.out.cell 1
        have m0 : w1.cell? ⟨mq, 0, none⟩ = some (.map (some mm)) := HM1.out.m.cell 0
        obtain ⟨w3, hst, hm3, ha3, hg3⟩ := HM1.out.put HA1.out x.t k HK1.out.2
        have HA3 := Lib.hid (show Ak W0 g pb cb bb (some ad) A' c c' t M B (⟨S.bad, put S.met x.t k⟩ : NS).bad w3 from ha3)
        have HM3 := Lib.hid (show Nm W0 g cb bb xq mq wq mm t (⟨S.bad, put S.met x.t k⟩ : NS).met w3 from hm3)
        have HF3 := Lib.hid (HF1.out.grown hg3 (fun i hi => .inr (.inl (Option.some.inj hi).symm)))
        clear hm3 ha3 hg3
        go_upto_region 7 with fail
        clear hst n1 m0 HA1 HM1 HF1 HN1
        have q0 : w3.cell? ⟨xq, 0, none⟩ = some (ptr g) := HM3.out.x.cell 0
        have a0 : w3.cell? ⟨g, 0, none⟩ = some (.slice (some ad) t.l.length c) := HA3.out.ask.cell 0
        have a1 : w3.cell? ⟨g, 1, none⟩ = some (.slice A' t.y.length c') := HA3.out.ask.cell 1
        have a2 : w3.cell? ⟨g, 2, none⟩ = some (.int .i64 t.r) := HA3.out.ask.cell 2
        go_wp2_with fail
        clear q0 a0 a1 a2
        refine (show Calls Tryd.prog 42 #[.agg #[.slice (some ad) t.l.length c, .slice A' t.y.length c', .int .i64 t.r], .int .i64 (k : Int)] w3 _ from c42 (A := some ad) (A' := A') (c := c) (c' := c') k _ w3 (HA3.out.tree.next HA3.out.low) (nd_at HK1.out.2)).mono ?_
        rintro e w30 ⟨Ak1, ck1, rfl, hown, hb30⟩
        rw [List.length_map] at hown ⊢
        have HA30 := Lib.hid (HA3.out.next hb30)
        have HM30 := Lib.hid (HM3.out.next hb30)
        have HF30 := Lib.hid (HF3.out.below hb30)
        have HO30 := Lib.hid hown
        have HOL := Lib.hid (show ∀ i, blkOf Ak1 = some i → w3.heap.size ≤ i from fun i hi => (hown.lt i (by rw [own_blkOf]; exact hi)).1)
        clear hown hb30 HA3 HM3 HF3
        have HKD := Lib.hid (show ∀ c ∈ kidsS (nd t k), InR k c from HSH.out.kids k HK1.out.2)
        have HKL := Lib.hid (show (kidsS (nd t k)).length ≤ 3 from kids_le _)
        generalize hkk : kidsS (nd t k) = ks at HO30 HKD HKL HEQ ⊢
        clear hkk
        go_wp2_with fail
        go_loopw [51] (fun iv wr => ∃ (j : Nat), j ≤ ks.length ∧ iv = .int .i64 j ∧ Ak W0 g pb cb bb (some ad) A' c c' t M B ((ks.take j).foldl (fun S c => namesF t n c.toNat S) (⟨S.bad, put S.met x.t k⟩ : NS)).bad wr ∧ Nm W0 g cb bb xq mq wq mm t ((ks.take j).foldl (fun S c => namesF t n c.toNat S) (⟨S.bad, put S.met x.t k⟩ : NS)).met wr ∧ Fr pb mm w wr ∧ wr.ownsRow w3.heap.size 3 1 (.slice Ak1 ks.length ck1) ks.length (ks.map intV)) (fun iv _ => ks.length - (intOf iv).toNat)
        case atStart => exact ⟨0, by omega, rfl, HA30.out, HM30.out, HF30.out, HO30.out⟩
        case round =>
          obtain ⟨j, hj, rfl, ha, hm, hf, ho⟩ := hrel
          have HA := Lib.hid ha
          have HM := Lib.hid hm
          have HF := Lib.hid hf
          have HO := Lib.hid ho
          clear ha hm hf ho HA30 HM30 HF30 HO30
          by_cases hlt : j < ks.length
          · have HLT := Lib.hid hlt
            have hlj : (j : Int) < (ks.length : Int) := by omega
            have hj0 : (0 : Int) ≤ (j : Int) := by omega
            obtain ⟨ad2, u, hA2, _, hu, hcell⟩ := (Reads.of_own HO.out).at_ hlt
            subst hA2
            have hkj : ks[j]? = some ks[j] := List.getElem?_eq_getElem hlt
            have HRG := Lib.hid (HKD.out _ (List.getElem_mem hlt))
            rw [List.getElem?_map, hkj] at hu
            obtain rfl := Option.some.inj hu
            have HTK := Lib.hid (show (ks.take (j + 1)).foldl (fun S c => namesF t n c.toNat S) (⟨S.bad, put S.met x.t k⟩ : NS) = namesF t n (ks[j]).toNat ((ks.take j).foldl (fun S c => namesF t n c.toNat S) (⟨S.bad, put S.met x.t k⟩ : NS)) by rw [List.take_add_one, hkj, List.foldl_append]; rfl)
            generalize ks[j] = kc at hcell HRG HTK
            obtain ⟨m, rfl⟩ : ∃ m : Nat, kc = (m : Int) := ⟨kc.toNat, by have := HRG.out.1; omega⟩
            rw [Int.toNat_natCast] at HTK
            replace hcell : wr.cell? (ad2.add j) = some (.int .i64 (m : Int)) := hcell
            have f0 : wr.cell? ⟨wq, 0, none⟩ = some (.func (.func 55) #[] #[ptr xq, ptr mq, ptr wq]) := HM.out.f.cell 0
            clear hkj hu
            go_wp2_with fail
            clear hcell f0
            have hrg := HRG.out
            unfold InR at hrg
            refine (HI.out m _ wr (by have := HKN.out; have := HK1.out.1; omega) (by have := HK1.out.2; omega) HA.out HM.out).mono ?_
            rintro e w40 ⟨rfl, ha, hm, hf⟩
            clear hrg
            rw [← HTK.out] at ha hm
            have HA40 := Lib.hid ha
            have HM40 := Lib.hid hm
            have HF40 := Lib.hid (HF.out.trans hf)
            have HO40 := Lib.hid (own_fr HO.out hf (by rw [← own_blkOf (some ad2) ks.length ck1]; exact own_blk_ne HO.out HA.out.mark (by decide)) (by rw [← own_blkOf (some ad2) ks.length ck1]; exact own_map_ne HO.out HM.out.map))
            clear ha hm hf HA HM HF HO
            have hj9 : j < 3 := Nat.lt_of_lt_of_le HLT.out HKL.out
            go_wp2_with fail
            go_roundw
            case rel => exact ⟨j + 1, HLT.out, by go_num, HA40.out, HM40.out, HF40.out, HO40.out⟩
            case measure =>
              have := HLT.out
              simp [intOf]
              omega
          · obtain rfl : j = ks.length := by omega
            have hlj : ¬ ((ks.length : Int) < (ks.length : Int)) := by omega
            have HTK := Lib.hid (show (ks.take ks.length).foldl (fun S c => namesF t n c.toNat S) (⟨S.bad, put S.met x.t k⟩ : NS) = namesF t (n + 1) k S by rw [List.take_length, HEQ.out])
            rw [HTK.out] at HA HM
            go_wp2_with fail
            go_end0
            exact ⟨rfl, HA.out, HM.out, HF.out⟩
    · have HK1 := Lib.hid (show k ≤ k ∧ k < t.l.length from ⟨Nat.le_refl _, hkl⟩)
      replace HEQ := Lib.hid (show namesF t (n + 1) k S = (kidsS (nd t k)).foldl (fun S c => namesF t n c.toNat S) S by
        rw [HEQ.out]
        have h8 : nameStep k x S = (S, k) := by
          unfold nameStep
          rw [if_neg h27]
        rw [h8])
      have e27 : (x.k == 27) = false := beq_false_of_ne h27
      clear h27
      go_upto_region 7 with fail
      clear e27 n0 n1 HN1
      have q0 : w1.cell? ⟨xq, 0, none⟩ = some (ptr g) := HM1.out.x.cell 0
      have a0 : w1.cell? ⟨g, 0, none⟩ = some (.slice (some ad) t.l.length c) := HA1.out.ask.cell 0
      have a1 : w1.cell? ⟨g, 1, none⟩ = some (.slice A' t.y.length c') := HA1.out.ask.cell 1
      have a2 : w1.cell? ⟨g, 2, none⟩ = some (.int .i64 t.r) := HA1.out.ask.cell 2
      go_wp2_with fail
      clear q0 a0 a1 a2
      refine (show Calls Tryd.prog 42 #[.agg #[.slice (some ad) t.l.length c, .slice A' t.y.length c', .int .i64 t.r], .int .i64 (k : Int)] w1 _ from c42 (A := some ad) (A' := A') (c := c) (c' := c') k _ w1 (HA1.out.tree.next HA1.out.low) (nd_at HK1.out.2)).mono ?_
      rintro e w30 ⟨Ak1, ck1, rfl, hown, hb30⟩
      rw [List.length_map] at hown ⊢
      have HA30 := Lib.hid (HA1.out.next hb30)
      have HM30 := Lib.hid (HM1.out.next hb30)
      have HF30 := Lib.hid (HF1.out.below hb30)
      have HO30 := Lib.hid hown
      have HOL := Lib.hid (show ∀ i, blkOf Ak1 = some i → w1.heap.size ≤ i from fun i hi => (hown.lt i (by rw [own_blkOf]; exact hi)).1)
      clear hown hb30 HA1 HM1 HF1
      have HKD := Lib.hid (show ∀ c ∈ kidsS (nd t k), InR k c from HSH.out.kids k HK1.out.2)
      have HKL := Lib.hid (show (kidsS (nd t k)).length ≤ 3 from kids_le _)
      generalize hkk : kidsS (nd t k) = ks at HO30 HKD HKL HEQ ⊢
      clear hkk
      go_wp2_with fail
      go_loopw [51] (fun iv wr => ∃ (j : Nat), j ≤ ks.length ∧ iv = .int .i64 j ∧ Ak W0 g pb cb bb (some ad) A' c c' t M B ((ks.take j).foldl (fun S c => namesF t n c.toNat S) S).bad wr ∧ Nm W0 g cb bb xq mq wq mm t ((ks.take j).foldl (fun S c => namesF t n c.toNat S) S).met wr ∧ Fr pb mm w wr ∧ wr.ownsRow w1.heap.size 3 1 (.slice Ak1 ks.length ck1) ks.length (ks.map intV)) (fun iv _ => ks.length - (intOf iv).toNat)
      case atStart => exact ⟨0, by omega, rfl, HA30.out, HM30.out, HF30.out, HO30.out⟩
      case round =>
        obtain ⟨j, hj, rfl, ha, hm, hf, ho⟩ := hrel
        have HA := Lib.hid ha
        have HM := Lib.hid hm
        have HF := Lib.hid hf
        have HO := Lib.hid ho
        clear ha hm hf ho HA30 HM30 HF30 HO30
        by_cases hlt : j < ks.length
        · have HLT := Lib.hid hlt
          have hlj : (j : Int) < (ks.length : Int) := by omega
          have hj0 : (0 : Int) ≤ (j : Int) := by omega
          obtain ⟨ad2, u, hA2, _, hu, hcell⟩ := (Reads.of_own HO.out).at_ hlt
          subst hA2
          have hkj : ks[j]? = some ks[j] := List.getElem?_eq_getElem hlt
          have HRG := Lib.hid (HKD.out _ (List.getElem_mem hlt))
          rw [List.getElem?_map, hkj] at hu
          obtain rfl := Option.some.inj hu
          have HTK := Lib.hid (show (ks.take (j + 1)).foldl (fun S c => namesF t n c.toNat S) S = namesF t n (ks[j]).toNat ((ks.take j).foldl (fun S c => namesF t n c.toNat S) S) by rw [List.take_add_one, hkj, List.foldl_append]; rfl)
          generalize ks[j] = kc at hcell HRG HTK
          obtain ⟨m, rfl⟩ : ∃ m : Nat, kc = (m : Int) := ⟨kc.toNat, by have := HRG.out.1; omega⟩
          rw [Int.toNat_natCast] at HTK
          replace hcell : wr.cell? (ad2.add j) = some (.int .i64 (m : Int)) := hcell
          have f0 : wr.cell? ⟨wq, 0, none⟩ = some (.func (.func 55) #[] #[ptr xq, ptr mq, ptr wq]) := HM.out.f.cell 0
          clear hkj hu
          go_wp2_with fail
          clear hcell f0
          have hrg := HRG.out
          unfold InR at hrg
          refine (HI.out m _ wr (by have := HKN.out; have := HK1.out.1; omega) (by have := HK1.out.2; omega) HA.out HM.out).mono ?_
          rintro e w40 ⟨rfl, ha, hm, hf⟩
          clear hrg
          rw [← HTK.out] at ha hm
          have HA40 := Lib.hid ha
          have HM40 := Lib.hid hm
          have HF40 := Lib.hid (HF.out.trans hf)
          have HO40 := Lib.hid (own_fr HO.out hf (by rw [← own_blkOf (some ad2) ks.length ck1]; exact own_blk_ne HO.out HA.out.mark (by decide)) (by rw [← own_blkOf (some ad2) ks.length ck1]; exact own_map_ne HO.out HM.out.map))
          clear ha hm hf HA HM HF HO
          have hj9 : j < 3 := Nat.lt_of_lt_of_le HLT.out HKL.out
          go_wp2_with fail
          go_roundw
          case rel => exact ⟨j + 1, HLT.out, by go_num, HA40.out, HM40.out, HF40.out, HO40.out⟩
          case measure =>
            have := HLT.out
            simp [intOf]
            omega
        · obtain rfl : j = ks.length := by omega
          have hlj : ¬ ((ks.length : Int) < (ks.length : Int)) := by omega
          have HTK := Lib.hid (show (ks.take ks.length).foldl (fun S c => namesF t n c.toNat S) S = namesF t (n + 1) k S by rw [List.take_length, HEQ.out])
          rw [HTK.out] at HA HM
          go_wp2_with fail
          go_end0
          exact ⟨rfl, HA.out, HM.out, HF.out⟩
def NamesEnd (W0 : World) (g pb cb bb : Nat) (A A' : Option Addr) (c c' : Nat) (t : Tre) (M : CM) (B : KS → Int) (S : NS) (w : World) (e : Ending) (w' : World) : Prop :=
  ∃ mm, e = .returned (.map (some mm)) ∧ Ak W0 g pb cb bb A A' c c' t M B S.bad w' ∧ SMap w' mm (fun s => (S.met s).map natV) ∧ w.heap.size ≤ mm ∧ Fr pb pb w w'
set_option maxRecDepth 100000 in
set_option maxHeartbeats 8000000 in
theorem c41 {W0 : World} {g pb cb bb : Nat} {A A' : Option Addr} {c c' : Nat} {t : Tre} {M : CM} {B : KS → Int} (hs : Shp t) (k : Nat) (bad : List Bool) (w : World) (hkl : k < t.l.length) (ha : Ak W0 g pb cb bb A A' c c' t M B bad w) :
    Calls Tryd.prog 41 #[ptr g, .int .i64 (k : Int)] w (NamesEnd W0 g pb cb bb A A' c c' t M B (namesF t 501 k ⟨bad, fun _ => none⟩) w) := by
  have HSH := Lib.hid hs
  have HK := Lib.hid hkl
  have hb1 := below_new w (.cells #[ptr g] 62)
  have hX := Blk.new w 62 #[ptr g]
  have HA1 := Lib.hid (ha.next hb1)
  have HB1 := Lib.hid hb1
  have HX1 := Lib.hid hX
  have HLT := Lib.hid ha.con.lt
  have HLB := Lib.hid (show bb < w.heap.size from by obtain ⟨D, hD, _⟩ := ha.bnd; exact hD.lt)
  have HW := Lib.hid ha.size
  clear hs hkl hb1 hX ha
  dsimp only [ptr]
  go_enter Tryd.func41, Tryd.ntmps41
  go_upto_region 1 with fail
  replace HA1 := Lib.hid (show Ak W0 g pb cb bb A A' c c' t M B bad (w.alloc (.cells #[.pointer (some ⟨g, 0, none⟩)] 62)) from HA1.out)
  replace HB1 := Lib.hid (show Below w.heap.size w (w.alloc (.cells #[.pointer (some ⟨g, 0, none⟩)] 62)) from HB1.out)
  replace HX1 := Lib.hid (show Blk (w.alloc (.cells #[.pointer (some ⟨g, 0, none⟩)] 62)) w.heap.size 62 #[.pointer (some ⟨g, 0, none⟩)] from HX1.out)
  generalize w.alloc (.cells #[.pointer (some ⟨g, 0, none⟩)] 62) = w1 at HA1 HB1 HX1 ⊢
  have HXL := Lib.hid (Nat.le_refl w.heap.size)
  generalize hxq : w.heap.size = xq at HX1 ⊢
  have HXQ := Lib.hid hxq
  clear hxq
  -- the map, and the variable that holds it
  have hm := SMap.made w1
  have hbm := (Below.refl w1.heap.size w1).alloc (Nat.le_refl _) (.map #[] 0)
  have HA2 := Lib.hid (HA1.out.next hbm)
  have HB2 := Lib.hid (next_ HB1.out hbm)
  have HX2 := Lib.hid (HX1.out.next hbm)
  have HM2 := Lib.hid hm
  have HMM := Lib.hid (show w.heap.size ≤ w1.heap.size from HB1.out.size)
  clear hm hbm HA1 HB1 HX1
  have hmk := @run_makeMap Tryd.prog
  go_upto_region 2 with fail
  clear hmk
  have hb3 := below_new (w1.alloc (.map #[] 0)) (.cells #[.map (some w1.heap.size)] 65)
  have HA3 := Lib.hid (HA2.out.next hb3)
  have HB3 := Lib.hid (next_ HB2.out hb3)
  have HX3 := Lib.hid (HX2.out.next hb3)
  have HM3 := Lib.hid (HM2.out.next hb3)
  have hQ := Blk.new (w1.alloc (.map #[] 0)) 65 #[.map (some w1.heap.size)]
  rw [World.size_alloc] at hQ
  have HQ3 := Lib.hid hQ
  clear hQ hb3 HA2 HB2 HX2 HM2
  generalize (w1.alloc (.map #[] 0)).alloc (.cells #[.map (some w1.heap.size)] 65) = w3 at HA3 HB3 HX3 HM3 HQ3 ⊢
  generalize w1.heap.size = mm at HM3 HQ3 HMM ⊢
  generalize mm + 1 = mq at HQ3 ⊢
  go_upto_region 3 with fail
  have hb4 := below_new w3 (.cells #[.nilFunc] 68)
  have hW := Blk.new w3 68 #[.nilFunc]
  have HA4 := Lib.hid (HA3.out.next hb4)
  have HB4 := Lib.hid (next_ HB3.out hb4)
  have HX4 := Lib.hid (HX3.out.next hb4)
  have HM4 := Lib.hid (HM3.out.next hb4)
  have HQ4 := Lib.hid (HQ3.out.next hb4)
  have HWL := Lib.hid (show w.heap.size ≤ w3.heap.size from HB3.out.size)
  have HWN := Lib.hid (show w3.heap.size ≠ g ∧ w3.heap.size ≠ pb ∧ w3.heap.size ≠ cb ∧ w3.heap.size ≠ bb from ⟨by have := HA3.out.ask.lt; omega, by have := HA3.out.mark.lt; omega, by have := HA3.out.con.lt; omega, by obtain ⟨D, hD, _⟩ := HA3.out.bnd; have := hD.lt; omega⟩)
  have HW4 := Lib.hid hW
  have HMS := Lib.hid (show mm < w3.heap.size from HM3.out.lt)
  have HQS := Lib.hid (show mq < w3.heap.size from HQ3.out.lt)
  have HXS := Lib.hid (show xq < w3.heap.size from HX3.out.lt)
  clear hW hb4 HA3 HB3 HX3 HM3 HQ3
  generalize w3.alloc (.cells #[.nilFunc] 68) = w4 at HA4 HB4 HX4 HM4 HQ4 HW4 ⊢
  generalize w3.heap.size = wq at HW4 HWL HWN HMS HQS HXS ⊢
  have f0 : w4.cell? ⟨wq, 0, none⟩ = some .nilFunc := HW4.out.cell 0
  have ff := HW4.out.frozen 0
  have hmf : ∀ (fn : Fn) (first cap : Array Value) (w : World), (Instr.makeFunc fn first cap).run Tryd.prog w = .ok (.func fn first cap) w := fun _ _ _ _ => rfl
  have hsf := fun (a : Addr) (c : Array Value) (w : World) => run_store Tryd.prog w a (.func (.func 55) #[] c) .plain rfl
  go_upto_region 4 with fail
  clear f0 ff hmf hsf
  have HA5 := Lib.hid (HA4.out.far (b := wq) (i := 0) (by have := HWL.out; have := HW.out; omega) HWN.out.1 HWN.out.2.1 HWN.out.2.2.1 HWN.out.2.2.2 (.func (.func 55) #[] #[ptr xq, ptr mq, ptr wq]))
  have HB5 := Lib.hid (HB4.out.setCell (p := ⟨wq, 0, none⟩) HWL.out (.func (.func 55) #[] #[ptr xq, ptr mq, ptr wq]))
  have HX5 := Lib.hid (HX4.out.far (p := ⟨wq, 0, none⟩) (by have := HXS.out; show xq ≠ wq; omega) (.func (.func 55) #[] #[ptr xq, ptr mq, ptr wq]))
  have HQ5 := Lib.hid (HQ4.out.far (p := ⟨wq, 0, none⟩) (by have := HQS.out; show mq ≠ wq; omega) (.func (.func 55) #[] #[ptr xq, ptr mq, ptr wq]))
  have HM5 := Lib.hid (map_set HM4.out (p := ⟨wq, 0, none⟩) (by have := HMS.out; show wq ≠ mm; omega) (.func (.func 55) #[] #[ptr xq, ptr mq, ptr wq]))
  have hw5 := HW4.out.set_ 0 (.func (.func 55) #[] #[ptr xq, ptr mq, ptr wq])
  simp only [List.setIfInBounds_toArray, List.set_cons_zero] at hw5
  have HW5 := Lib.hid hw5
  clear hw5 HA4 HB4 HX4 HM4 HQ4 HW4
  dsimp only [ptr] at HA5 HB5 HX5 HQ5 HM5 HW5
  generalize w4.setCell ⟨wq, 0, none⟩ (.func (.func 55) #[] #[.pointer (some ⟨xq, 0, none⟩), .pointer (some ⟨mq, 0, none⟩), .pointer (some ⟨wq, 0, none⟩)]) = w5 at HA5 HB5 HX5 HM5 HQ5 HW5 ⊢
  have HNM := Lib.hid (show Nm W0 g cb bb xq mq wq mm t (fun _ => none) w5 from ⟨HX5.out, HQ5.out, HW5.out, HM5.out, (fun s i h => by cases h), by have := HMM.out; have := HW.out; omega, by have := HMM.out; have := HLT.out; omega, by have := HMM.out; have := HLB.out; omega⟩)
  have f0 : w5.cell? ⟨wq, 0, none⟩ = some (.func (.func 55) #[] #[ptr xq, ptr mq, ptr wq]) := HW5.out.cell 0
  clear HX5 HQ5 HM5 HW5
  go_wp2_with fail
  clear f0
  refine (c55 HSH.out 501 k ⟨bad, fun _ => none⟩ w5 (by have := HK.out; have := HSH.out.len; omega) HK.out HA5.out HNM.out).mono ?_
  rintro e w6 ⟨rfl, ha, hm, hf⟩
  have HA6 := Lib.hid ha
  have HM6 := Lib.hid hm
  have HF6 := Lib.hid (show Fr pb pb w w6 from ⟨hf.os.trans HB5.out.os, hf.tape.trans HB5.out.tape, hf.output.trans HB5.out.output, Nat.le_trans HB5.out.size hf.size, fun i hi h1 _ => (hf.block i (Nat.lt_of_lt_of_le hi HB5.out.size) h1 (by have := HMM.out; omega)).trans (HB5.out.block i hi)⟩)
  have m0 : w6.cell? ⟨mq, 0, none⟩ = some (.map (some mm)) := HM6.out.m.cell 0
  clear ha hm hf
  go_wp2_with fail
  go_ret
  exact ⟨mm, rfl, HA6.out, HM6.out.map, HMM.out, HF6.out⟩
def AkEnd (W0 : World) (g pb cb bb : Nat) (A A' : Option Addr) (c c' : Nat) (t : Tre) (M : CM) (B : KS → Int) (bad : List Bool) (w : World) (e : Ending) (w' : World) : Prop :=
  e = .returned (.tuple #[]) ∧ Ak W0 g pb cb bb A A' c c' t M B bad w' ∧ Fr pb bb w w'
def Few (B : KS → Int) (k : Nat) : Prop := ∀ s, 0 ≤ B s ∧ B s + 4 * (k : Int) ≤ 4000
def ExC (W0 : World) (g pb cb bb : Nat) (A A' : Option Addr) (c c' : Nat) (t : Tre) (M : CM) (n k : Nat) : Prop :=
  ∀ (B : KS → Int) (bad : List Bool) (w : World), Few B k → Ak W0 g pb cb bb A A' c c' t M B bad w → Calls Tryd.prog 28 #[ptr g, .int .i64 (k : Int)] w (AkEnd W0 g pb cb bb A A' c c' t M B (exprS t n k B bad) w)
theorem count_take (l : List KS) {j : Nat} (h : j < l.length) (s : KS) : (l.take (j + 1)).count s = (l.take j).count s + (if l[j] = s then 1 else 0) := by
  rw [List.take_add_one, List.getElem?_eq_getElem h]
  simp only [Option.toList_some, List.count_append, List.count_cons, List.count_nil, Nat.zero_add, beq_iff_eq]
theorem add_step (B : KS → Int) (l : List KS) {j : Nat} (h : j < l.length) : (fun x => if x = l[j] then addB B (l.take j) l[j] + 1 else addB B (l.take j) x) = addB B (l.take (j + 1)) := by
  funext x
  unfold addB
  rw [count_take l h x]
  by_cases hx : x = l[j]
  · rw [if_pos hx, if_pos hx.symm, hx]; omega
  · rw [if_neg hx, if_neg (fun e => hx e.symm)]; omega
def subB (B : KS → Int) (l : List KS) : KS → Int := fun s => B s - (l.count s : Int)
theorem sub_step (B : KS → Int) (l : List KS) {j : Nat} (h : j < l.length) : (fun x => if x = l[j] then subB B (l.take j) l[j] - 1 else subB B (l.take j) x) = subB B (l.take (j + 1)) := by
  funext x
  unfold subB
  rw [count_take l h x]
  by_cases hx : x = l[j]
  · rw [if_pos hx, if_pos hx.symm, hx]; omega
  · rw [if_neg hx, if_neg (fun e => hx e.symm)]; omega
theorem sub_add (B : KS → Int) (l : List KS) : subB (addB B l) l = B := by funext x; unfold subB addB; omega
theorem add_nil (B : KS → Int) : addB B [] = B := by funext x; unfold addB; simp
theorem sub_nil (B : KS → Int) : subB B [] = B := by funext x; unfold subB; simp
theorem take_count (l : List KS) (j : Nat) (s : KS) : ((l.take j).count s : Int) ≤ (l.count s : Int) := by
  have := (List.take_sublist j l).count_le s
  omega
set_option maxRecDepth 100000 in
set_option maxHeartbeats 8000000 in
theorem c39 {W0 : World} {g pb cb bb : Nat} {A A' : Option Addr} {c c' : Nat} {t : Tre} {M : CM} {B : KS → Int} {n k : Nat} {l : List KS} {bad : List Bool} {b0 : Nat} {A1 : Option Addr} {c1 : Nat} {w : World}
    (hE : ExC W0 g pb cb bb A A' c c' t M n k) (hp : ∀ s, 0 ≤ B s) (hf : Few (addB B l) k) (ha : Ak W0 g pb cb bb A A' c c' t M B bad w) (ho : w.ownsRow b0 9 1 (.slice A1 l.length c1) l.length (l.map strV)) :
    Calls Tryd.prog 39 #[ptr g, .int .i64 (k : Int), .slice A1 l.length c1] w (AkEnd W0 g pb cb bb A A' c c' t M B (exprS t n k (addB B l) bad) w) := by
  have HE := Lib.hid hE
  have HFW := Lib.hid hf
  have HPO := Lib.hid hp
  have HA0 := Lib.hid ha
  have HO0 := Lib.hid ho
  have HF0 := Lib.hid (Fr.refl pb bb w)
  have HLM := Lib.hid (show l.length ≤ 9223372036854775807 by have := own_cap ho; unfold maxLen at this; omega)
  clear hE hf hp ha ho
  dsimp only [ptr]
  go_enter Tryd.func39, Tryd.ntmps39
  go_wp2_with fail
  go_loopw [12] (fun iv wr => ∃ (j : Nat), j ≤ l.length ∧ iv = .int .i64 j ∧ Ak W0 g pb cb bb A A' c c' t M (addB B (l.take j)) bad wr ∧ Fr pb bb w wr ∧ wr.ownsRow b0 9 1 (.slice A1 l.length c1) l.length (l.map strV)) (fun iv _ => l.length - (intOf iv).toNat)
  case atStart => exact ⟨0, Nat.zero_le _, rfl, by rw [List.take_zero, add_nil]; exact HA0.out, HF0.out, HO0.out⟩
  case round =>
    obtain ⟨j, hj, rfl, ha, hf, ho⟩ := hrel
    have HA := Lib.hid ha
    have HF := Lib.hid hf
    have HO := Lib.hid ho
    clear ha hf ho HA0 HF0 HO0
    by_cases hlt : j < l.length
    · have HLT := Lib.hid hlt
      have hlj : (j : Int) < (l.length : Int) := by omega
      have hj0 : (0 : Int) ≤ (j : Int) := by omega
      have hj9 : (j : Int) + 1 ≤ 9223372036854775807 := by have := HLM.out; omega
      obtain ⟨ad2, u, hA2, _, hu, hcell⟩ := (Reads.of_own HO.out).at_ (show j < l.length from hlt)
      have hkj : l[j]? = some l[j] := List.getElem?_eq_getElem hlt
      rw [List.getElem?_map, hkj] at hu
      obtain rfl := Option.some.inj hu
      subst hA2
      have HST := Lib.hid (add_step B l hlt)
      have HCN := Lib.hid (show 0 ≤ addB B (l.take j) l[j] ∧ addB B (l.take j) l[j] ≤ 4000 from by
        have h1 := take_count l j l[j]
        have h2 := HFW.out l[j]
        have h3 := HPO.out l[j]
        unfold addB at h2
        unfold addB
        omega)
      have hlk := HA.out.bound l[j]
      generalize hsj : l[j] = sj at hcell HST HCN hlk
      replace hcell : wr.cell? (ad2.add j) = some (strV sj) := hcell
      have hb0 := HCN.out.1
      have hb1 := HCN.out.2
      obtain ⟨w3, hst, ha3, hg3⟩ := HA.out.bind sj (addB B (l.take j) sj + 1)
      rw [HST.out] at ha3
      generalize addB B (l.take j) sj = bs at hlk hst hb0 hb1
      have HA3 := Lib.hid ha3
      have HF3 := Lib.hid (HF.out.grown hg3 (fun i hi => .inr (.inl (Option.some.inj hi).symm)))
      have HO3 := Lib.hid (own_of_block HO.out (fun i hi => hg3.block i (HO.out.lt i hi).2 (fun e => by
        obtain ⟨D, hD, _⟩ := HA.out.bnd
        exact own_map_ne HO.out hD (by rw [hi, e]))))
      have a5 : wr.cell? ⟨g, 5, none⟩ = some (.map (some bb)) := HA.out.ask.cell 5
      clear ha3 hg3 hkj hsj hu
      go_upto_region 4 with fail
      clear hlk hst hb0 hb1 a5 hcell HA HF HO
      go_wp2_with fail
      go_roundw
      case rel => exact ⟨j + 1, HLT.out, by go_num, HA3.out, HF3.out, HO3.out⟩
      case measure =>
        have := HLT.out
        simp [intOf]
        omega
    · obtain rfl : j = l.length := by omega
      have hlj : ¬ ((l.length : Int) < (l.length : Int)) := by omega
      rw [List.take_length] at HA
      go_wp2_with fail
      refine (HE.out (addB B l) bad wr HFW.out HA.out).mono ?_
      rintro e w20 ⟨rfl, ha, hf⟩
      have HA20 := Lib.hid ha
      have HF20 := Lib.hid (HF.out.trans hf)
      have HO20 := Lib.hid (own_fr HO.out hf (by rw [← own_blkOf A1 l.length c1]; exact own_blk_ne HO.out HA.out.mark (by decide)) (by rw [← own_blkOf A1 l.length c1]; obtain ⟨D, hD, _⟩ := HA.out.bnd; exact own_map_ne HO.out hD))
      clear ha hf HA HF HO
      generalize hbd : exprS t n k (addB B l) bad = bad1 at HA20
      have HBD := Lib.hid hbd
      clear hbd
      go_wp2_with fail
      go_loopw [29] (fun iv wr => ∃ (j : Nat), j ≤ l.length ∧ iv = .int .i64 j ∧ Ak W0 g pb cb bb A A' c c' t M (subB (addB B l) (l.take j)) bad1 wr ∧ Fr pb bb w wr ∧ wr.ownsRow b0 9 1 (.slice A1 l.length c1) l.length (l.map strV)) (fun iv _ => l.length - (intOf iv).toNat)
      case atStart => exact ⟨0, Nat.zero_le _, rfl, by rw [List.take_zero, sub_nil]; exact HA20.out, HF20.out, HO20.out⟩
      case round =>
        obtain ⟨j, hj, rfl, ha, hf, ho⟩ := hrel
        have HA := Lib.hid ha
        have HF := Lib.hid hf
        have HO := Lib.hid ho
        clear ha hf ho HA20 HF20 HO20
        by_cases hlt : j < l.length
        · have HLT := Lib.hid hlt
          have hlj : (j : Int) < (l.length : Int) := by omega
          have hj0 : (0 : Int) ≤ (j : Int) := by omega
          have hj9 : (j : Int) + 1 ≤ 9223372036854775807 := by have := HLM.out; omega
          obtain ⟨ad2, u, hA2, _, hu, hcell⟩ := (Reads.of_own HO.out).at_ (show j < l.length from hlt)
          have hkj : l[j]? = some l[j] := List.getElem?_eq_getElem hlt
          rw [List.getElem?_map, hkj] at hu
          obtain rfl := Option.some.inj hu
          subst hA2
          have HST := Lib.hid (sub_step (addB B l) l hlt)
          have HCN := Lib.hid (show 0 ≤ subB (addB B l) (l.take j) l[j] ∧ subB (addB B l) (l.take j) l[j] ≤ 4000 from by
            have h1 := take_count l j l[j]
            have h2 := HFW.out l[j]
            have h3 := HPO.out l[j]
            unfold addB at h2
            unfold subB addB
            omega)
          have hlk := HA.out.bound l[j]
          generalize hsj : l[j] = sj at hcell HST HCN hlk
          replace hcell : wr.cell? (ad2.add j) = some (strV sj) := hcell
          have hb0 := HCN.out.1
          have hb1 := HCN.out.2
          obtain ⟨w3, hst, ha3, hg3⟩ := HA.out.bind sj (subB (addB B l) (l.take j) sj - 1)
          rw [HST.out] at ha3
          generalize subB (addB B l) (l.take j) sj = bs at hlk hst hb0 hb1
          have HA3 := Lib.hid ha3
          have HF3 := Lib.hid (HF.out.grown hg3 (fun i hi => .inr (.inl (Option.some.inj hi).symm)))
          have HO3 := Lib.hid (own_of_block HO.out (fun i hi => hg3.block i (HO.out.lt i hi).2 (fun e => by
            obtain ⟨D, hD, _⟩ := HA.out.bnd
            exact own_map_ne HO.out hD (by rw [hi, e]))))
          have a5 : wr.cell? ⟨g, 5, none⟩ = some (.map (some bb)) := HA.out.ask.cell 5
          clear ha3 hg3 hkj hsj hu
          go_upto_region 10 with fail
          clear hlk hst hb0 hb1 a5 hcell HA HF HO
          go_wp2_with fail
          go_roundw
          case rel => exact ⟨j + 1, HLT.out, by go_num, HA3.out, HF3.out, HO3.out⟩
          case measure =>
            have := HLT.out
            simp [intOf]
            omega
        · obtain rfl : j = l.length := by omega
          have hlj : ¬ ((l.length : Int) < (l.length : Int)) := by omega
          rw [List.take_length, sub_add] at HA
          go_wp2_with fail
          go_end0
          exact ⟨rfl, by rw [HBD.out]; exact HA.out, HF.out⟩
section
variable {W0 w w' : World} {g pb cb bb : Nat} {A A' : Option Addr} {c c' : Nat} {t : Tre} {M : CM} {B : KS → Int} {bad : List Bool}
theorem Ak.blk (ha : Ak W0 g pb cb bb A A' c c' t M B bad w) {nb : Nat} {ty : TypeId} {cs : Array Value} (hn : Blk w nb ty cs) (ht : ty ≠ 4) (hf : Fr pb bb w w') : Blk w' nb ty cs :=
  hn.fr hf (hn.ne_ ha.mark ht) (by obtain ⟨D, hD, _⟩ := ha.bnd; exact hD.ne hn)
theorem Ak.row (ha : Ak W0 g pb cb bb A A' c c' t M B bad w) {b0 : Nat} {ty : TypeId} {n c1 : Nat} {A1 : Option Addr} {xs : List Value} (ho : w.ownsRow b0 ty 1 (.slice A1 n c1) n xs) (ht : ty ≠ 4) (hf : Fr pb bb w w') : w'.ownsRow b0 ty 1 (.slice A1 n c1) n xs :=
  own_fr ho hf (by rw [← own_blkOf A1 n c1]; exact own_blk_ne ho ha.mark ht) (by rw [← own_blkOf A1 n c1]; obtain ⟨D, hD, _⟩ := ha.bnd; exact own_map_ne ho hD)
end
theorem Few.down {B : KS → Int} {k m : Nat} (h : Few B k) (hm : m < k) : Few B m := fun s => by
  have := h s
  omega
theorem Few.add {B : KS → Int} {k m : Nat} (h : Few B k) (hm : m < k) (l : List KS) (hl : ∀ s, l.count s ≤ 4) : Few (addB B l) m := fun s => by
  have h1 := h s
  have h2 := hl s
  unfold addB
  omega
theorem few_count {l : List KS} (hl : l.length ≤ 4) (s : KS) : l.count s ≤ 4 := Nat.le_trans List.count_le_length hl
theorem bind_len (s : KS) : (bindL s).length ≤ 4 := by unfold bindL; split <;> simp
theorem SIter.mem {w : World} {b r : Nat} {D : KS → Option Value} {done : List KS} {cnt : Nat} (h : SIter w b r D done cnt) : done.Nodup ∧ ∀ s ∈ done, (D s).isSome = true := by
  obtain ⟨es, clock, l, since, seen, c0, h1, h2, h3, h4, h5, h6, h7, h8, h9, h10, h11, h12, h13, h14⟩ := h
  exact ⟨h11, h13⟩
theorem len_sub {l1 : List KS} (h : l1.Nodup) : ∀ {l2 : List KS}, (∀ s ∈ l1, s ∈ l2) → l1.length ≤ l2.length := by
  induction l1 with
  | nil => intro l2 _; exact Nat.zero_le _
  | cons a l1 ih =>
    intro l2 hs
    obtain ⟨h2, h3⟩ := List.nodup_cons.1 h
    have ha := hs a (List.mem_cons_self ..)
    have h4 := ih h3 (l2 := l2.erase a) (fun s hm => (List.mem_erase_of_ne (fun e => h2 (by rw [← e]; exact hm))).2 (hs s (List.mem_cons_of_mem _ hm)))
    rw [List.length_erase_of_mem ha] at h4
    have h5 : 0 < l2.length := List.length_pos_of_mem ha
    show l1.length + 1 ≤ l2.length
    omega
def MetOk (t : Tre) (met : KS → Option Nat) : Prop := ∀ s i, met s = some i → i < t.l.length ∧ (nd t i).t = s
theorem name_ok {t : Tre} {k : Nat} {S : NS} (h : MetOk t S.met) (hk : k < t.l.length) : MetOk t (nameStep k (nd t k) S).1.met := by
  unfold nameStep
  split
  · split
    · rename_i a ha
      intro s i hi
      replace hi : (if s = (nd t k).t then some (min a k) else S.met s) = some i := hi
      split at hi
      · rename_i hs
        obtain ⟨h1, h2⟩ := h _ _ ha
        obtain rfl := Option.some.inj hi
        rcases Nat.le_total a k with h3 | h3
        · rw [Nat.min_eq_left h3]; exact ⟨h1, by rw [h2, hs]⟩
        · rw [Nat.min_eq_right h3]; exact ⟨hk, hs.symm⟩
      · exact h s i hi
    · intro s i hi
      replace hi : (if s = (nd t k).t then some k else S.met s) = some i := hi
      split at hi
      · rename_i hs
        obtain rfl := Option.some.inj hi
        exact ⟨hk, hs.symm⟩
      · exact h s i hi
  · exact h
theorem name_le {t : Tre} {k : Nat} {S : NS} : (nameStep k (nd t k) S).2 ≤ k := by
  unfold nameStep
  split
  · split
    · exact Nat.min_le_right _ _
    · exact Nat.le_refl _
  · exact Nat.le_refl _
theorem names_ok {t : Tre} (hs : Shp t) (n : Nat) : ∀ (k : Nat) (S : NS), k < t.l.length → MetOk t S.met → MetOk t (namesF t n k S).met := by
  induction n with
  | zero => intro k S _ h; exact h
  | succ n ih =>
    intro k S hk h
    show MetOk t ((kidsS (nd t (nameStep k (nd t k) S).2)).foldl (fun S c => namesF t n c.toNat S) (nameStep k (nd t k) S).1).met
    have h1 := name_ok h hk
    have h2 : (nameStep k (nd t k) S).2 < t.l.length := Nat.lt_of_le_of_lt name_le hk
    have h3 := hs.kids _ h2
    generalize (nameStep k (nd t k) S).1 = S1 at h1
    generalize hk1 : (nameStep k (nd t k) S).2 = k1 at h2 h3
    generalize kidsS (nd t k1) = ks at h3
    induction ks generalizing S1 with
    | nil => exact h1
    | cons c ks ih2 =>
      have h4 := h3 c (List.mem_cons_self ..)
      exact ih2 _ (ih c.toNat S1 (by unfold InR at h4; omega) h1) (fun c hc => h3 c (List.mem_cons_of_mem _ hc))
theorem done_len {t : Tre} {met : KS → Option Nat} (hm : MetOk t met) {done : List KS} (h1 : done.Nodup) (h2 : ∀ s ∈ done, ((fun s => (met s).map natV) s).isSome = true) : done.length ≤ t.l.length := by
  have h3 := len_sub h1 (l2 := t.l.map (·.t)) (fun s hs => by
    have h4 := h2 s hs
    simp only [Option.isSome_map] at h4
    obtain ⟨i, hi⟩ := Option.isSome_iff_exists.1 h4
    obtain ⟨h5, h6⟩ := hm s i hi
    rw [← h6]
    exact List.mem_map.2 ⟨nd t i, List.mem_of_getElem? (nd_at h5), rfl⟩)
  rwa [List.length_map] at h3
theorem nod_cell {w : World} {ad : Addr} {q : Nat} {y : Nod} (h : ∀ j v, (nodC y)[j]? = some v → w.cell? ((ad.add (q * 8)).add j) = some v) :
    w.cell? ⟨(ad.add (q * 8)).block, (ad.add (q * 8)).off + 4, none⟩ = some (.int .i64 y.a) ∧ w.cell? ⟨(ad.add (q * 8)).block, (ad.add (q * 8)).off + 5, none⟩ = some (.int .i64 y.b) ∧ w.cell? ⟨(ad.add (q * 8)).block, (ad.add (q * 8)).off + 6, none⟩ = some (.int .i64 y.c) := by
  generalize ad.add (q * 8) = z at h
  have h4 := h 4 _ rfl
  have h5 := h 5 _ rfl
  have h6 := h 6 _ rfl
  exact ⟨by simpa [Addr.add] using h4, by simpa [Addr.add] using h5, by simpa [Addr.add] using h6⟩
theorem str_one (l : List KS) : ∀ u ∈ l.map strV, u.oneCell' = true := fun u hu => by
  obtain ⟨p, _, rfl⟩ := List.mem_map.1 hu
  rfl
theorem str_info9 : (Tryd.prog.info? 9).map (fun i => (i.zero, i.size, i.bytes)) = some (some (.string ⟨#[]⟩), 1, 16) := by kernel_rfl
theorem count_one {l : List KS} (h1 : l.Nodup) {s : KS} (h : s ∈ l) : l.count s = 1 := by
  induction l with
  | nil => cases h
  | cons a l ih =>
    obtain ⟨h2, h3⟩ := List.nodup_cons.1 h1
    by_cases e : a = s
    · subst e
      rw [List.count_cons_self, List.count_eq_zero_of_not_mem h2]
    · rw [List.count_cons_of_ne e]
      rcases List.mem_cons.1 h with h4 | h4
      · exact absurd h4.symm e
      · exact ih h3 h4
theorem add_met {B : KS → Int} {met : KS → Option Nat} {done : List KS} (h1 : done.Nodup) (h2 : ∀ s ∈ done, ((fun s => (met s).map natV) s).isSome = true) (h3 : ∀ s, ((fun s => (met s).map natV) s).isSome = true → s ∈ done) : addB B done = addM B met := by
  funext s
  unfold addB addM
  by_cases h : s ∈ done
  · have h4 := h2 s h
    simp only [Option.isSome_map] at h4
    rw [if_pos h4, count_one h1 h]
    rfl
  · have h4 : ¬ (met s).isSome = true := fun h5 => h (h3 s (by simpa using h5))
    rw [if_neg h4, List.count_eq_zero_of_not_mem h]
    rfl
set_option maxRecDepth 100000 in
set_option maxHeartbeats 8000000 in
theorem c28 {W0 : World} {g pb cb bb : Nat} {A A' : Option Addr} {c c' : Nat} {t : Tre} {M : CM} (hs : Shp t) (n : Nat) : ∀ (k : Nat), k < n → k < t.l.length → ExC W0 g pb cb bb A A' c c' t M n k := by
  induction n with
  | zero => exact fun _ h => absurd h (Nat.not_lt_zero _)
  | succ n ih =>
    intro k hkn hkl B bad w hfw ha
    have HI := Lib.hid ih
    have HSH := Lib.hid hs
    have HFW := Lib.hid hfw
    have HA0 := Lib.hid ha
    have HF0 := Lib.hid (Fr.refl pb bb w)
    have HKN := Lib.hid hkn
    have HKL := Lib.hid hkl
    have hx := nd_at hkl
    have HXX := Lib.hid (show nd t k = nd t k from rfl)
    obtain ⟨x, hq⟩ : ∃ x, x = nd t k := ⟨_, rfl⟩
    rw [← hq] at hx
    have HX := Lib.hid hx
    have HQ := Lib.hid hq
    clear hq ha hs ih hfw HXX
    have i1 : (0 : Int) ≤ (k : Int) := by omega
    have i2 : (k : Int) < (t.l.length : Int) := by omega
    obtain ⟨ad, hA, _, hcs⟩ := (HA0.out.tree.next HA0.out.low).nodes.nodAt hx
    subst hA
    have HCS := Lib.hid hcs
    have a0 : w.cell? ⟨g, 0, none⟩ = some (.slice (some ad) t.l.length c) := HA0.out.ask.cell 0
    clear hcs hx
    have hN := Blk.new w 30 #[.int .i64 x.k, strV x.t, strV x.t2, .int .i64 x.n, .int .i64 x.a, .int .i64 x.b, .int .i64 x.c, .int .i64 x.h]
    have hb1 := below_new w (.cells #[.int .i64 x.k, strV x.t, strV x.t2, .int .i64 x.n, .int .i64 x.a, .int .i64 x.b, .int .i64 x.c, .int .i64 x.h] 30)
    have HA1 := Lib.hid (HA0.out.next hb1)
    have HF1 := Lib.hid (HF0.out.below hb1)
    generalize hw1 : w.alloc (.cells #[.int .i64 x.k, strV x.t, strV x.t2, .int .i64 x.n, .int .i64 x.a, .int .i64 x.b, .int .i64 x.c, .int .i64 x.h] 30) = w1 at hN hb1 HA1 HF1
    have HN1 := Lib.hid hN
    clear hN hb1 HA0 HF0
    dsimp only [ptr]
    go_enter Tryd.func28, Tryd.ntmps28
    go_upto_region 1 with (refine wpList_load_at rfl 30 (.tmp 16) rfl (ad.add (k * 8)) rfl [.int .i64 x.k, strV x.t, strV x.t2, .int .i64 x.n, .int .i64 x.a, .int .i64 x.b, .int .i64 x.c, .int .i64 x.h] _ HCS.out Tryd.underlying30 rfl (by kernel_rfl) ?_)
    clear hw1 a0 i1 i2
    generalize w.heap.size = nb at HN1 ⊢
    have n0 : w1.cell? ⟨nb, 0, none⟩ = some (.int .i64 x.k) := HN1.out.cell 0
    by_cases h5 : x.k = 5
    · have HK := Lib.hid (show x.k = 5 from h5)
      rw [h5] at n0
      replace HN1 := Lib.hid (show Blk w1 nb 30 #[.int .i64 5, strV x.t, strV x.t2, .int .i64 x.n, .int .i64 x.a, .int .i64 x.b, .int .i64 x.c, .int .i64 x.h] by have h8 := HN1.out; rw [h5] at h8; exact h8)
      clear h5
      have HEQ := Lib.hid (show exprS t (n + 1) k B bad = bad.set k (B x.t == 0) by
        show (if (nd t k).k = 5 then _ else _) = _
        rw [if_pos (by rw [← HQ.out, HK.out]), ← HQ.out]
        try rfl)
      go_upto_region 8 with fail
      clear n0
      have i1 : (0 : Int) ≤ (k : Int) := by omega
      have i2 : (k : Int) < (t.l.length : Int) := by have := HKL.out; omega
      have HAd := Lib.hid (show Ak W0 g pb cb bb (some ad) A' c c' t M B bad w1.drew from HA1.out.drewN 1)
      have HFd := Lib.hid (show Fr pb bb w w1.drew from HF1.out.drewN 1)
      have HNd := Lib.hid (show Blk w1.drew nb 30 #[.int .i64 5, strV x.t, strV x.t2, .int .i64 x.n, .int .i64 x.a, .int .i64 x.b, .int .i64 x.c, .int .i64 x.h] from HN1.out)
      refine wp_region_last (S := fun V => V.cell? ⟨g, 3, none⟩ = some (.slice (some ⟨pb, 0, none⟩) t.l.length t.l.length) ∧ V.cell? ⟨g, 5, none⟩ = some (.map (some bb)) ∧ V.cell? ⟨nb, 1, none⟩ = some (strV x.t) ∧ (Instr.lookup 65 (.map (some bb)) (strV x.t) false).run Tryd.prog V = .ok (.int .i64 (B x.t)) V) 14 (by kernel_rfl) (by kernel_rfl) (by kernel_rfl) (by kernel_rfl) ⟨HA1.out.ask.cell 3, HA1.out.ask.cell 5, HN1.out.cell 1, (HA1.out.drewN 1).bound x.t⟩ (fun hHeld => ?_)
      clear HA1 HF1 HN1
      generalize w1.drew = d at HAd HFd HNd hHeld ⊢
      refine tkH 0 37 ?_ rfl ?_ ?_
      rotate_left
      · rintro V ⟨s0, s1, s2, s3⟩; go_simp; try with_reducible rfl
      try simp only [Act.put, sLA, sL0, sL1]
      refine tkH 1 38 ?_ rfl ?_ ?_
      rotate_left
      · rintro V ⟨s0, s1, s2, s3⟩; go_simp; try with_reducible rfl
      try simp only [Act.put, sLA, sL0, sL1]
      refine tkH 2 39 ?_ rfl ?_ ?_
      rotate_left
      · rintro V ⟨s0, s1, s2, s3⟩; go_simp; try with_reducible rfl
      try simp only [Act.put, sLA, sL0, sL1]
      refine tkH 3 40 ?_ rfl ?_ ?_
      rotate_left
      · rintro V ⟨s0, s1, s2, s3⟩; go_simp; try with_reducible rfl
      try simp only [Act.put, sLA, sL0, sL1]
      refine tkH 4 41 ?_ rfl ?_ ?_
      rotate_left
      · rintro V ⟨s0, s1, s2, s3⟩; go_simp; try with_reducible rfl
      try simp only [Act.put, sLA, sL0, sL1]
      refine tkH 5 42 ?_ rfl ?_ ?_
      rotate_left
      · rintro V ⟨s0, s1, s2, s3⟩; go_simp; try with_reducible rfl
      try simp only [Act.put, sLA, sL0, sL1]
      refine tkH 6 43 ?_ rfl ?_ ?_
      rotate_left
      · rintro V ⟨s0, s1, s2, s3⟩; go_simp; try with_reducible rfl
      try simp only [Act.put, sLA, sL0, sL1]
      refine tkH 7 44 ?_ rfl ?_ ?_
      rotate_left
      · rintro V ⟨s0, s1, s2, s3⟩; go_simp; try with_reducible rfl
      try simp only [Act.put, sLA, sL0, sL1]
      refine tkH 8 45 ?_ rfl ?_ ?_
      rotate_left
      · rintro V ⟨s0, s1, s2, s3⟩; go_simp; try with_reducible rfl
      try simp only [Act.put, sLA, sL0, sL1]
      refine tkH 9 46 ?_ rfl ?_ ?_
      rotate_left
      · rintro V ⟨s0, s1, s2, s3⟩; go_simp; try with_reducible rfl
      try simp only [Act.put, sLA, sL0, sL1]
      refine tkH 10 47 ?_ rfl ?_ ?_
      rotate_left
      · rintro V ⟨s0, s1, s2, s3⟩; go_simp; try with_reducible rfl
      try simp only [Act.put, sLA, sL0, sL1]
      refine tkH 11 48 ?_ rfl ?_ ?_
      rotate_left
      · rintro V ⟨s0, s1, s2, s3⟩; go_simp; try with_reducible rfl
      try simp only [Act.put, sLA, sL0, sL1]
      refine tkH 12 49 ?_ rfl ?_ ?_
      rotate_left
      · rintro V ⟨s0, s1, s2, s3⟩; go_simp; try with_reducible rfl
      try simp only [Act.put, sLA, sL0, sL1]
      refine tkH 13 50 ?_ rfl ?_ ?_
      rotate_left
      · rintro V ⟨s0, s1, s2, s3⟩; go_simp; try with_reducible rfl
      try simp only [Act.put, sLA, sL0, sL1]
      have zf := HAd.out.mark.frozen k
      obtain ⟨u0, zc⟩ : ∃ u, d.cell? ⟨pb, k, none⟩ = some u := ⟨_, (HAd.out.mark.cell k).trans (by rw [List.getElem?_toArray]; exact List.getElem?_eq_getElem (by rw [List.length_map, HAd.out.len]; exact HKL.out))⟩
      refine wpAnyH_done (by kernel_rfl) ?_ _
      refine lastPost_run (o := ⟨none, _, _, _, _, _⟩) rfl (fun K hK => ?_)
      go_simp
      refine hK.out _ _ ?_
      clear hK K zf zc i1 i2
      have HA2 := Lib.hid (HAd.out.setBad k (B x.t == 0))
      have HF2 := Lib.hid (HFd.out.set (p := ⟨pb, k, none⟩) (.inl rfl) (.bool (B x.t == 0)))
      clear HAd HFd HNd hHeld
      go_end0
      exact ⟨rfl, by rw [HEQ.out]; exact HA2.out, HF2.out⟩
    by_cases h10 : x.k = 10
    · have HK := Lib.hid (show x.k = 10 from h10)
      rw [h10] at n0
      replace HN1 := Lib.hid (show Blk w1 nb 30 #[.int .i64 10, strV x.t, strV x.t2, .int .i64 x.n, .int .i64 x.a, .int .i64 x.b, .int .i64 x.c, .int .i64 x.h] by have h8 := HN1.out; rw [h10] at h8; exact h8)
      clear h10
      have HRa := Lib.hid (show InR k x.a by
        have h : (nd t k).k = 10 := by rw [← HQ.out]; exact HK.out
        have h9 := HSH.out.one k HKL.out (.inl h)
        rw [← HQ.out] at h9
        exact h9)
      obtain ⟨ma, hma⟩ : ∃ m : Nat, x.a = (m : Int) := ⟨x.a.toNat, by have := HRa.out.1; omega⟩
      have HMa := Lib.hid (show ma < k from by have := HRa.out.2; omega)
      have HXa := Lib.hid hma
      have HEQ := Lib.hid (show exprS t (n + 1) k B bad = exprS t n ma (addB B (bindL x.t)) bad by
        show (if (nd t k).k = 5 then _ else _) = _
        rw [if_neg (by rw [← HQ.out, HK.out]; decide), if_pos (by rw [← HQ.out, HK.out]), ← HQ.out, HXa.out]
        try rfl)
      clear hma
      go_upto_region 10 with fail
      clear n0
      have HAd := Lib.hid (show Ak W0 g pb cb bb (some ad) A' c c' t M B bad w1.drew from HA1.out.drewN 1)
      have HFd := Lib.hid (show Fr pb bb w w1.drew from HF1.out.drewN 1)
      have HNd := Lib.hid (show Blk w1.drew nb 30 #[.int .i64 10, strV x.t, strV x.t2, .int .i64 x.n, .int .i64 x.a, .int .i64 x.b, .int .i64 x.c, .int .i64 x.h] from HN1.out)
      refine wp_region_held_drew (S := fun V => V.cell? ⟨nb, 4, none⟩ = some (.int .i64 (ma : Int)) ∧ V.cell? ⟨nb, 1, none⟩ = some (strV x.t)) (by kernel_rfl) ⟨by have := HNd.out.cell 4; rw [HXa.out] at this; exact this, HNd.out.cell 1⟩ (fun hHeld => ?_)
      clear HA1 HF1 HN1
      generalize w1.drew = d at HAd HFd HNd hHeld ⊢
      refine tkH 0 53 ?_ rfl ?_ ?_
      rotate_left
      · rintro V ⟨s0, s1⟩; go_simp; try with_reducible rfl
      try simp only [Act.put, sLA, sL0, sL1]
      refine tkH 1 54 ?_ rfl ?_ ?_
      rotate_left
      · rintro V ⟨s0, s1⟩; go_simp; try with_reducible rfl
      try simp only [Act.put, sLA, sL0, sL1]
      refine tkH 2 55 ?_ rfl ?_ ?_
      rotate_left
      · rintro V ⟨s0, s1⟩; go_simp; try with_reducible rfl
      try simp only [Act.put, sLA, sL0, sL1]
      refine tkH 3 56 ?_ rfl ?_ ?_
      rotate_left
      · rintro V ⟨s0, s1⟩; go_simp; try with_reducible rfl
      try simp only [Act.put, sLA, sL0, sL1]
      refine tkH 4 57 ?_ rfl ?_ ?_
      rotate_left
      · rintro V ⟨s0, s1⟩; go_simp; try with_reducible rfl
      try simp only [Act.put, sLA, sL0, sL1]
      refine wpAnyH_ready (rs := [5]) (by kernel_rfl) (by simp) ?_
      refine AllReadyH.cons (o := ⟨some 58, _, _, _, _, _⟩) rfl (fun K hK => ?_) AllReadyH.nil
      go_simp
      refine (c40 x.t d).mono ?_
      rintro e w20 ⟨Ab, cb1, rfl, ho, hb⟩
      rw [List.length_map] at ho ⊢
      have HA20 := Lib.hid (HAd.out.next hb)
      have HF20 := Lib.hid (HFd.out.below hb)
      have HN20 := Lib.hid (HNd.out.next hb)
      have HO20 := Lib.hid ho
      clear ho hb HAd HFd HNd
      go_wp2_with fail
      refine hK.out _ _ ?_ (fun hHeld => ?_)
      · exact ⟨by have := HN20.out.cell 4; rw [HXa.out] at this; exact this, HN20.out.cell 1⟩
      clear hK K
      try simp only [Act.put, sLA, sL0, sL1]
      refine wpAnyH_ready (rs := [6]) (by kernel_rfl) (by simp) ?_
      refine AllReadyH.cons (o := ⟨some 59, _, _, _, _, _⟩) rfl (fun K hK => ?_) AllReadyH.nil
      go_simp
      refine (c39 (HI.out ma (by have := HMa.out; have := HKN.out; omega) (by have := HMa.out; have := HKL.out; omega)) (fun s => (HFW.out s).1) (HFW.out.add HMa.out (bindL x.t) (fun s => few_count (bind_len x.t) s)) HA20.out HO20.out).mono ?_
      rintro e w2 ⟨rfl, ha, hf⟩
      have HA2 := Lib.hid ha
      have HF2 := Lib.hid (HF20.out.trans hf)
      have HN2 := Lib.hid (HA20.out.blk HN20.out (by decide) hf)
      clear ha hf HA20 HF20 HN20 HO20
      go_wp2_with fail
      refine hK.out _ _ ?_ (fun hHeld => ?_)
      · exact ⟨by have := HN2.out.cell 4; rw [HXa.out] at this; exact this, HN2.out.cell 1⟩
      clear hK K hHeld
      try simp only [Act.put, sLA, sL0, sL1]
      refine wpAnyH_done (by kernel_rfl) ?_ _
      go_wp2_with fail
      go_end0
      exact ⟨rfl, by rw [HEQ.out]; exact HA2.out, HF2.out⟩
    by_cases h12 : x.k = 12
    · have HK := Lib.hid (show x.k = 12 from h12)
      rw [h12] at n0
      replace HN1 := Lib.hid (show Blk w1 nb 30 #[.int .i64 12, strV x.t, strV x.t2, .int .i64 x.n, .int .i64 x.a, .int .i64 x.b, .int .i64 x.c, .int .i64 x.h] by have h8 := HN1.out; rw [h12] at h8; exact h8)
      clear h12
      have HRa := Lib.hid (show InR k x.a by
        have h : (nd t k).k = 12 := by rw [← HQ.out]; exact HK.out
        have h9 := HSH.out.one k HKL.out (.inr (.inl h))
        rw [← HQ.out] at h9
        exact h9)
      have HRb := Lib.hid (show InR k x.b by
        have h : (nd t k).k = 12 := by rw [← HQ.out]; exact HK.out
        have h9 := HSH.out.two k HKL.out (.inl h)
        rw [← HQ.out] at h9
        exact h9)
      obtain ⟨ma, hma⟩ : ∃ m : Nat, x.a = (m : Int) := ⟨x.a.toNat, by have := HRa.out.1; omega⟩
      have HMa := Lib.hid (show ma < k from by have := HRa.out.2; omega)
      have HXa := Lib.hid hma
      obtain ⟨mb, hmb⟩ : ∃ m : Nat, x.b = (m : Int) := ⟨x.b.toNat, by have := HRb.out.1; omega⟩
      have HMb := Lib.hid (show mb < k from by have := HRb.out.2; omega)
      have HXb := Lib.hid hmb
      have HEQ := Lib.hid (show exprS t (n + 1) k B bad = exprS t n mb (addB B (bindL x.t)) (exprS t n ma B bad) by
        show (if (nd t k).k = 5 then _ else _) = _
        rw [if_neg (by rw [← HQ.out, HK.out]; decide), if_neg (by rw [← HQ.out, HK.out]; decide), if_pos (by rw [← HQ.out, HK.out]), ← HQ.out, HXa.out, HXb.out]
        try rfl)
      clear hma hmb
      go_upto_region 12 with fail
      clear n0
      have nn : w1.cell? ⟨nb, 4, none⟩ = some (.int .i64 (ma : Int)) := by have := HN1.out.cell 4; rw [HXa.out] at this; exact this
      go_wp2_with fail
      clear nn
      refine (HI.out ma (by have := HMa.out; have := HKN.out; omega) (by have := HMa.out; have := HKL.out; omega) B bad w1 (HFW.out.down HMa.out) HA1.out).mono ?_
      rintro e w2 ⟨rfl, ha, hf⟩
      have HA2 := Lib.hid ha
      have HF2 := Lib.hid (HF1.out.trans hf)
      have HN2 := Lib.hid (HA1.out.blk HN1.out (by decide) hf)
      clear ha hf HA1 HF1 HN1
      go_upto_region 13 with fail
      have HAd := Lib.hid (show Ak W0 g pb cb bb (some ad) A' c c' t M B (exprS t n ma B bad) w2.drew from HA2.out.drewN 1)
      have HFd := Lib.hid (show Fr pb bb w w2.drew from HF2.out.drewN 1)
      have HNd := Lib.hid (show Blk w2.drew nb 30 #[.int .i64 12, strV x.t, strV x.t2, .int .i64 x.n, .int .i64 x.a, .int .i64 x.b, .int .i64 x.c, .int .i64 x.h] from HN2.out)
      refine wp_region_held_drew (S := fun V => V.cell? ⟨nb, 5, none⟩ = some (.int .i64 (mb : Int)) ∧ V.cell? ⟨nb, 1, none⟩ = some (strV x.t)) (by kernel_rfl) ⟨by have := HNd.out.cell 5; rw [HXb.out] at this; exact this, HNd.out.cell 1⟩ (fun hHeld => ?_)
      clear HA2 HF2 HN2
      generalize w2.drew = d at HAd HFd HNd hHeld ⊢
      refine tkH 0 66 ?_ rfl ?_ ?_
      rotate_left
      · rintro V ⟨s0, s1⟩; go_simp; try with_reducible rfl
      try simp only [Act.put, sLA, sL0, sL1]
      refine tkH 1 67 ?_ rfl ?_ ?_
      rotate_left
      · rintro V ⟨s0, s1⟩; go_simp; try with_reducible rfl
      try simp only [Act.put, sLA, sL0, sL1]
      refine tkH 2 68 ?_ rfl ?_ ?_
      rotate_left
      · rintro V ⟨s0, s1⟩; go_simp; try with_reducible rfl
      try simp only [Act.put, sLA, sL0, sL1]
      refine tkH 3 69 ?_ rfl ?_ ?_
      rotate_left
      · rintro V ⟨s0, s1⟩; go_simp; try with_reducible rfl
      try simp only [Act.put, sLA, sL0, sL1]
      refine tkH 4 70 ?_ rfl ?_ ?_
      rotate_left
      · rintro V ⟨s0, s1⟩; go_simp; try with_reducible rfl
      try simp only [Act.put, sLA, sL0, sL1]
      refine wpAnyH_ready (rs := [5]) (by kernel_rfl) (by simp) ?_
      refine AllReadyH.cons (o := ⟨some 71, _, _, _, _, _⟩) rfl (fun K hK => ?_) AllReadyH.nil
      go_simp
      refine (c40 x.t d).mono ?_
      rintro e w20 ⟨Ab, cb1, rfl, ho, hb⟩
      rw [List.length_map] at ho ⊢
      have HA20 := Lib.hid (HAd.out.next hb)
      have HF20 := Lib.hid (HFd.out.below hb)
      have HN20 := Lib.hid (HNd.out.next hb)
      have HO20 := Lib.hid ho
      clear ho hb HAd HFd HNd
      go_wp2_with fail
      refine hK.out _ _ ?_ (fun hHeld => ?_)
      · exact ⟨by have := HN20.out.cell 5; rw [HXb.out] at this; exact this, HN20.out.cell 1⟩
      clear hK K
      try simp only [Act.put, sLA, sL0, sL1]
      refine wpAnyH_ready (rs := [6]) (by kernel_rfl) (by simp) ?_
      refine AllReadyH.cons (o := ⟨some 72, _, _, _, _, _⟩) rfl (fun K hK => ?_) AllReadyH.nil
      go_simp
      refine (c39 (HI.out mb (by have := HMb.out; have := HKN.out; omega) (by have := HMb.out; have := HKL.out; omega)) (fun s => (HFW.out s).1) (HFW.out.add HMb.out (bindL x.t) (fun s => few_count (bind_len x.t) s)) HA20.out HO20.out).mono ?_
      rintro e w3 ⟨rfl, ha, hf⟩
      have HA3 := Lib.hid ha
      have HF3 := Lib.hid (HF20.out.trans hf)
      have HN3 := Lib.hid (HA20.out.blk HN20.out (by decide) hf)
      clear ha hf HA20 HF20 HN20 HO20
      go_wp2_with fail
      refine hK.out _ _ ?_ (fun hHeld => ?_)
      · exact ⟨by have := HN3.out.cell 5; rw [HXb.out] at this; exact this, HN3.out.cell 1⟩
      clear hK K hHeld
      try simp only [Act.put, sLA, sL0, sL1]
      refine wpAnyH_done (by kernel_rfl) ?_ _
      go_wp2_with fail
      go_end0
      exact ⟨rfl, by rw [HEQ.out]; exact HA3.out, HF3.out⟩
    by_cases h13 : x.k = 13
    · have HK := Lib.hid (show x.k = 13 from h13)
      rw [h13] at n0
      replace HN1 := Lib.hid (show Blk w1 nb 30 #[.int .i64 13, strV x.t, strV x.t2, .int .i64 x.n, .int .i64 x.a, .int .i64 x.b, .int .i64 x.c, .int .i64 x.h] by have h8 := HN1.out; rw [h13] at h8; exact h8)
      clear h13
      have HRa := Lib.hid (show InR k x.a by
        have h : (nd t k).k = 13 := by rw [← HQ.out]; exact HK.out
        have h9 := HSH.out.one k HKL.out (.inr (.inr (.inl h)))
        rw [← HQ.out] at h9
        exact h9)
      have HRb := Lib.hid (show InR k x.b by
        have h : (nd t k).k = 13 := by rw [← HQ.out]; exact HK.out
        have h9 := HSH.out.two k HKL.out (.inr (.inl h))
        rw [← HQ.out] at h9
        exact h9)
      obtain ⟨ma, hma⟩ : ∃ m : Nat, x.a = (m : Int) := ⟨x.a.toNat, by have := HRa.out.1; omega⟩
      have HMa := Lib.hid (show ma < k from by have := HRa.out.2; omega)
      have HXa := Lib.hid hma
      obtain ⟨mb, hmb⟩ : ∃ m : Nat, x.b = (m : Int) := ⟨x.b.toNat, by have := HRb.out.1; omega⟩
      have HMb := Lib.hid (show mb < k from by have := HRb.out.2; omega)
      have HXb := Lib.hid hmb
      have HEQ := Lib.hid (show exprS t (n + 1) k B bad = exprS t n mb (addB B [x.t]) (exprS t n ma (addB B [x.t, x.t2]) bad) by
        show (if (nd t k).k = 5 then _ else _) = _
        rw [if_neg (by rw [← HQ.out, HK.out]; decide), if_neg (by rw [← HQ.out, HK.out]; decide), if_neg (by rw [← HQ.out, HK.out]; decide), if_pos (by rw [← HQ.out, HK.out]), ← HQ.out, HXa.out, HXb.out]
        try rfl)
      clear hma hmb
      go_upto_region 15 with fail
      clear n0
      have nn : w1.cell? ⟨nb, 4, none⟩ = some (.int .i64 (ma : Int)) := by have := HN1.out.cell 4; rw [HXa.out] at this; exact this
      have n1 : w1.cell? ⟨nb, 1, none⟩ = some (strV x.t) := HN1.out.cell 1
      have n2 : w1.cell? ⟨nb, 2, none⟩ = some (strV x.t2) := HN1.out.cell 2
      go_wp2_with fail
      clear nn n1 n2
      have hb := below_new w1 (.cells #[strV x.t, strV x.t2] 9)
      have HA1b := Lib.hid (HA1.out.next hb)
      have HF1b := Lib.hid (HF1.out.below hb)
      have HN1b := Lib.hid (HN1.out.next hb)
      have HO1b := Lib.hid (own_new w1 (b := w1.heap.size) (n := 2) (e := 9) (s := 1) (xs := [strV x.t, strV x.t2]) (Nat.le_refl _) rfl (by unfold maxLen; decide))
      clear hb HA1 HF1 HN1
      refine (c39 (HI.out ma (by have := HMa.out; have := HKN.out; omega) (by have := HMa.out; have := HKL.out; omega)) (fun s => (HFW.out s).1) (HFW.out.add HMa.out [x.t, x.t2] (fun s => few_count (by simp) s)) HA1b.out (show World.ownsRow _ _ 9 1 _ [x.t, x.t2].length ([x.t, x.t2].map strV) from HO1b.out)).mono ?_
      rintro e w2 ⟨rfl, ha, hf⟩
      have HA2 := Lib.hid ha
      have HF2 := Lib.hid (HF1b.out.trans hf)
      have HN2 := Lib.hid (HA1b.out.blk HN1b.out (by decide) hf)
      clear ha hf HA1b HF1b HN1b HO1b
      have nn : w2.cell? ⟨nb, 5, none⟩ = some (.int .i64 (mb : Int)) := by have := HN2.out.cell 5; rw [HXb.out] at this; exact this
      have n1 : w2.cell? ⟨nb, 1, none⟩ = some (strV x.t) := HN2.out.cell 1
      go_wp2_with fail
      clear nn n1
      have hb := below_new w2 (.cells #[strV x.t] 9)
      have HA2b := Lib.hid (HA2.out.next hb)
      have HF2b := Lib.hid (HF2.out.below hb)
      have HN2b := Lib.hid (HN2.out.next hb)
      have HO2b := Lib.hid (own_new w2 (b := w2.heap.size) (n := 1) (e := 9) (s := 1) (xs := [strV x.t]) (Nat.le_refl _) rfl (by unfold maxLen; decide))
      clear hb HA2 HF2 HN2
      refine (c39 (HI.out mb (by have := HMb.out; have := HKN.out; omega) (by have := HMb.out; have := HKL.out; omega)) (fun s => (HFW.out s).1) (HFW.out.add HMb.out [x.t] (fun s => few_count (by simp) s)) HA2b.out (show World.ownsRow _ _ 9 1 _ [x.t].length ([x.t].map strV) from HO2b.out)).mono ?_
      rintro e w3 ⟨rfl, ha, hf⟩
      have HA3 := Lib.hid ha
      have HF3 := Lib.hid (HF2b.out.trans hf)
      have HN3 := Lib.hid (HA2b.out.blk HN2b.out (by decide) hf)
      clear ha hf HA2b HF2b HN2b HO2b
      go_wp2_with fail
      go_end0
      exact ⟨rfl, by rw [HEQ.out]; exact HA3.out, HF3.out⟩
    by_cases h21 : x.k = 21
    · have HK := Lib.hid (show x.k = 21 from h21)
      rw [h21] at n0
      replace HN1 := Lib.hid (show Blk w1 nb 30 #[.int .i64 21, strV x.t, strV x.t2, .int .i64 x.n, .int .i64 x.a, .int .i64 x.b, .int .i64 x.c, .int .i64 x.h] by have h8 := HN1.out; rw [h21] at h8; exact h8)
      clear h21
      have HRa := Lib.hid (show InR k x.a by
        have h : (nd t k).k = 21 := by rw [← HQ.out]; exact HK.out
        have h9 := HSH.out.one k HKL.out (.inr (.inr (.inr (.inl h))))
        rw [← HQ.out] at h9
        exact h9)
      have HRb := Lib.hid (show InR k x.b by
        have h : (nd t k).k = 21 := by rw [← HQ.out]; exact HK.out
        have h9 := HSH.out.two k HKL.out (.inr (.inr (.inl h)))
        rw [← HQ.out] at h9
        exact h9)
      obtain ⟨ma, hma⟩ : ∃ m : Nat, x.a = (m : Int) := ⟨x.a.toNat, by have := HRa.out.1; omega⟩
      have HMa := Lib.hid (show ma < k from by have := HRa.out.2; omega)
      have HXa := Lib.hid hma
      obtain ⟨mb, hmb⟩ : ∃ m : Nat, x.b = (m : Int) := ⟨x.b.toNat, by have := HRb.out.1; omega⟩
      have HMb := Lib.hid (show mb < k from by have := HRb.out.2; omega)
      have HXb := Lib.hid hmb
      have HEQ := Lib.hid (show exprS t (n + 1) k B bad = exprS t n mb (addB B [x.t]) (exprS t n ma B bad) by
        show (if (nd t k).k = 5 then _ else _) = _
        rw [if_neg (by rw [← HQ.out, HK.out]; decide), if_neg (by rw [← HQ.out, HK.out]; decide), if_neg (by rw [← HQ.out, HK.out]; decide), if_neg (by rw [← HQ.out, HK.out]; decide), if_pos (by rw [← HQ.out, HK.out]), ← HQ.out, HXa.out, HXb.out]
        try rfl)
      clear hma hmb
      go_upto_region 18 with fail
      clear n0
      have nn : w1.cell? ⟨nb, 4, none⟩ = some (.int .i64 (ma : Int)) := by have := HN1.out.cell 4; rw [HXa.out] at this; exact this
      go_wp2_with fail
      clear nn
      refine (HI.out ma (by have := HMa.out; have := HKN.out; omega) (by have := HMa.out; have := HKL.out; omega) B bad w1 (HFW.out.down HMa.out) HA1.out).mono ?_
      rintro e w2 ⟨rfl, ha, hf⟩
      have HA2 := Lib.hid ha
      have HF2 := Lib.hid (HF1.out.trans hf)
      have HN2 := Lib.hid (HA1.out.blk HN1.out (by decide) hf)
      clear ha hf HA1 HF1 HN1
      have nn : w2.cell? ⟨nb, 5, none⟩ = some (.int .i64 (mb : Int)) := by have := HN2.out.cell 5; rw [HXb.out] at this; exact this
      have n1 : w2.cell? ⟨nb, 1, none⟩ = some (strV x.t) := HN2.out.cell 1
      go_wp2_with fail
      clear nn n1
      have hb := below_new w2 (.cells #[strV x.t] 9)
      have HA2b := Lib.hid (HA2.out.next hb)
      have HF2b := Lib.hid (HF2.out.below hb)
      have HN2b := Lib.hid (HN2.out.next hb)
      have HO2b := Lib.hid (own_new w2 (b := w2.heap.size) (n := 1) (e := 9) (s := 1) (xs := [strV x.t]) (Nat.le_refl _) rfl (by unfold maxLen; decide))
      clear hb HA2 HF2 HN2
      refine (c39 (HI.out mb (by have := HMb.out; have := HKN.out; omega) (by have := HMb.out; have := HKL.out; omega)) (fun s => (HFW.out s).1) (HFW.out.add HMb.out [x.t] (fun s => few_count (by simp) s)) HA2b.out (show World.ownsRow _ _ 9 1 _ [x.t].length ([x.t].map strV) from HO2b.out)).mono ?_
      rintro e w3 ⟨rfl, ha, hf⟩
      have HA3 := Lib.hid ha
      have HF3 := Lib.hid (HF2b.out.trans hf)
      have HN3 := Lib.hid (HA2b.out.blk HN2b.out (by decide) hf)
      clear ha hf HA2b HF2b HN2b HO2b
      go_wp2_with fail
      go_end0
      exact ⟨rfl, by rw [HEQ.out]; exact HA3.out, HF3.out⟩
    by_cases h18 : x.k = 18
    · have HK := Lib.hid (show x.k = 18 from h18)
      rw [h18] at n0
      replace HN1 := Lib.hid (show Blk w1 nb 30 #[.int .i64 18, strV x.t, strV x.t2, .int .i64 x.n, .int .i64 x.a, .int .i64 x.b, .int .i64 x.c, .int .i64 x.h] by have h8 := HN1.out; rw [h18] at h8; exact h8)
      clear h18
      have HRa := Lib.hid (show InR k x.a by
        have h : (nd t k).k = 18 := by rw [← HQ.out]; exact HK.out
        have h9 := HSH.out.one k HKL.out (.inr (.inr (.inr (.inr (.inl h)))))
        rw [← HQ.out] at h9
        exact h9)
      have HRb := Lib.hid (show InR k x.b by
        have h : (nd t k).k = 18 := by rw [← HQ.out]; exact HK.out
        have h9 := HSH.out.two k HKL.out (.inr (.inr (.inr (.inl h))))
        rw [← HQ.out] at h9
        exact h9)
      obtain ⟨ma, hma⟩ : ∃ m : Nat, x.a = (m : Int) := ⟨x.a.toNat, by have := HRa.out.1; omega⟩
      have HMa := Lib.hid (show ma < k from by have := HRa.out.2; omega)
      have HXa := Lib.hid hma
      have HCL := Lib.hid (show (nd t x.b.toNat).k = 19 by
        have h : (nd t k).k = 18 := by rw [← HQ.out]; exact HK.out
        have h9 := HSH.out.cl k HKL.out h
        rw [← HQ.out] at h9
        exact h9)
      have HEQ := Lib.hid (show exprS t (n + 1) k B bad = clF (exprS t n) t 501 x.b B (exprS t n ma B bad) by
        show (if (nd t k).k = 5 then _ else _) = _
        rw [if_neg (by rw [← HQ.out, HK.out]; decide), if_neg (by rw [← HQ.out, HK.out]; decide), if_neg (by rw [← HQ.out, HK.out]; decide), if_neg (by rw [← HQ.out, HK.out]; decide), if_neg (by rw [← HQ.out, HK.out]; decide), if_pos (by rw [← HQ.out, HK.out]), ← HQ.out, HXa.out]
        try rfl)
      clear hma
      go_upto_region 21 with fail
      clear n0
      have nn : w1.cell? ⟨nb, 4, none⟩ = some (.int .i64 (ma : Int)) := by have := HN1.out.cell 4; rw [HXa.out] at this; exact this
      go_wp2_with fail
      clear nn
      refine (HI.out ma (by have := HMa.out; have := HKN.out; omega) (by have := HMa.out; have := HKL.out; omega) B bad w1 (HFW.out.down HMa.out) HA1.out).mono ?_
      rintro e w2 ⟨rfl, ha, hf⟩
      have HA2 := Lib.hid ha
      have HF2 := Lib.hid (HF1.out.trans hf)
      have HN2 := Lib.hid (HA1.out.blk HN1.out (by decide) hf)
      clear ha hf HA1 HF1 HN1
      have nn : w2.cell? ⟨nb, 5, none⟩ = some (.int .i64 x.b) := HN2.out.cell 5
      go_wp2_with fail
      clear nn
      obtain ⟨i9, fi9, hz0, hz1, hz2⟩ := info_parts str_info9
      have H9 := Lib.hid (show i9.zero = some (.string ⟨#[]⟩) ∧ i9.size = 1 ∧ i9.bytes = 16 from ⟨hz0, hz1, hz2⟩)
      clear hz0 hz1 hz2
      go_loopw [5] (fun v wr => ∃ (m : Nat) (ci : Int) (badi : List Bool), v = .int .i64 ci ∧ ci < (m : Int) ∧ (ci < 0 ∨ InR k ci ∧ (nd t ci.toNat).k = 19) ∧ Ak W0 g pb cb bb (some ad) A' c c' t M B badi wr ∧ Fr pb bb w wr ∧ clF (exprS t n) t m ci B badi = exprS t (n + 1) k B bad) (fun v _ => (intOf v + 1).toNat)
      case atStart => exact ⟨501, x.b, _, rfl, by have h1 := HRb.out.2; have h2 := HKL.out; have h3 := HSH.out.len; omega, .inr ⟨HRb.out, HCL.out⟩, HA2.out, HF2.out, HEQ.out.symm⟩
      case round =>
        obtain ⟨m, ci, badi, rfl, hcm, hck, ha, hf, hce⟩ := hrel
        have HA := Lib.hid ha
        have HF := Lib.hid hf
        have HCE := Lib.hid hce
        have HCK := Lib.hid hck
        clear ha hf hce hck HA2 HF2 HN2
        by_cases hc0 : ci < 0
        · have hcc : ¬ (0 : Int) ≤ ci := by omega
          have HBE := Lib.hid (show badi = exprS t (n + 1) k B bad by
            rw [← HCE.out]
            cases m with
            | zero => rfl
            | succ m => simp only [clF]; rw [if_pos hc0])
          go_wp2_with fail
          go_end0
          exact ⟨rfl, by rw [← HBE.out]; exact HA.out, HF.out⟩
        obtain ⟨q, rfl⟩ : ∃ q : Nat, ci = (q : Int) := ⟨ci.toNat, by omega⟩
        obtain ⟨m, rfl⟩ : ∃ m', m = m' + 1 := ⟨m - 1, by omega⟩
        have hci : InR k (q : Int) ∧ (nd t q).k = 19 := by
          rcases HCK.out with h | h
          · exact absurd h hc0
          · exact h
        have hqk : q < k := by have h := hci.1.2; omega
        have HQK := Lib.hid hqk
        have hql : q < t.l.length := by have h := HKL.out; omega
        have HQL := Lib.hid hql
        have hyx := nd_at hql
        have ha9 := HSH.out.one q hql (.inr (.inr (.inr (.inr (.inr hci.2)))))
        have hb9 := HSH.out.two q hql (.inr (.inr (.inr (.inr hci.2))))
        have hc9 := HSH.out.cl2 q hql hci.2
        have HCF := Lib.hid (show clF (exprS t n) t m (nd t q).c B (exprS t n (nd t q).b.toNat (addM B (namesF t 501 (nd t q).a.toNat ⟨badi, fun _ => none⟩).met) (namesF t 501 (nd t q).a.toNat ⟨badi, fun _ => none⟩).bad) = exprS t (n + 1) k B bad by
          rw [← HCE.out]
          simp only [clF]
          rw [if_neg hc0]
          rfl)
        generalize nd t q = y at hyx ha9 hb9 hc9 HCF
        obtain ⟨yk, yt, yt2, yn, ya, yb, yc, yh⟩ := y
        simp only at ha9 hb9 hc9 HCF
        obtain ⟨p, rfl⟩ : ∃ p : Nat, ya = (p : Int) := ⟨ya.toNat, by have := ha9.1; omega⟩
        obtain ⟨r, rfl⟩ : ∃ r : Nat, yb = (r : Int) := ⟨yb.toNat, by have := hb9.1; omega⟩
        have HP := Lib.hid (show p < q by have h := ha9.2; omega)
        have HR := Lib.hid (show r < q by have h := hb9.2; omega)
        have HC9 := Lib.hid hc9
        have HCM := Lib.hid (show (q : Int) < ((m + 1 : Nat) : Int) from hcm)
        rw [Int.toNat_natCast, Int.toNat_natCast] at HCF
        have HMO := Lib.hid (names_ok HSH.out 501 p ⟨badi, fun _ => none⟩ (by have := HP.out; omega) (fun s i h => by cases h))
        generalize hSS : namesF t 501 p ⟨badi, fun _ => none⟩ = S at HCF HMO
        have HSS := Lib.hid hSS
        have HYX := Lib.hid hyx
        clear hSS ha9 hb9 hc9 hci hcm hyx hc0 HCE HCK
        obtain ⟨ad9, hA9, _, hcs9⟩ := (HA.out.tree.next HA.out.low).nodes.nodAt HYX.out
        obtain rfl := Option.some.inj hA9
        obtain ⟨y4, y5, y6⟩ := nod_cell hcs9
        replace y4 : wr.cell? ⟨(ad.add (q * 8)).block, (ad.add (q * 8)).off + 4, none⟩ = some (.int .i64 (p : Int)) := y4
        have a0 : wr.cell? ⟨g, 0, none⟩ = some (.slice (some ad) t.l.length c) := HA.out.ask.cell 0
        have i1 : (0 : Int) ≤ (q : Int) := by omega
        have i2 : (q : Int) < (t.l.length : Int) := by omega
        clear hcs9 hA9 y5 y6
        go_wp2_with fail
        clear y4 a0 i1 i2 hql hqk
        refine (c41 HSH.out p badi wr (by have := HP.out; have := HQL.out; omega) HA.out).mono ?_
        rintro e w30 ⟨mm, rfl, ha, hm, hmm, hf⟩
        rw [HSS.out] at ha hm
        have HF30 := Lib.hid (HF.out.trans (hf.wide (.inl rfl)))
        obtain ⟨w31, cnt0, hrg, hit, hb31, hz31⟩ := hm.range Tryd.underlying65
        have HA31 := Lib.hid (ha.next hb31)
        have HF31 := Lib.hid (HF30.out.below hb31)
        have HIT := Lib.hid hit
        have HRI := Lib.hid (show g < w30.heap.size ∧ pb < w30.heap.size ∧ cb < w30.heap.size ∧ bb < w30.heap.size ∧ W0.heap.size ≤ w30.heap.size from ⟨ha.ask.lt, ha.mark.lt, ha.con.lt, by obtain ⟨D, hD, _⟩ := ha.bnd; exact hD.lt, ha.size⟩)
        have HMX := Lib.hid (show mm < w30.heap.size from hm.lt)
        have HWW := Lib.hid (show w.heap.size ≤ w30.heap.size from HF30.out.size)
        have HZ := Lib.hid hz31
        clear ha hm hmm hf hit hb31 hz31 HA HF HF30
        go_wp2_with fail
        clear hrg
        generalize w30.heap.size = ri at HIT HRI HMX HZ HWW ⊢
        have HB31 := Lib.hid (show ri < w31.heap.size by rw [HZ.out]; omega)
        clear HZ
        obtain ⟨b31, hb31⟩ : ∃ z, z = w31.heap.size := ⟨_, rfl⟩
        rw [← hb31] at HB31
        have HBB := Lib.hid (show b31 ≤ w31.heap.size by rw [hb31]; exact Nat.le_refl _)
        clear hb31
        go_loopw [6] (fun lv wq => ∃ (done : List KS) (cnt : Nat) (A1 : Option Addr) (c1 : Nat), lv = .slice A1 done.length c1 ∧ SIter wq mm ri (fun s => (S.met s).map natV) done cnt ∧ Ak W0 g pb cb bb (some ad) A' c c' t M B S.bad wq ∧ Fr pb bb w wq ∧ wq.ownsRow b31 9 1 (.slice A1 done.length c1) done.length (done.map strV) ∧ b31 ≤ wq.heap.size) (fun _ wq => itLeft wq mm ri)
        case atStart => exact ⟨[], cnt0, none, 0, rfl, HIT.out, HA31.out, HF31.out, ⟨rfl, .inl ⟨rfl, rfl⟩⟩, HBB.out⟩
        case round =>
          obtain ⟨done, cnt, A1, c1, rfl, hit, ha, hf, ho, hbz⟩ := hrel
          obtain ⟨hdn, hdm⟩ := hit.mem
          have HDL := Lib.hid (show done.length ≤ 500 from Nat.le_trans (done_len HMO.out hdn hdm) HSH.out.len)
          have HDN := Lib.hid hdn
          have HDM := Lib.hid hdm
          have HA := Lib.hid ha
          have HF := Lib.hid hf
          have HO := Lib.hid ho
          have HBZ := Lib.hid hbz
          have HIT1 := Lib.hid hit
          clear hdn hdm ha hf ho hbz HIT HA31 HF31 HBB
          rcases hit.next (P := Tryd.prog) 0 with ⟨hall, hnx⟩ | ⟨sx, vx, w5, cnt5, hnd, hnx, hit5, hlt5, hgr5, hsz5, hen⟩
          · have HAM := Lib.hid (add_met (B := B) HDN.out HDM.out hall)
            clear hall hit
            obtain ⟨ad9, hA9, _, hcs9⟩ := (HA.out.tree.next HA.out.low).nodes.nodAt HYX.out
            obtain rfl := Option.some.inj hA9
            obtain ⟨y4, y5, y6⟩ := nod_cell hcs9
            replace y5 : wr.cell? ⟨(ad.add (q * 8)).block, (ad.add (q * 8)).off + 5, none⟩ = some (.int .i64 (r : Int)) := y5
            have a0 : wr.cell? ⟨g, 0, none⟩ = some (.slice (some ad) t.l.length c) := HA.out.ask.cell 0
            have i1 : (0 : Int) ≤ (q : Int) := by omega
            have i2 : (q : Int) < (t.l.length : Int) := by have := HQL.out; omega
            clear hcs9 hA9 y4 y6
            go_wp2_with fail
            clear y5 a0 i1 i2 hnx
            refine (c39 (HI.out r (by have := HR.out; have := HQK.out; have := HKN.out; omega) (by have := HR.out; have := HQL.out; omega)) (fun s => (HFW.out s).1) (HFW.out.add (by have := HR.out; have := HQK.out; omega) done (fun s => by
              by_cases h : s ∈ done
              · rw [count_one HDN.out h]; decide
              · rw [List.count_eq_zero_of_not_mem h]; decide)) HA.out HO.out).mono ?_
            rintro e w40 ⟨rfl, ha, hf⟩
            rw [HAM.out] at ha
            have HA40 := Lib.hid ha
            have HF40 := Lib.hid (HF.out.trans hf)
            clear ha hf HA HF HO HIT1
            obtain ⟨ad9, hA9, _, hcs9⟩ := (HA40.out.tree.next HA40.out.low).nodes.nodAt HYX.out
            obtain rfl := Option.some.inj hA9
            obtain ⟨y4, y5, y6⟩ := nod_cell hcs9
            replace y6 : w40.cell? ⟨(ad.add (q * 8)).block, (ad.add (q * 8)).off + 6, none⟩ = some (.int .i64 yc) := y6
            have a0 : w40.cell? ⟨g, 0, none⟩ = some (.slice (some ad) t.l.length c) := HA40.out.ask.cell 0
            have i1 : (0 : Int) ≤ (q : Int) := by omega
            have i2 : (q : Int) < (t.l.length : Int) := by have := HQL.out; omega
            clear hcs9 hA9 y4 y5
            go_wp2_with fail
            clear y6 a0 i1 i2
            have hc9 := HC9.out
            have hcm := HCM.out
            have hqk := HQK.out
            have hyc : yc < (m : Int) ∧ (yc < 0 ∨ InR k yc ∧ (nd t yc.toNat).k = 19) ∧ (yc + 1).toNat < ((q : Int) + 1).toNat := by
              rcases hc9 with h | ⟨⟨h1, h2⟩, h3⟩
              · exact ⟨by omega, .inl h, by omega⟩
              · exact ⟨by omega, .inr ⟨⟨h1, by omega⟩, h3⟩, by omega⟩
            have HYC := Lib.hid hyc
            clear hc9 hcm hqk hyc
            go_roundw
            case rel => exact ⟨m, yc, _, rfl, HYC.out.1, HYC.out.2.1, HA40.out, HF40.out, HCF.out⟩
            case measure =>
              simp only [intOf]
              exact HYC.out.2.2
          · have HA5 := Lib.hid (HA.out.grown hgr5 (fun j hj => by obtain rfl := Option.some.inj hj; have h := HRI.out; exact ⟨h.2.2.2.2, by omega, by omega, by omega, by omega⟩))
            have HF5 := Lib.hid (HF.out.grown hgr5 (fun j hj => by obtain rfl := Option.some.inj hj; exact .inr (.inr HWW.out)))
            have HO5 := Lib.hid (own_of_block HO.out (fun j hj => hgr5.block j (HO.out.lt j hj).2 (fun e => by have h1 := (HO.out.lt j hj).1; have h2 := HB31.out; have h3 := Option.some.inj e; omega)))
            have HBZ5 := Lib.hid (show b31 ≤ w5.heap.size by rw [hsz5]; exact HBZ.out)
            have HIT5 := Lib.hid hit5
            have HLT5 := Lib.hid (show cnt5 < itLeft wr mm ri by rw [HIT1.out.left_eq]; exact hlt5)
            clear hnd hit5 hlt5 hgr5 hsz5 hit HA HF HO HIT1
            go_upto_region 29 with fail
            clear hnx hen
            go_wp2_with (at_builtin; refine wpList_append_any _ rfl (.tmp 139) (.tmp 141) 87 rfl b31 9 i9 _ 1 16 Tryd.underlying87 fi9 H9.out.1 H9.out.2.1 H9.out.2.2 rfl (by omega) (.slice A1 done.length c1) done.length (done.map strV) rfl (own_next HO5.out (below_new _ _)) (w5.heap.size + 1) (some ⟨w5.heap.size, 0, none⟩) 1 1 [strV sx] rfl (reads_blkN (Blk.new w5 9 #[strV sx]) rfl) (str_one [sx]) (by unfold maxLen; have := HDL.out; omega) (by have := HDL.out; omega) (by rw [World.size_alloc]; have := HBZ5.out; omega) ?_; intro v1 w7 oA gA nA)
            obtain ⟨A2, c2, rfl⟩ := own_form oA
            have hrow : ∀ j, Value.ownBlock (.slice A1 done.length c1) = some j → b31 ≤ j := fun j hj => (HO5.out.lt j hj).1
            have HA7 := Lib.hid ((HA5.out.next (below_new w5 (.cells #[strV sx] 9))).grown gA (fun j hj => by have h1 := hrow j hj; have h := HRI.out; have h2 := HB31.out; exact ⟨by omega, by omega, by omega, by omega, by omega⟩))
            have HF7 := Lib.hid ((HF5.out.below (below_new w5 (.cells #[strV sx] 9))).grown gA (fun j hj => by have h1 := hrow j hj; have h2 := HB31.out; have h3 := HWW.out; exact .inr (.inr (by omega))))
            have HIT7 := Lib.hid (HIT5.out.keep (w' := w7) ((gA.block mm (by rw [World.size_alloc]; have := HIT5.out.map.lt; omega) (fun e => by have h1 := hrow mm e.symm; have h2 := HB31.out; have h3 := HMX.out; omega)).trans (Below.heap_alloc w5 _ mm HIT5.out.map.lt)) ((gA.block ri (by rw [World.size_alloc]; have := HIT5.out.lt; omega) (fun e => by have h1 := hrow ri e.symm; have h2 := HB31.out; omega)).trans (Below.heap_alloc w5 _ ri HIT5.out.lt)))
            have HO7 := Lib.hid oA
            have HBZ7 := Lib.hid (show b31 ≤ w7.heap.size by have h1 := gA.size; rw [World.size_alloc] at h1; have h2 := HBZ5.out; omega)
            clear oA gA nA hrow HA5 HF5 HIT5 HO5 HBZ5
            go_wp2_with fail
            go_roundw
            case rel => exact ⟨done ++ [sx], cnt5, A2, c2, by rw [List.length_append]; rfl, HIT7.out, HA7.out, HF7.out, by rw [List.length_append, List.map_append]; exact HO7.out, HBZ7.out⟩
            case measure =>
              rw [HIT7.out.left_eq]
              exact HLT5.out
    have HKI := Lib.hid (show x.k ≠ 5 ∧ x.k ≠ 10 ∧ x.k ≠ 12 ∧ x.k ≠ 13 ∧ x.k ≠ 21 ∧ x.k ≠ 18 from ⟨h5, h10, h12, h13, h21, h18⟩)
    have HEQ := Lib.hid (show exprS t (n + 1) k B bad = (kidsS x).foldl (fun b c => exprS t n c.toNat B b) bad by
      show (if (nd t k).k = 5 then _ else _) = _
      rw [← HQ.out, if_neg h5, if_neg h10, if_neg h12, if_neg h13, if_neg h21, if_neg h18])
    have e5 : (x.k == 5) = false := beq_false_of_ne h5
    have e10 : (x.k == 10) = false := beq_false_of_ne h10
    have e12 : (x.k == 12) = false := beq_false_of_ne h12
    have e13 : (x.k == 13) = false := beq_false_of_ne h13
    have e21 : (x.k == 21) = false := beq_false_of_ne h21
    have e18 : (x.k == 18) = false := beq_false_of_ne h18
    clear h5 h10 h12 h13 h21 h18
    go_upto_region 2 with fail
    clear e5 e10 e12 e13 e21 e18 n0 HN1
    have a0 : w1.cell? ⟨g, 0, none⟩ = some (.slice (some ad) t.l.length c) := HA1.out.ask.cell 0
    have a1 : w1.cell? ⟨g, 1, none⟩ = some (.slice A' t.y.length c') := HA1.out.ask.cell 1
    have a2 : w1.cell? ⟨g, 2, none⟩ = some (.int .i64 t.r) := HA1.out.ask.cell 2
    go_wp2_with fail
    clear a0 a1 a2
    refine (show Calls Tryd.prog 42 #[.agg #[.slice (some ad) t.l.length c, .slice A' t.y.length c', .int .i64 t.r], .int .i64 (k : Int)] w1 _ from c42 (A := some ad) (A' := A') (c := c) (c' := c') k _ w1 (HA1.out.tree.next HA1.out.low) HX.out).mono ?_
    rintro e w30 ⟨Ak1, ck1, rfl, hown, hb30⟩
    rw [List.length_map] at hown ⊢
    have HA30 := Lib.hid (HA1.out.next hb30)
    have HF30 := Lib.hid (HF1.out.below hb30)
    have HO30 := Lib.hid hown
    clear hown hb30 HA1 HF1
    have HKD := Lib.hid (show ∀ c ∈ kidsS x, InR k c from by
      have h9 := HSH.out.kids k HKL.out
      rw [← HQ.out] at h9
      exact h9)
    have HKS := Lib.hid (show (kidsS x).length ≤ 3 from kids_le _)
    generalize hkk : kidsS x = ks at HO30 HKD HKS HEQ ⊢
    clear hkk
    go_wp2_with fail
    go_loopw [27] (fun iv wr => ∃ (j : Nat), j ≤ ks.length ∧ iv = .int .i64 j ∧ Ak W0 g pb cb bb (some ad) A' c c' t M B ((ks.take j).foldl (fun b c => exprS t n c.toNat B b) bad) wr ∧ Fr pb bb w wr ∧ wr.ownsRow w1.heap.size 3 1 (.slice Ak1 ks.length ck1) ks.length (ks.map intV)) (fun iv _ => ks.length - (intOf iv).toNat)
    case atStart => exact ⟨0, by omega, rfl, HA30.out, HF30.out, HO30.out⟩
    case round =>
      obtain ⟨j, hj, rfl, ha, hf, ho⟩ := hrel
      have HA := Lib.hid ha
      have HF := Lib.hid hf
      have HO := Lib.hid ho
      clear ha hf ho HA30 HF30 HO30
      by_cases hlt : j < ks.length
      · have HLT := Lib.hid hlt
        have hlj : (j : Int) < (ks.length : Int) := by omega
        have hj0 : (0 : Int) ≤ (j : Int) := by omega
        obtain ⟨ad2, u, hA2, _, hu, hcell⟩ := (Reads.of_own HO.out).at_ hlt
        subst hA2
        have hkj : ks[j]? = some ks[j] := List.getElem?_eq_getElem hlt
        have HRG := Lib.hid (HKD.out _ (List.getElem_mem hlt))
        rw [List.getElem?_map, hkj] at hu
        obtain rfl := Option.some.inj hu
        have HTK := Lib.hid (show (ks.take (j + 1)).foldl (fun b c => exprS t n c.toNat B b) bad = exprS t n (ks[j]).toNat B ((ks.take j).foldl (fun b c => exprS t n c.toNat B b) bad) by rw [List.take_add_one, hkj, List.foldl_append]; rfl)
        generalize ks[j] = kc at hcell HRG HTK
        obtain ⟨m, rfl⟩ : ∃ m : Nat, kc = (m : Int) := ⟨kc.toNat, by have := HRG.out.1; omega⟩
        rw [Int.toNat_natCast] at HTK
        replace hcell : wr.cell? (ad2.add j) = some (.int .i64 (m : Int)) := hcell
        clear hkj hu
        go_wp2_with fail
        clear hcell
        have hrg : m < k := by have h := HRG.out.2; omega
        refine (HI.out m (by have := HKN.out; omega) (by have := HKL.out; omega) B _ wr (HFW.out.down hrg) HA.out).mono ?_
        rintro e w40 ⟨rfl, ha, hf⟩
        clear hrg
        rw [← HTK.out] at ha
        have HA40 := Lib.hid ha
        have HF40 := Lib.hid (HF.out.trans hf)
        have HO40 := Lib.hid (HA.out.row HO.out (by decide) hf)
        clear ha hf HA HF HO
        have hj9 : j < 3 := Nat.lt_of_lt_of_le HLT.out HKS.out
        go_wp2_with fail
        go_roundw
        case rel => exact ⟨j + 1, HLT.out, by go_num, HA40.out, HF40.out, HO40.out⟩
        case measure =>
          have := HLT.out
          simp [intOf]
          omega
      · obtain rfl : j = ks.length := by omega
        have hlj : ¬ ((ks.length : Int) < (ks.length : Int)) := by omega
        rw [List.take_length] at HA
        go_wp2_with fail
        go_end0
        exact ⟨rfl, by rw [HEQ.out]; exact HA.out, HF.out⟩
end Go.Proofs.YtphojigdapaaiaaDoor
