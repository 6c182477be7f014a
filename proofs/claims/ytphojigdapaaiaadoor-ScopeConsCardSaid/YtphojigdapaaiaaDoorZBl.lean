/- scope's datatypes: what is bad in them, and in the nodes that name a datatype or a constructor (asker.types). -/
import Derived.Test.YtphojigdapaaiaaDoorZBk
import Derived.Test.YtphojigdapaaiaaDoorZBc
import Derived.StillTailTactics
import Derived.Deep.QuietTactic
import Derived.BigQuiet
import Derived.Test.YtphojigdapaaiaaDoorSHp
namespace Go.Proofs.YtphojigdapaaiaaDoor
open Go.ChangeShapes Go.WideShapes Go.ChangeAt Go.RowKit
set_option linter.unusedVariables false
set_option linter.unusedSimpArgs false
def TyEnd (W0 : World) (g pb cb bb : Nat) (A A' : Option Addr) (c c' : Nat) (t : Tre) (M : CM) (B : KS → Int) (bad : List Bool) (w : World) (e : Ending) (w' : World) : Prop :=
  e = .returned (.tuple #[]) ∧ Ak W0 g pb cb bb A A' c c' t M B bad w' ∧ Fr pb pb w w'
set_option maxRecDepth 100000 in
set_option maxHeartbeats 8000000 in
theorem c27 {W0 : World} {g pb cb bb : Nat} {A A' : Option Addr} {c c' : Nat} {t : Tre} {M : CM} {B : KS → Int} (hs : Shp t) (hy : t.y.length ≤ 281474976710656) (bad : List Bool) (w : World) (ha : Ak W0 g pb cb bb A A' c c' t M B bad w) :
    Calls Tryd.prog 27 #[ptr g] w (TyEnd W0 g pb cb bb A A' c c' t M B (marksF t M bad) w) := by
  have HSH := Lib.hid hs
  have HYL := Lib.hid hy
  have HT0 := Lib.hid (Ty.made ha)
  have HF0 := Lib.hid (Fr.of (pb := pb) (bb := pb) (alloc2_below w (.map #[] 0) (.map #[] 0)))
  have HMK := Lib.hid (show marksF t M bad = nodesB t M (typesL t t.y ⟨bad, fun _ => false, fun _ => false⟩).names t.l.length (typesL t t.y ⟨bad, fun _ => false, fun _ => false⟩).bad from rfl)
  generalize hTS : typesL t t.y ⟨bad, fun _ => false, fun _ => false⟩ = TE at HMK
  have HTE := Lib.hid hTS
  clear hTS hs hy ha
  dsimp only [ptr]
  have hmk := @run_makeMap Tryd.prog
  go_enter Tryd.func27, Tryd.ntmps27
  go_upto_region 1 with fail
  clear hmk
  generalize (w.alloc (.map #[] 0)).alloc (.map #[] 0) = w0 at HT0 HF0 ⊢
  generalize w.heap.size + 1 = mt at HT0 ⊢
  generalize hmn : w.heap.size = mn at HT0 ⊢
  have HMN := Lib.hid hmn
  clear hmn
  obtain ⟨lo, hlo⟩ : ∃ lo, lo = mn := ⟨_, rfl⟩
  replace HT0 := Lib.hid (show Ty W0 g pb cb bb A A' c c' t M B mn mt lo ⟨bad, fun _ => false, fun _ => false⟩ w0 by rw [hlo]; exact HT0.out)
  have HLO := Lib.hid hlo
  clear hlo
  have a1 : w0.cell? ⟨g, 1, none⟩ = some (.slice A' t.y.length c') := HT0.out.ak.ask.cell 1
  go_wp2_with fail
  clear a1
  go_loopw [20] (fun iv wr => ∃ (j : Nat) (S : TS), j ≤ t.y.length ∧ iv = .int .i64 j ∧ Ty W0 g pb cb bb A A' c c' t M B mn mt lo S wr ∧ Fr pb pb w wr ∧ typesL t (t.y.drop j) S = TE) (fun iv _ => t.y.length - (intOf iv).toNat)
  case atStart => exact ⟨0, _, Nat.zero_le _, rfl, HT0.out, HF0.out, HTE.out⟩
  case round =>
    obtain ⟨j, S, hj, rfl, ht, hf, heq⟩ := hrel
    have HT := Lib.hid ht
    have HF := Lib.hid hf
    have HE := Lib.hid heq
    clear ht hf heq HT0 HF0
    by_cases hlt : j < t.y.length
    case neg =>
      obtain rfl : j = t.y.length := by omega
      have hlj : ¬ ((t.y.length : Int) < (t.y.length : Int)) := by omega
      have HM := Lib.hid (show S = TE by have h := HE.out; rw [List.drop_length] at h; exact h)
      clear HE
      replace HT := Lib.hid (show Ty W0 g pb cb bb A A' c c' t M B mn mt lo TE wr by rw [← HM.out]; exact HT.out)
      clear HM HTE
      have a0 : wr.cell? ⟨g, 0, none⟩ = some (.slice A t.l.length c) := HT.out.ak.ask.cell 0
      go_wp2_with fail
      clear a0
      go_loopw [92] (fun iv wr => ∃ (k : Nat) (bad1 : List Bool), k ≤ t.l.length ∧ iv = .int .i64 k ∧ Ty W0 g pb cb bb A A' c c' t M B mn mt lo ⟨bad1, TE.names, TE.met⟩ wr ∧ Fr pb pb w wr ∧ bad1 = nodesB t M TE.names k TE.bad) (fun iv _ => t.l.length - (intOf iv).toNat)
      case atStart => exact ⟨0, _, Nat.zero_le _, rfl, HT.out, HF.out, rfl⟩
      case round =>
        obtain ⟨k, bad1, hk, rfl, ht, hf, heq⟩ := hrel
        have HT7 := Lib.hid ht
        have HF7 := Lib.hid hf
        have HE := Lib.hid heq
        clear ht hf heq HT HF hj hlj
        by_cases hkl : k < t.l.length
        case neg =>
          obtain rfl : k = t.l.length := by omega
          have hlk : ¬ ((t.l.length : Int) < (t.l.length : Int)) := by omega
          go_wp2_with fail
          go_end0
          exact ⟨rfl, by rw [HMK.out, ← HE.out]; exact HT7.out.ak, HF7.out⟩
        have HKL := Lib.hid hkl
        have HKT := Lib.hid (show t.l.length ≤ 500 from HSH.out.len)
        have hx := nd_at hkl
        have HE1 := Lib.hid (show nodesB t M TE.names (k + 1) TE.bad = nodeB M TE.names k (nd t k) bad1 by rw [HE.out]; rfl)
        generalize nd t k = x at hx HE1
        have HX := Lib.hid hx
        obtain ⟨ad, hA, _, hcs⟩ := HT7.out.nod.nodes.nodAt hx
        subst hA
        have HCS := Lib.hid hcs
        have i1 : (0 : Int) ≤ (k : Int) := by omega
        have i2 : (k : Int) < (t.l.length : Int) := by omega
        have hk9 : k < 500 := by have := HKT.out; omega
        clear hcs hx hkl HE
        have hN := Blk.new wr 30 #[.int .i64 x.k, strV x.t, strV x.t2, .int .i64 x.n, .int .i64 x.a, .int .i64 x.b, .int .i64 x.c, .int .i64 x.h]
        have hb1 := below_new wr (.cells #[.int .i64 x.k, strV x.t, strV x.t2, .int .i64 x.n, .int .i64 x.a, .int .i64 x.b, .int .i64 x.c, .int .i64 x.h] 30)
        have HT8 := Lib.hid (HT7.out.next hb1)
        have HF8 := Lib.hid (HF7.out.below hb1)
        generalize hw1 : wr.alloc (.cells #[.int .i64 x.k, strV x.t, strV x.t2, .int .i64 x.n, .int .i64 x.a, .int .i64 x.b, .int .i64 x.c, .int .i64 x.h] 30) = w8 at hN hb1 HT8 HF8
        have HN8 := Lib.hid hN
        clear hN hb1 HT7 HF7
        go_upto_region 16 with (refine wpList_load_at rfl 30 (.tmp 95) rfl (ad.add (k * 8)) rfl [.int .i64 x.k, strV x.t, strV x.t2, .int .i64 x.n, .int .i64 x.a, .int .i64 x.b, .int .i64 x.c, .int .i64 x.h] _ HCS.out Tryd.underlying30 rfl (by kernel_rfl) ?_)
        clear hw1
        generalize wr.heap.size = nb at HN8 ⊢
        have n0 : w8.cell? ⟨nb, 0, none⟩ = some (.int .i64 x.k) := HN8.out.cell 0
        by_cases h39 : x.k = 39
        · have HK := Lib.hid (show x.k = 39 from h39)
          rw [h39] at n0
          clear h39
          have HE2 := Lib.hid (show bad1.set k (!TE.names x.t) = nodesB t M TE.names (k + 1) TE.bad by rw [HE1.out]; unfold nodeB; rw [if_pos HK.out])
          go_upto_region 18 with fail
          clear n0
          have HTd := Lib.hid (show Ty W0 g pb cb bb (some ad) A' c c' t M B mn mt lo ⟨bad1, TE.names, TE.met⟩ w8.drew from HT8.out.drewN 1)
          have HFd := Lib.hid (show Fr pb pb w w8.drew from HF8.out.drewN 1)
          have HN8d := Lib.hid (show Blk w8.drew nb 30 #[.int .i64 x.k, strV x.t, strV x.t2, .int .i64 x.n, .int .i64 x.a, .int .i64 x.b, .int .i64 x.c, .int .i64 x.h] from HN8.out)
          refine wp_region_last (S := fun V => V.cell? ⟨g, 3, none⟩ = some (.slice (some ⟨pb, 0, none⟩) t.l.length t.l.length) ∧ V.cell? ⟨nb, 1, none⟩ = some (strV x.t) ∧ (Instr.lookup 85 (.map (some mn)) (strV x.t) false).run Tryd.prog V = .ok (.bool (TE.names x.t)) V) 11 (by kernel_rfl) (by kernel_rfl) (by kernel_rfl) (by kernel_rfl) ⟨HT8.out.ak.ask.cell 3, HN8.out.cell 1, lookB (HT8.out.drewN 1).nm x.t⟩ (fun hHeld => ?_)
          clear HT8 HF8 HN8
          generalize w8.drew = d at HTd HFd HN8d hHeld ⊢
          refine tkH 0 101 ?_ rfl ?_ ?_
          rotate_left
          · rintro V ⟨s0, s1, s2⟩; go_simp; try with_reducible rfl
          try simp only [Act.put, sLA, sL0, sL1]
          refine tkH 1 102 ?_ rfl ?_ ?_
          rotate_left
          · rintro V ⟨s0, s1, s2⟩; go_simp; try with_reducible rfl
          try simp only [Act.put, sLA, sL0, sL1]
          refine tkH 2 103 ?_ rfl ?_ ?_
          rotate_left
          · rintro V ⟨s0, s1, s2⟩; go_simp; try with_reducible rfl
          try simp only [Act.put, sLA, sL0, sL1]
          refine tkH 3 104 ?_ rfl ?_ ?_
          rotate_left
          · rintro V ⟨s0, s1, s2⟩; go_simp; try with_reducible rfl
          try simp only [Act.put, sLA, sL0, sL1]
          refine tkH 4 105 ?_ rfl ?_ ?_
          rotate_left
          · rintro V ⟨s0, s1, s2⟩; go_simp; try with_reducible rfl
          try simp only [Act.put, sLA, sL0, sL1]
          refine tkH 5 106 ?_ rfl ?_ ?_
          rotate_left
          · rintro V ⟨s0, s1, s2⟩; go_simp; try with_reducible rfl
          try simp only [Act.put, sLA, sL0, sL1]
          refine tkH 6 107 ?_ rfl ?_ ?_
          rotate_left
          · rintro V ⟨s0, s1, s2⟩; go_simp; try with_reducible rfl
          try simp only [Act.put, sLA, sL0, sL1]
          refine tkH 7 108 ?_ rfl ?_ ?_
          rotate_left
          · rintro V ⟨s0, s1, s2⟩; go_simp; try with_reducible rfl
          try simp only [Act.put, sLA, sL0, sL1]
          refine tkH 8 109 ?_ rfl ?_ ?_
          rotate_left
          · rintro V ⟨s0, s1, s2⟩; go_simp; try with_reducible rfl
          try simp only [Act.put, sLA, sL0, sL1]
          refine tkH 9 110 ?_ rfl ?_ ?_
          rotate_left
          · rintro V ⟨s0, s1, s2⟩; go_simp; try with_reducible rfl
          try simp only [Act.put, sLA, sL0, sL1]
          refine tkH 10 111 ?_ rfl ?_ ?_
          rotate_left
          · rintro V ⟨s0, s1, s2⟩; go_simp; try with_reducible rfl
          try simp only [Act.put, sLA, sL0, sL1]
          have zf := HTd.out.ak.mark.frozen k
          obtain ⟨u0, zc⟩ : ∃ u, d.cell? ⟨pb, k, none⟩ = some u := ⟨_, (HTd.out.ak.mark.cell k).trans (by rw [List.getElem?_toArray]; exact List.getElem?_eq_getElem (by rw [List.length_map, HTd.out.ak.len]; exact HKL.out))⟩
          refine wpAnyH_done (by kernel_rfl) ?_ _
          refine lastPost_run (o := ⟨none, _, _, _, _, _⟩) rfl (fun K hK => ?_)
          go_simp
          refine hK.out _ _ ?_
          clear hK K zf zc
          have HT9 := Lib.hid (HTd.out.setBad k (!TE.names x.t))
          have HF9 := Lib.hid (HFd.out.set (p := ⟨pb, k, none⟩) (.inl rfl) (.bool (!TE.names x.t)))
          have HN9 := Lib.hid (HN8d.out.far (p := ⟨pb, k, none⟩) (HN8d.out.ne_ HTd.out.ak.mark (by decide)) (.bool (!TE.names x.t)))
          clear HTd HFd HN8d hHeld
          generalize d.setCell ⟨pb, k, none⟩ (.bool (!TE.names x.t)) = w9 at HT9 HF9 HN9 ⊢
          go_wp2_with fail
          go_roundw
          case rel => exact ⟨k + 1, _, HKL.out, by go_num, HT9.out, HF9.out, HE2.out⟩
          case measure =>
            have := HKL.out
            simp [intOf]
            omega
        have e39 : (x.k == 39) = false := beq_false_of_ne h39
        by_cases h6 : x.k = 6 ∨ x.k = 34
        case neg =>
          have HE2 := Lib.hid (show bad1 = nodesB t M TE.names (k + 1) TE.bad by rw [HE1.out]; unfold nodeB; rw [if_neg h39, if_neg h6])
          have e6 : (x.k == 6) = false := beq_false_of_ne (fun h => h6 (.inl h))
          have e34 : (x.k == 34) = false := beq_false_of_ne (fun h => h6 (.inr h))
          clear h39 h6
          go_wp2_with fail
          go_roundw
          case rel => exact ⟨k + 1, _, HKL.out, by go_num, HT8.out, HF8.out, HE2.out⟩
          case measure =>
            have := HKL.out
            simp [intOf]
            omega
        have HE2 := Lib.hid (show bad1.set k (conBad M x) = nodesB t M TE.names (k + 1) TE.bad by rw [HE1.out]; unfold nodeB; rw [if_neg h39, if_pos h6])
        have HK6 := Lib.hid h6
        clear h39
        obtain ⟨z6, hz6⟩ : ∃ z : Bool, z = (x.k == 6) := ⟨_, rfl⟩
        rcases h6 with h6 | h6
        · have HK := Lib.hid (show x.k = 6 from h6)
          clear hz6
          rw [h6] at n0
          clear h6
          go_upto_region 21 with fail
          clear n0 e39
          cases hmx : M x.t with
          | some cc =>
            have HCB := Lib.hid (show conBad M x = (!(cc.has == decide (0 ≤ x.a))) by unfold conBad; rw [hmx]; try rfl)
            have HLK := Lib.hid (show ∀ V, SMap V cb (fun s => (M s).map conV) → (Instr.lookup 63 (.map (some cb)) (strV x.t) true).run Tryd.prog V = .ok (.tuple #[.agg #[strV cc.typ, .int .i64 cc.num, .bool cc.has], .bool true]) V from fun V h => by
              have h8 := look63 h x.t
              simp only [hmx] at h8
              exact h8)
            have HE3 := Lib.hid (show bad1.set k (!(cc.has == decide (0 ≤ x.a))) = nodesB t M TE.names (k + 1) TE.bad by rw [← HCB.out]; exact HE2.out)
            clear hmx
            have HTd := Lib.hid (show Ty W0 g pb cb bb (some ad) A' c c' t M B mn mt lo ⟨bad1, TE.names, TE.met⟩ w8.drew from HT8.out.drewN 1)
            have HFd := Lib.hid (show Fr pb pb w w8.drew from HF8.out.drewN 1)
            have HNd := Lib.hid (show Blk w8.drew nb 30 #[.int .i64 x.k, strV x.t, strV x.t2, .int .i64 x.n, .int .i64 x.a, .int .i64 x.b, .int .i64 x.c, .int .i64 x.h] from HN8.out)
            refine wp_region_held_drew (S := fun V => V.cell? ⟨g, 4, none⟩ = some (.map (some cb)) ∧ V.cell? ⟨nb, 1, none⟩ = some (strV x.t) ∧ (Instr.lookup 63 (.map (some cb)) (strV x.t) true).run Tryd.prog V = .ok (.tuple #[.agg #[strV cc.typ, .int .i64 cc.num, .bool cc.has], .bool true]) V) (by kernel_rfl) ⟨HTd.out.ak.ask.cell 4, HNd.out.cell 1, HLK.out _ HTd.out.ak.con⟩ (fun hHeld => ?_)
            clear HT8 HF8 HN8
            generalize w8.drew = d at HTd HFd HNd hHeld ⊢
            refine tkH 0 116 ?_ rfl ?_ ?_
            rotate_left
            · rintro V ⟨s0, s1, s2⟩; go_simp; try with_reducible rfl
            try simp only [Act.put, sLA, sL0, sL1]
            refine tkH 1 117 ?_ rfl ?_ ?_
            rotate_left
            · rintro V ⟨s0, s1, s2⟩; go_simp; try with_reducible rfl
            try simp only [Act.put, sLA, sL0, sL1]
            refine tkH 2 118 ?_ rfl ?_ ?_
            rotate_left
            · rintro V ⟨s0, s1, s2⟩; go_simp; try with_reducible rfl
            try simp only [Act.put, sLA, sL0, sL1]
            refine tkH 3 119 ?_ rfl ?_ ?_
            rotate_left
            · rintro V ⟨s0, s1, s2⟩; go_simp; try with_reducible rfl
            try simp only [Act.put, sLA, sL0, sL1]
            refine tkH 4 120 ?_ rfl ?_ ?_
            rotate_left
            · rintro V ⟨s0, s1, s2⟩; go_simp; try with_reducible rfl
            try simp only [Act.put, sLA, sL0, sL1]
            refine tkH 5 121 ?_ rfl ?_ ?_
            rotate_left
            · rintro V ⟨s0, s1, s2⟩; go_simp; try with_reducible rfl
            try simp only [Act.put, sLA, sL0, sL1]
            refine tkH 6 122 ?_ rfl ?_ ?_
            rotate_left
            · rintro V ⟨s0, s1, s2⟩; go_simp; try with_reducible rfl
            try simp only [Act.put, sLA, sL0, sL1]
            refine tkH 7 115 ?_ rfl ?_ ?_
            rotate_left
            · rintro V ⟨s0, s1, s2⟩; go_simp; try with_reducible rfl
            try simp only [Act.put, sLA, sL0, sL1]
            refine tkH 8 123 ?_ rfl ?_ ?_
            rotate_left
            · rintro V ⟨s0, s1, s2⟩; go_simp; try with_reducible rfl
            try simp only [Act.put, sLA, sL0, sL1]
            refine tkH 9 124 ?_ rfl ?_ ?_
            rotate_left
            · rintro V ⟨s0, s1, s2⟩; go_simp; try with_reducible rfl
            try simp only [Act.put, sLA, sL0, sL1]
            have hbc := below_new d (.cells #[strV [], .int .i64 0, .bool false] 73)
            have HTe := Lib.hid (HTd.out.next hbc)
            have HFe := Lib.hid (HFd.out.below hbc)
            have HNe := Lib.hid (HNd.out.next hbc)
            have HCe := Lib.hid (Blk.new d 73 #[strV [], .int .i64 0, .bool false])
            have HZN := Lib.hid (show nb ≠ d.heap.size by have := HNd.out.lt; omega)
            have HZF := Lib.hid (show lo ≤ d.heap.size by have h1 := HTd.out.ln; have h2 := HTd.out.nm.lt; omega)
            clear hbc HTd HFd HNd
            refine wpAnyH_ready (rs := [10]) (by kernel_rfl) (by simp) ?_
            refine AllReadyH.cons (o := ⟨some 10, _, _, _, _, _⟩) rfl (fun K hK => ?_) AllReadyH.nil
            go_simp
            refine hK.out _ _ ?_ (fun hHeld => ?_)
            · exact ⟨HTe.out.ak.ask.cell 4, HNe.out.cell 1, HLK.out _ HTe.out.ak.con⟩
            clear hK K
            generalize d.alloc (.cells #[strV [], .int .i64 0, .bool false] 73) = e at HTe HFe HNe HCe hHeld ⊢
            generalize d.heap.size = zb at HCe HZF HZN ⊢
            try simp only [Act.put, sLA, sL0, sL1]
            have c0 : e.cell? ⟨zb, 0, none⟩ = some (strV []) := HCe.out.cell 0
            have c1 : e.cell? ⟨zb, 1, none⟩ = some (.int .i64 0) := HCe.out.cell 1
            have c2 : e.cell? ⟨zb, 2, none⟩ = some (.bool false) := HCe.out.cell 2
            have f0 := HCe.out.frozen 0
            have f1 := HCe.out.frozen 1
            have f2 := HCe.out.frozen 2
            have HTe0 := Lib.hid (HTe.out.farS (i := 0) HZF.out HCe.out (strV cc.typ))
            have HFe0 := Lib.hid (HFe.out.set (p := ⟨zb, 0, none⟩) (.inr (.inr (by have h1 := HZF.out; have h2 := HLO.out; have h3 := HMN.out; show w.heap.size ≤ zb; omega))) (strV cc.typ))
            have HNe0 := Lib.hid (HNe.out.far (p := ⟨zb, 0, none⟩) HZN.out (strV cc.typ))
            have hc := HCe.out.set_ 0 (strV cc.typ)
            simp only [sLA, sL0, sL1] at hc
            have HCe0 := Lib.hid hc
            clear hc HTe HFe HNe HCe
            have HTe1 := Lib.hid (HTe0.out.farS (i := 1) HZF.out HCe0.out (.int .i64 cc.num))
            have HFe1 := Lib.hid (HFe0.out.set (p := ⟨zb, 1, none⟩) (.inr (.inr (by have h1 := HZF.out; have h2 := HLO.out; have h3 := HMN.out; show w.heap.size ≤ zb; omega))) (.int .i64 cc.num))
            have HNe1 := Lib.hid (HNe0.out.far (p := ⟨zb, 1, none⟩) HZN.out (.int .i64 cc.num))
            have hc := HCe0.out.set_ 1 (.int .i64 cc.num)
            simp only [sLA, sL0, sL1] at hc
            have HCe1 := Lib.hid hc
            clear hc HTe0 HFe0 HNe0 HCe0
            have HTe2 := Lib.hid (HTe1.out.farS (i := 2) HZF.out HCe1.out (.bool cc.has))
            have HFe2 := Lib.hid (HFe1.out.set (p := ⟨zb, 2, none⟩) (.inr (.inr (by have h1 := HZF.out; have h2 := HLO.out; have h3 := HMN.out; show w.heap.size ≤ zb; omega))) (.bool cc.has))
            have HNe2 := Lib.hid (HNe1.out.far (p := ⟨zb, 2, none⟩) HZN.out (.bool cc.has))
            have hc := HCe1.out.set_ 2 (.bool cc.has)
            simp only [sLA, sL0, sL1] at hc
            have HCe2 := Lib.hid hc
            clear hc HTe1 HFe1 HNe1 HCe1
            refine wpAnyH_ready (rs := [11]) (by kernel_rfl) (by simp) ?_
            refine AllReadyH.cons (o := ⟨none, _, _, _, _, _⟩) rfl (fun K hK => ?_) AllReadyH.nil
            go_simp
            refine hK.out _ _ ?_ (fun hHeld => ?_)
            · exact ⟨HTe2.out.ak.ask.cell 4, HNe2.out.cell 1, HLK.out _ HTe2.out.ak.con⟩
            clear hK K c0 c1 c2 f0 f1 f2
            try simp only [Act.put, sLA, sL0, sL1]
            replace HCe2 := Lib.hid (show Blk (((e.setCell ⟨zb, 0, none⟩ (strV cc.typ)).setCell ⟨zb, 1, none⟩ (.int .i64 cc.num)).setCell ⟨zb, 2, none⟩ (.bool cc.has)) zb 73 #[strV cc.typ, .int .i64 cc.num, .bool cc.has] from HCe2.out)
            generalize hwE : ((e.setCell ⟨zb, 0, none⟩ (strV cc.typ)).setCell ⟨zb, 1, none⟩ (.int .i64 cc.num)).setCell ⟨zb, 2, none⟩ (.bool cc.has) = wE at HTe2 HFe2 HNe2 HCe2 hHeld ⊢
            clear hwE
            refine wpAnyH_ready (rs := [12]) (by kernel_rfl) (by simp) ?_
            refine AllReadyH.cons (o := ⟨some 11, _, _, _, _, _⟩) rfl (fun K hK => ?_) AllReadyH.nil
            go_simp
            refine hK.out _ _ ?_ (fun hHeld => ?_)
            · exact ⟨HTe2.out.ak.ask.cell 4, HNe2.out.cell 1, HLK.out _ HTe2.out.ak.con⟩
            clear hK K hHeld
            try simp only [Act.put, sLA, sL0, sL1]
            refine wpAnyH_done (by kernel_rfl) ?_ _
            go_upto_region 22 with fail
            have HTd := Lib.hid (show Ty W0 g pb cb bb (some ad) A' c c' t M B mn mt lo ⟨bad1, TE.names, TE.met⟩ wE.drew from HTe2.out.drewN 1)
            have HFd := Lib.hid (show Fr pb pb w wE.drew from HFe2.out.drewN 1)
            have HNe2d := Lib.hid (show Blk wE.drew nb 30 #[.int .i64 x.k, strV x.t, strV x.t2, .int .i64 x.n, .int .i64 x.a, .int .i64 x.b, .int .i64 x.c, .int .i64 x.h] from HNe2.out)
            have HCe2d := Lib.hid (show Blk wE.drew zb 73 #[strV cc.typ, .int .i64 cc.num, .bool cc.has] from HCe2.out)
            refine wp_region_last (S := fun V => V.cell? ⟨g, 3, none⟩ = some (.slice (some ⟨pb, 0, none⟩) t.l.length t.l.length) ∧ V.cell? ⟨zb, 2, none⟩ = some (.bool cc.has) ∧ V.cell? ⟨nb, 4, none⟩ = some (.int .i64 x.a)) 16 (by kernel_rfl) (by kernel_rfl) (by kernel_rfl) (by kernel_rfl) ⟨HTe2.out.ak.ask.cell 3, HCe2.out.cell 2, HNe2.out.cell 4⟩ (fun hHeld => ?_)
            clear HTe2 HFe2 HNe2 HCe2
            generalize wE.drew = d at HTd HFd HNe2d HCe2d hHeld ⊢
            refine tkH 0 125 ?_ rfl ?_ ?_
            rotate_left
            · rintro V ⟨s0, s1, s2⟩; go_simp; try with_reducible rfl
            try simp only [Act.put, sLA, sL0, sL1]
            refine tkH 1 126 ?_ rfl ?_ ?_
            rotate_left
            · rintro V ⟨s0, s1, s2⟩; go_simp; try with_reducible rfl
            try simp only [Act.put, sLA, sL0, sL1]
            refine tkH 2 127 ?_ rfl ?_ ?_
            rotate_left
            · rintro V ⟨s0, s1, s2⟩; go_simp; try with_reducible rfl
            try simp only [Act.put, sLA, sL0, sL1]
            refine tkH 3 128 ?_ rfl ?_ ?_
            rotate_left
            · rintro V ⟨s0, s1, s2⟩; go_simp; try with_reducible rfl
            try simp only [Act.put, sLA, sL0, sL1]
            refine tkH 4 129 ?_ rfl ?_ ?_
            rotate_left
            · rintro V ⟨s0, s1, s2⟩; go_simp; try with_reducible rfl
            try simp only [Act.put, sLA, sL0, sL1]
            refine tkH 5 130 ?_ rfl ?_ ?_
            rotate_left
            · rintro V ⟨s0, s1, s2⟩; go_simp; try with_reducible rfl
            try simp only [Act.put, sLA, sL0, sL1]
            refine tkH 6 131 ?_ rfl ?_ ?_
            rotate_left
            · rintro V ⟨s0, s1, s2⟩; go_simp; try with_reducible rfl
            try simp only [Act.put, sLA, sL0, sL1]
            refine tkH 7 132 ?_ rfl ?_ ?_
            rotate_left
            · rintro V ⟨s0, s1, s2⟩; go_simp; try with_reducible rfl
            try simp only [Act.put, sLA, sL0, sL1]
            refine tkH 8 133 ?_ rfl ?_ ?_
            rotate_left
            · rintro V ⟨s0, s1, s2⟩; go_simp; try with_reducible rfl
            try simp only [Act.put, sLA, sL0, sL1]
            refine tkH 9 134 ?_ rfl ?_ ?_
            rotate_left
            · rintro V ⟨s0, s1, s2⟩; go_simp; try with_reducible rfl
            try simp only [Act.put, sLA, sL0, sL1]
            refine tkH 10 135 ?_ rfl ?_ ?_
            rotate_left
            · rintro V ⟨s0, s1, s2⟩; go_simp; try with_reducible rfl
            try simp only [Act.put, sLA, sL0, sL1]
            refine tkH 11 136 ?_ rfl ?_ ?_
            rotate_left
            · rintro V ⟨s0, s1, s2⟩; go_simp; try with_reducible rfl
            try simp only [Act.put, sLA, sL0, sL1]
            refine tkH 12 137 ?_ rfl ?_ ?_
            rotate_left
            · rintro V ⟨s0, s1, s2⟩; go_simp; try with_reducible rfl
            try simp only [Act.put, sLA, sL0, sL1]
            refine tkH 13 138 ?_ rfl ?_ ?_
            rotate_left
            · rintro V ⟨s0, s1, s2⟩; go_simp; try with_reducible rfl
            try simp only [Act.put, sLA, sL0, sL1]
            refine tkH 14 139 ?_ rfl ?_ ?_
            rotate_left
            · rintro V ⟨s0, s1, s2⟩; go_simp; try with_reducible rfl
            try simp only [Act.put, sLA, sL0, sL1]
            refine tkH 15 140 ?_ rfl ?_ ?_
            rotate_left
            · rintro V ⟨s0, s1, s2⟩; go_simp; try with_reducible rfl
            try simp only [Act.put, sLA, sL0, sL1]
            have zf := HTd.out.ak.mark.frozen k
            obtain ⟨u0, zc⟩ : ∃ u, d.cell? ⟨pb, k, none⟩ = some u := ⟨_, (HTd.out.ak.mark.cell k).trans (by rw [List.getElem?_toArray]; exact List.getElem?_eq_getElem (by rw [List.length_map, HTd.out.ak.len]; exact HKL.out))⟩
            refine wpAnyH_done (by kernel_rfl) ?_ _
            refine lastPost_run (o := ⟨none, _, _, _, _, _⟩) rfl (fun K hK => ?_)
            go_simp
            refine hK.out _ _ ?_
            clear hK K zf zc
            have HT9 := Lib.hid (HTd.out.setBad k ((!(cc.has == decide (0 ≤ x.a)))))
            have HF9 := Lib.hid (HFd.out.set (p := ⟨pb, k, none⟩) (.inl rfl) (.bool ((!(cc.has == decide (0 ≤ x.a))))))
            have HN9 := Lib.hid (HNe2d.out.far (p := ⟨pb, k, none⟩) (HNe2d.out.ne_ HTd.out.ak.mark (by decide)) (.bool ((!(cc.has == decide (0 ≤ x.a))))))
            have HN9 := Lib.hid (HCe2d.out.far (p := ⟨pb, k, none⟩) (HCe2d.out.ne_ HTd.out.ak.mark (by decide)) (.bool ((!(cc.has == decide (0 ≤ x.a))))))
            clear HTd HFd HNe2d HCe2d hHeld
            generalize d.setCell ⟨pb, k, none⟩ (.bool ((!(cc.has == decide (0 ≤ x.a))))) = w9 at HT9 HF9 HN9 ⊢
            go_wp2_with fail
            go_roundw
            case rel => exact ⟨k + 1, _, HKL.out, by go_num, HT9.out, HF9.out, HE3.out⟩
            case measure =>
              have := HKL.out
              simp [intOf]
              omega
          | none =>
            have HCB := Lib.hid (show conBad M x = true by unfold conBad; rw [hmx]; try rfl)
            have HLK := Lib.hid (show ∀ V, SMap V cb (fun s => (M s).map conV) → (Instr.lookup 63 (.map (some cb)) (strV x.t) true).run Tryd.prog V = .ok (.tuple #[.agg #[strV zCon.typ, .int .i64 zCon.num, .bool zCon.has], .bool false]) V from fun V h => by
              have h8 := look63 h x.t
              simp only [hmx] at h8
              exact h8)
            have HE3 := Lib.hid (show bad1.set k true = nodesB t M TE.names (k + 1) TE.bad by rw [← HCB.out]; exact HE2.out)
            clear hmx
            have HTd := Lib.hid (show Ty W0 g pb cb bb (some ad) A' c c' t M B mn mt lo ⟨bad1, TE.names, TE.met⟩ w8.drew from HT8.out.drewN 1)
            have HFd := Lib.hid (show Fr pb pb w w8.drew from HF8.out.drewN 1)
            have HNd := Lib.hid (show Blk w8.drew nb 30 #[.int .i64 x.k, strV x.t, strV x.t2, .int .i64 x.n, .int .i64 x.a, .int .i64 x.b, .int .i64 x.c, .int .i64 x.h] from HN8.out)
            refine wp_region_held_drew (S := fun V => V.cell? ⟨g, 4, none⟩ = some (.map (some cb)) ∧ V.cell? ⟨nb, 1, none⟩ = some (strV x.t) ∧ (Instr.lookup 63 (.map (some cb)) (strV x.t) true).run Tryd.prog V = .ok (.tuple #[.agg #[strV zCon.typ, .int .i64 zCon.num, .bool zCon.has], .bool false]) V) (by kernel_rfl) ⟨HTd.out.ak.ask.cell 4, HNd.out.cell 1, HLK.out _ HTd.out.ak.con⟩ (fun hHeld => ?_)
            clear HT8 HF8 HN8
            generalize w8.drew = d at HTd HFd HNd hHeld ⊢
            refine tkH 0 116 ?_ rfl ?_ ?_
            rotate_left
            · rintro V ⟨s0, s1, s2⟩; go_simp; try with_reducible rfl
            try simp only [Act.put, sLA, sL0, sL1]
            refine tkH 1 117 ?_ rfl ?_ ?_
            rotate_left
            · rintro V ⟨s0, s1, s2⟩; go_simp; try with_reducible rfl
            try simp only [Act.put, sLA, sL0, sL1]
            refine tkH 2 118 ?_ rfl ?_ ?_
            rotate_left
            · rintro V ⟨s0, s1, s2⟩; go_simp; try with_reducible rfl
            try simp only [Act.put, sLA, sL0, sL1]
            refine tkH 3 119 ?_ rfl ?_ ?_
            rotate_left
            · rintro V ⟨s0, s1, s2⟩; go_simp; try with_reducible rfl
            try simp only [Act.put, sLA, sL0, sL1]
            refine tkH 4 120 ?_ rfl ?_ ?_
            rotate_left
            · rintro V ⟨s0, s1, s2⟩; go_simp; try with_reducible rfl
            try simp only [Act.put, sLA, sL0, sL1]
            refine tkH 5 121 ?_ rfl ?_ ?_
            rotate_left
            · rintro V ⟨s0, s1, s2⟩; go_simp; try with_reducible rfl
            try simp only [Act.put, sLA, sL0, sL1]
            refine tkH 6 122 ?_ rfl ?_ ?_
            rotate_left
            · rintro V ⟨s0, s1, s2⟩; go_simp; try with_reducible rfl
            try simp only [Act.put, sLA, sL0, sL1]
            refine tkH 7 115 ?_ rfl ?_ ?_
            rotate_left
            · rintro V ⟨s0, s1, s2⟩; go_simp; try with_reducible rfl
            try simp only [Act.put, sLA, sL0, sL1]
            refine tkH 8 123 ?_ rfl ?_ ?_
            rotate_left
            · rintro V ⟨s0, s1, s2⟩; go_simp; try with_reducible rfl
            try simp only [Act.put, sLA, sL0, sL1]
            refine tkH 9 124 ?_ rfl ?_ ?_
            rotate_left
            · rintro V ⟨s0, s1, s2⟩; go_simp; try with_reducible rfl
            try simp only [Act.put, sLA, sL0, sL1]
            have hbc := below_new d (.cells #[strV [], .int .i64 0, .bool false] 73)
            have HTe := Lib.hid (HTd.out.next hbc)
            have HFe := Lib.hid (HFd.out.below hbc)
            have HNe := Lib.hid (HNd.out.next hbc)
            have HCe := Lib.hid (Blk.new d 73 #[strV [], .int .i64 0, .bool false])
            have HZN := Lib.hid (show nb ≠ d.heap.size by have := HNd.out.lt; omega)
            have HZF := Lib.hid (show lo ≤ d.heap.size by have h1 := HTd.out.ln; have h2 := HTd.out.nm.lt; omega)
            clear hbc HTd HFd HNd
            refine wpAnyH_ready (rs := [10]) (by kernel_rfl) (by simp) ?_
            refine AllReadyH.cons (o := ⟨some 10, _, _, _, _, _⟩) rfl (fun K hK => ?_) AllReadyH.nil
            go_simp
            refine hK.out _ _ ?_ (fun hHeld => ?_)
            · exact ⟨HTe.out.ak.ask.cell 4, HNe.out.cell 1, HLK.out _ HTe.out.ak.con⟩
            clear hK K
            generalize d.alloc (.cells #[strV [], .int .i64 0, .bool false] 73) = e at HTe HFe HNe HCe hHeld ⊢
            generalize d.heap.size = zb at HCe HZF HZN ⊢
            try simp only [Act.put, sLA, sL0, sL1]
            have c0 : e.cell? ⟨zb, 0, none⟩ = some (strV []) := HCe.out.cell 0
            have c1 : e.cell? ⟨zb, 1, none⟩ = some (.int .i64 0) := HCe.out.cell 1
            have c2 : e.cell? ⟨zb, 2, none⟩ = some (.bool false) := HCe.out.cell 2
            have f0 := HCe.out.frozen 0
            have f1 := HCe.out.frozen 1
            have f2 := HCe.out.frozen 2
            have HTe0 := Lib.hid (HTe.out.farS (i := 0) HZF.out HCe.out (strV zCon.typ))
            have HFe0 := Lib.hid (HFe.out.set (p := ⟨zb, 0, none⟩) (.inr (.inr (by have h1 := HZF.out; have h2 := HLO.out; have h3 := HMN.out; show w.heap.size ≤ zb; omega))) (strV zCon.typ))
            have HNe0 := Lib.hid (HNe.out.far (p := ⟨zb, 0, none⟩) HZN.out (strV zCon.typ))
            have hc := HCe.out.set_ 0 (strV zCon.typ)
            simp only [sLA, sL0, sL1] at hc
            have HCe0 := Lib.hid hc
            clear hc HTe HFe HNe HCe
            have HTe1 := Lib.hid (HTe0.out.farS (i := 1) HZF.out HCe0.out (.int .i64 zCon.num))
            have HFe1 := Lib.hid (HFe0.out.set (p := ⟨zb, 1, none⟩) (.inr (.inr (by have h1 := HZF.out; have h2 := HLO.out; have h3 := HMN.out; show w.heap.size ≤ zb; omega))) (.int .i64 zCon.num))
            have HNe1 := Lib.hid (HNe0.out.far (p := ⟨zb, 1, none⟩) HZN.out (.int .i64 zCon.num))
            have hc := HCe0.out.set_ 1 (.int .i64 zCon.num)
            simp only [sLA, sL0, sL1] at hc
            have HCe1 := Lib.hid hc
            clear hc HTe0 HFe0 HNe0 HCe0
            have HTe2 := Lib.hid (HTe1.out.farS (i := 2) HZF.out HCe1.out (.bool zCon.has))
            have HFe2 := Lib.hid (HFe1.out.set (p := ⟨zb, 2, none⟩) (.inr (.inr (by have h1 := HZF.out; have h2 := HLO.out; have h3 := HMN.out; show w.heap.size ≤ zb; omega))) (.bool zCon.has))
            have HNe2 := Lib.hid (HNe1.out.far (p := ⟨zb, 2, none⟩) HZN.out (.bool zCon.has))
            have hc := HCe1.out.set_ 2 (.bool zCon.has)
            simp only [sLA, sL0, sL1] at hc
            have HCe2 := Lib.hid hc
            clear hc HTe1 HFe1 HNe1 HCe1
            refine wpAnyH_ready (rs := [11]) (by kernel_rfl) (by simp) ?_
            refine AllReadyH.cons (o := ⟨none, _, _, _, _, _⟩) rfl (fun K hK => ?_) AllReadyH.nil
            go_simp
            refine hK.out _ _ ?_ (fun hHeld => ?_)
            · exact ⟨HTe2.out.ak.ask.cell 4, HNe2.out.cell 1, HLK.out _ HTe2.out.ak.con⟩
            clear hK K c0 c1 c2 f0 f1 f2
            try simp only [Act.put, sLA, sL0, sL1]
            replace HCe2 := Lib.hid (show Blk (((e.setCell ⟨zb, 0, none⟩ (strV zCon.typ)).setCell ⟨zb, 1, none⟩ (.int .i64 zCon.num)).setCell ⟨zb, 2, none⟩ (.bool zCon.has)) zb 73 #[strV zCon.typ, .int .i64 zCon.num, .bool zCon.has] from HCe2.out)
            generalize hwE : ((e.setCell ⟨zb, 0, none⟩ (strV zCon.typ)).setCell ⟨zb, 1, none⟩ (.int .i64 zCon.num)).setCell ⟨zb, 2, none⟩ (.bool zCon.has) = wE at HTe2 HFe2 HNe2 HCe2 hHeld ⊢
            clear hwE
            refine wpAnyH_ready (rs := [12]) (by kernel_rfl) (by simp) ?_
            refine AllReadyH.cons (o := ⟨some 11, _, _, _, _, _⟩) rfl (fun K hK => ?_) AllReadyH.nil
            go_simp
            refine hK.out _ _ ?_ (fun hHeld => ?_)
            · exact ⟨HTe2.out.ak.ask.cell 4, HNe2.out.cell 1, HLK.out _ HTe2.out.ak.con⟩
            clear hK K hHeld
            try simp only [Act.put, sLA, sL0, sL1]
            refine wpAnyH_done (by kernel_rfl) ?_ _
            go_upto_region 22 with fail
            have HTd := Lib.hid (show Ty W0 g pb cb bb (some ad) A' c c' t M B mn mt lo ⟨bad1, TE.names, TE.met⟩ wE.drew from HTe2.out.drewN 1)
            have HFd := Lib.hid (show Fr pb pb w wE.drew from HFe2.out.drewN 1)
            have HNe2d := Lib.hid (show Blk wE.drew nb 30 #[.int .i64 x.k, strV x.t, strV x.t2, .int .i64 x.n, .int .i64 x.a, .int .i64 x.b, .int .i64 x.c, .int .i64 x.h] from HNe2.out)
            have HCe2d := Lib.hid (show Blk wE.drew zb 73 #[strV zCon.typ, .int .i64 zCon.num, .bool zCon.has] from HCe2.out)
            refine wp_region_last (S := fun V => V.cell? ⟨g, 3, none⟩ = some (.slice (some ⟨pb, 0, none⟩) t.l.length t.l.length) ∧ V.cell? ⟨zb, 2, none⟩ = some (.bool zCon.has) ∧ V.cell? ⟨nb, 4, none⟩ = some (.int .i64 x.a)) 16 (by kernel_rfl) (by kernel_rfl) (by kernel_rfl) (by kernel_rfl) ⟨HTe2.out.ak.ask.cell 3, HCe2.out.cell 2, HNe2.out.cell 4⟩ (fun hHeld => ?_)
            clear HTe2 HFe2 HNe2 HCe2
            generalize wE.drew = d at HTd HFd HNe2d HCe2d hHeld ⊢
            refine tkH 0 125 ?_ rfl ?_ ?_
            rotate_left
            · rintro V ⟨s0, s1, s2⟩; go_simp; try with_reducible rfl
            try simp only [Act.put, sLA, sL0, sL1]
            refine tkH 1 126 ?_ rfl ?_ ?_
            rotate_left
            · rintro V ⟨s0, s1, s2⟩; go_simp; try with_reducible rfl
            try simp only [Act.put, sLA, sL0, sL1]
            refine tkH 2 127 ?_ rfl ?_ ?_
            rotate_left
            · rintro V ⟨s0, s1, s2⟩; go_simp; try with_reducible rfl
            try simp only [Act.put, sLA, sL0, sL1]
            refine tkH 3 128 ?_ rfl ?_ ?_
            rotate_left
            · rintro V ⟨s0, s1, s2⟩; go_simp; try with_reducible rfl
            try simp only [Act.put, sLA, sL0, sL1]
            refine tkH 4 129 ?_ rfl ?_ ?_
            rotate_left
            · rintro V ⟨s0, s1, s2⟩; go_simp; try with_reducible rfl
            try simp only [Act.put, sLA, sL0, sL1]
            refine tkH 5 130 ?_ rfl ?_ ?_
            rotate_left
            · rintro V ⟨s0, s1, s2⟩; go_simp; try with_reducible rfl
            try simp only [Act.put, sLA, sL0, sL1]
            refine tkH 6 131 ?_ rfl ?_ ?_
            rotate_left
            · rintro V ⟨s0, s1, s2⟩; go_simp; try with_reducible rfl
            try simp only [Act.put, sLA, sL0, sL1]
            refine tkH 7 132 ?_ rfl ?_ ?_
            rotate_left
            · rintro V ⟨s0, s1, s2⟩; go_simp; try with_reducible rfl
            try simp only [Act.put, sLA, sL0, sL1]
            refine wpAnyH_take (i := 8) (oi := ⟨some 133, _, _, _, _, _⟩) (v := undef) rfl (by kernel_rfl) (by kernel_rfl) (by kernel_rfl) (fun _ _ _ h => h) (Or.inr ⟨by kernel_rfl, rfl⟩) (by assumption) ?_
            try simp only [Act.put, sLA, sL0, sL1]
            refine wpAnyH_take (i := 9) (oi := ⟨some 134, _, _, _, _, _⟩) (v := undef) rfl (by kernel_rfl) (by kernel_rfl) (by kernel_rfl) (fun _ _ _ h => h) (Or.inr ⟨by kernel_rfl, rfl⟩) (by assumption) ?_
            try simp only [Act.put, sLA, sL0, sL1]
            refine wpAnyH_take (i := 10) (oi := ⟨some 135, _, _, _, _, _⟩) (v := undef) rfl (by kernel_rfl) (by kernel_rfl) (by kernel_rfl) (fun _ _ _ h => h) (Or.inr ⟨by kernel_rfl, rfl⟩) (by assumption) ?_
            try simp only [Act.put, sLA, sL0, sL1]
            refine wpAnyH_take (i := 11) (oi := ⟨some 136, _, _, _, _, _⟩) (v := undef) rfl (by kernel_rfl) (by kernel_rfl) (by kernel_rfl) (fun _ _ _ h => h) (Or.inr ⟨by kernel_rfl, rfl⟩) (by assumption) ?_
            try simp only [Act.put, sLA, sL0, sL1]
            refine wpAnyH_take (i := 12) (oi := ⟨some 137, _, _, _, _, _⟩) (v := undef) rfl (by kernel_rfl) (by kernel_rfl) (by kernel_rfl) (fun _ _ _ h => h) (Or.inr ⟨by kernel_rfl, rfl⟩) (by assumption) ?_
            try simp only [Act.put, sLA, sL0, sL1]
            refine wpAnyH_take (i := 13) (oi := ⟨some 138, _, _, _, _, _⟩) (v := undef) rfl (by kernel_rfl) (by kernel_rfl) (by kernel_rfl) (fun _ _ _ h => h) (Or.inr ⟨by kernel_rfl, rfl⟩) (by assumption) ?_
            try simp only [Act.put, sLA, sL0, sL1]
            refine tkH 14 139 ?_ rfl ?_ ?_
            rotate_left
            · rintro V ⟨s0, s1, s2⟩; go_simp; try with_reducible rfl
            try simp only [Act.put, sLA, sL0, sL1]
            refine tkH 15 140 ?_ rfl ?_ ?_
            rotate_left
            · rintro V ⟨s0, s1, s2⟩; go_simp; try with_reducible rfl
            try simp only [Act.put, sLA, sL0, sL1]
            have zf := HTd.out.ak.mark.frozen k
            obtain ⟨u0, zc⟩ : ∃ u, d.cell? ⟨pb, k, none⟩ = some u := ⟨_, (HTd.out.ak.mark.cell k).trans (by rw [List.getElem?_toArray]; exact List.getElem?_eq_getElem (by rw [List.length_map, HTd.out.ak.len]; exact HKL.out))⟩
            refine wpAnyH_done (by kernel_rfl) ?_ _
            refine lastPost_run (o := ⟨none, _, _, _, _, _⟩) rfl (fun K hK => ?_)
            go_simp
            refine hK.out _ _ ?_
            clear hK K zf zc
            have HT9 := Lib.hid (HTd.out.setBad k (true))
            have HF9 := Lib.hid (HFd.out.set (p := ⟨pb, k, none⟩) (.inl rfl) (.bool (true)))
            have HN9 := Lib.hid (HNe2d.out.far (p := ⟨pb, k, none⟩) (HNe2d.out.ne_ HTd.out.ak.mark (by decide)) (.bool (true)))
            have HN9 := Lib.hid (HCe2d.out.far (p := ⟨pb, k, none⟩) (HCe2d.out.ne_ HTd.out.ak.mark (by decide)) (.bool (true)))
            clear HTd HFd HNe2d HCe2d hHeld
            generalize d.setCell ⟨pb, k, none⟩ (.bool (true)) = w9 at HT9 HF9 HN9 ⊢
            go_wp2_with fail
            go_roundw
            case rel => exact ⟨k + 1, _, HKL.out, by go_num, HT9.out, HF9.out, HE3.out⟩
            case measure =>
              have := HKL.out
              simp [intOf]
              omega
        · have HK := Lib.hid (show x.k = 34 from h6)
          clear hz6
          rw [h6] at n0
          clear h6
          go_upto_region 21 with fail
          clear n0 e39
          cases hmx : M x.t with
          | some cc =>
            have HCB := Lib.hid (show conBad M x = (!(cc.has == decide (0 ≤ x.a))) by unfold conBad; rw [hmx]; try rfl)
            have HLK := Lib.hid (show ∀ V, SMap V cb (fun s => (M s).map conV) → (Instr.lookup 63 (.map (some cb)) (strV x.t) true).run Tryd.prog V = .ok (.tuple #[.agg #[strV cc.typ, .int .i64 cc.num, .bool cc.has], .bool true]) V from fun V h => by
              have h8 := look63 h x.t
              simp only [hmx] at h8
              exact h8)
            have HE3 := Lib.hid (show bad1.set k (!(cc.has == decide (0 ≤ x.a))) = nodesB t M TE.names (k + 1) TE.bad by rw [← HCB.out]; exact HE2.out)
            clear hmx
            have HTd := Lib.hid (show Ty W0 g pb cb bb (some ad) A' c c' t M B mn mt lo ⟨bad1, TE.names, TE.met⟩ w8.drew from HT8.out.drewN 1)
            have HFd := Lib.hid (show Fr pb pb w w8.drew from HF8.out.drewN 1)
            have HNd := Lib.hid (show Blk w8.drew nb 30 #[.int .i64 x.k, strV x.t, strV x.t2, .int .i64 x.n, .int .i64 x.a, .int .i64 x.b, .int .i64 x.c, .int .i64 x.h] from HN8.out)
            refine wp_region_held_drew (S := fun V => V.cell? ⟨g, 4, none⟩ = some (.map (some cb)) ∧ V.cell? ⟨nb, 1, none⟩ = some (strV x.t) ∧ (Instr.lookup 63 (.map (some cb)) (strV x.t) true).run Tryd.prog V = .ok (.tuple #[.agg #[strV cc.typ, .int .i64 cc.num, .bool cc.has], .bool true]) V) (by kernel_rfl) ⟨HTd.out.ak.ask.cell 4, HNd.out.cell 1, HLK.out _ HTd.out.ak.con⟩ (fun hHeld => ?_)
            clear HT8 HF8 HN8
            generalize w8.drew = d at HTd HFd HNd hHeld ⊢
            refine tkH 0 116 ?_ rfl ?_ ?_
            rotate_left
            · rintro V ⟨s0, s1, s2⟩; go_simp; try with_reducible rfl
            try simp only [Act.put, sLA, sL0, sL1]
            refine tkH 1 117 ?_ rfl ?_ ?_
            rotate_left
            · rintro V ⟨s0, s1, s2⟩; go_simp; try with_reducible rfl
            try simp only [Act.put, sLA, sL0, sL1]
            refine tkH 2 118 ?_ rfl ?_ ?_
            rotate_left
            · rintro V ⟨s0, s1, s2⟩; go_simp; try with_reducible rfl
            try simp only [Act.put, sLA, sL0, sL1]
            refine tkH 3 119 ?_ rfl ?_ ?_
            rotate_left
            · rintro V ⟨s0, s1, s2⟩; go_simp; try with_reducible rfl
            try simp only [Act.put, sLA, sL0, sL1]
            refine tkH 4 120 ?_ rfl ?_ ?_
            rotate_left
            · rintro V ⟨s0, s1, s2⟩; go_simp; try with_reducible rfl
            try simp only [Act.put, sLA, sL0, sL1]
            refine tkH 5 121 ?_ rfl ?_ ?_
            rotate_left
            · rintro V ⟨s0, s1, s2⟩; go_simp; try with_reducible rfl
            try simp only [Act.put, sLA, sL0, sL1]
            refine tkH 6 122 ?_ rfl ?_ ?_
            rotate_left
            · rintro V ⟨s0, s1, s2⟩; go_simp; try with_reducible rfl
            try simp only [Act.put, sLA, sL0, sL1]
            refine tkH 7 115 ?_ rfl ?_ ?_
            rotate_left
            · rintro V ⟨s0, s1, s2⟩; go_simp; try with_reducible rfl
            try simp only [Act.put, sLA, sL0, sL1]
            refine tkH 8 123 ?_ rfl ?_ ?_
            rotate_left
            · rintro V ⟨s0, s1, s2⟩; go_simp; try with_reducible rfl
            try simp only [Act.put, sLA, sL0, sL1]
            refine tkH 9 124 ?_ rfl ?_ ?_
            rotate_left
            · rintro V ⟨s0, s1, s2⟩; go_simp; try with_reducible rfl
            try simp only [Act.put, sLA, sL0, sL1]
            have hbc := below_new d (.cells #[strV [], .int .i64 0, .bool false] 73)
            have HTe := Lib.hid (HTd.out.next hbc)
            have HFe := Lib.hid (HFd.out.below hbc)
            have HNe := Lib.hid (HNd.out.next hbc)
            have HCe := Lib.hid (Blk.new d 73 #[strV [], .int .i64 0, .bool false])
            have HZN := Lib.hid (show nb ≠ d.heap.size by have := HNd.out.lt; omega)
            have HZF := Lib.hid (show lo ≤ d.heap.size by have h1 := HTd.out.ln; have h2 := HTd.out.nm.lt; omega)
            clear hbc HTd HFd HNd
            refine wpAnyH_ready (rs := [10]) (by kernel_rfl) (by simp) ?_
            refine AllReadyH.cons (o := ⟨some 10, _, _, _, _, _⟩) rfl (fun K hK => ?_) AllReadyH.nil
            go_simp
            refine hK.out _ _ ?_ (fun hHeld => ?_)
            · exact ⟨HTe.out.ak.ask.cell 4, HNe.out.cell 1, HLK.out _ HTe.out.ak.con⟩
            clear hK K
            generalize d.alloc (.cells #[strV [], .int .i64 0, .bool false] 73) = e at HTe HFe HNe HCe hHeld ⊢
            generalize d.heap.size = zb at HCe HZF HZN ⊢
            try simp only [Act.put, sLA, sL0, sL1]
            have c0 : e.cell? ⟨zb, 0, none⟩ = some (strV []) := HCe.out.cell 0
            have c1 : e.cell? ⟨zb, 1, none⟩ = some (.int .i64 0) := HCe.out.cell 1
            have c2 : e.cell? ⟨zb, 2, none⟩ = some (.bool false) := HCe.out.cell 2
            have f0 := HCe.out.frozen 0
            have f1 := HCe.out.frozen 1
            have f2 := HCe.out.frozen 2
            have HTe0 := Lib.hid (HTe.out.farS (i := 0) HZF.out HCe.out (strV cc.typ))
            have HFe0 := Lib.hid (HFe.out.set (p := ⟨zb, 0, none⟩) (.inr (.inr (by have h1 := HZF.out; have h2 := HLO.out; have h3 := HMN.out; show w.heap.size ≤ zb; omega))) (strV cc.typ))
            have HNe0 := Lib.hid (HNe.out.far (p := ⟨zb, 0, none⟩) HZN.out (strV cc.typ))
            have hc := HCe.out.set_ 0 (strV cc.typ)
            simp only [sLA, sL0, sL1] at hc
            have HCe0 := Lib.hid hc
            clear hc HTe HFe HNe HCe
            have HTe1 := Lib.hid (HTe0.out.farS (i := 1) HZF.out HCe0.out (.int .i64 cc.num))
            have HFe1 := Lib.hid (HFe0.out.set (p := ⟨zb, 1, none⟩) (.inr (.inr (by have h1 := HZF.out; have h2 := HLO.out; have h3 := HMN.out; show w.heap.size ≤ zb; omega))) (.int .i64 cc.num))
            have HNe1 := Lib.hid (HNe0.out.far (p := ⟨zb, 1, none⟩) HZN.out (.int .i64 cc.num))
            have hc := HCe0.out.set_ 1 (.int .i64 cc.num)
            simp only [sLA, sL0, sL1] at hc
            have HCe1 := Lib.hid hc
            clear hc HTe0 HFe0 HNe0 HCe0
            have HTe2 := Lib.hid (HTe1.out.farS (i := 2) HZF.out HCe1.out (.bool cc.has))
            have HFe2 := Lib.hid (HFe1.out.set (p := ⟨zb, 2, none⟩) (.inr (.inr (by have h1 := HZF.out; have h2 := HLO.out; have h3 := HMN.out; show w.heap.size ≤ zb; omega))) (.bool cc.has))
            have HNe2 := Lib.hid (HNe1.out.far (p := ⟨zb, 2, none⟩) HZN.out (.bool cc.has))
            have hc := HCe1.out.set_ 2 (.bool cc.has)
            simp only [sLA, sL0, sL1] at hc
            have HCe2 := Lib.hid hc
            clear hc HTe1 HFe1 HNe1 HCe1
            refine wpAnyH_ready (rs := [11]) (by kernel_rfl) (by simp) ?_
            refine AllReadyH.cons (o := ⟨none, _, _, _, _, _⟩) rfl (fun K hK => ?_) AllReadyH.nil
            go_simp
            refine hK.out _ _ ?_ (fun hHeld => ?_)
            · exact ⟨HTe2.out.ak.ask.cell 4, HNe2.out.cell 1, HLK.out _ HTe2.out.ak.con⟩
            clear hK K c0 c1 c2 f0 f1 f2
            try simp only [Act.put, sLA, sL0, sL1]
            replace HCe2 := Lib.hid (show Blk (((e.setCell ⟨zb, 0, none⟩ (strV cc.typ)).setCell ⟨zb, 1, none⟩ (.int .i64 cc.num)).setCell ⟨zb, 2, none⟩ (.bool cc.has)) zb 73 #[strV cc.typ, .int .i64 cc.num, .bool cc.has] from HCe2.out)
            generalize hwE : ((e.setCell ⟨zb, 0, none⟩ (strV cc.typ)).setCell ⟨zb, 1, none⟩ (.int .i64 cc.num)).setCell ⟨zb, 2, none⟩ (.bool cc.has) = wE at HTe2 HFe2 HNe2 HCe2 hHeld ⊢
            clear hwE
            refine wpAnyH_ready (rs := [12]) (by kernel_rfl) (by simp) ?_
            refine AllReadyH.cons (o := ⟨some 11, _, _, _, _, _⟩) rfl (fun K hK => ?_) AllReadyH.nil
            go_simp
            refine hK.out _ _ ?_ (fun hHeld => ?_)
            · exact ⟨HTe2.out.ak.ask.cell 4, HNe2.out.cell 1, HLK.out _ HTe2.out.ak.con⟩
            clear hK K hHeld
            try simp only [Act.put, sLA, sL0, sL1]
            refine wpAnyH_done (by kernel_rfl) ?_ _
            go_upto_region 22 with fail
            have HTd := Lib.hid (show Ty W0 g pb cb bb (some ad) A' c c' t M B mn mt lo ⟨bad1, TE.names, TE.met⟩ wE.drew from HTe2.out.drewN 1)
            have HFd := Lib.hid (show Fr pb pb w wE.drew from HFe2.out.drewN 1)
            have HNe2d := Lib.hid (show Blk wE.drew nb 30 #[.int .i64 x.k, strV x.t, strV x.t2, .int .i64 x.n, .int .i64 x.a, .int .i64 x.b, .int .i64 x.c, .int .i64 x.h] from HNe2.out)
            have HCe2d := Lib.hid (show Blk wE.drew zb 73 #[strV cc.typ, .int .i64 cc.num, .bool cc.has] from HCe2.out)
            refine wp_region_last (S := fun V => V.cell? ⟨g, 3, none⟩ = some (.slice (some ⟨pb, 0, none⟩) t.l.length t.l.length) ∧ V.cell? ⟨zb, 2, none⟩ = some (.bool cc.has) ∧ V.cell? ⟨nb, 4, none⟩ = some (.int .i64 x.a)) 16 (by kernel_rfl) (by kernel_rfl) (by kernel_rfl) (by kernel_rfl) ⟨HTe2.out.ak.ask.cell 3, HCe2.out.cell 2, HNe2.out.cell 4⟩ (fun hHeld => ?_)
            clear HTe2 HFe2 HNe2 HCe2
            generalize wE.drew = d at HTd HFd HNe2d HCe2d hHeld ⊢
            refine tkH 0 125 ?_ rfl ?_ ?_
            rotate_left
            · rintro V ⟨s0, s1, s2⟩; go_simp; try with_reducible rfl
            try simp only [Act.put, sLA, sL0, sL1]
            refine tkH 1 126 ?_ rfl ?_ ?_
            rotate_left
            · rintro V ⟨s0, s1, s2⟩; go_simp; try with_reducible rfl
            try simp only [Act.put, sLA, sL0, sL1]
            refine tkH 2 127 ?_ rfl ?_ ?_
            rotate_left
            · rintro V ⟨s0, s1, s2⟩; go_simp; try with_reducible rfl
            try simp only [Act.put, sLA, sL0, sL1]
            refine tkH 3 128 ?_ rfl ?_ ?_
            rotate_left
            · rintro V ⟨s0, s1, s2⟩; go_simp; try with_reducible rfl
            try simp only [Act.put, sLA, sL0, sL1]
            refine tkH 4 129 ?_ rfl ?_ ?_
            rotate_left
            · rintro V ⟨s0, s1, s2⟩; go_simp; try with_reducible rfl
            try simp only [Act.put, sLA, sL0, sL1]
            refine tkH 5 130 ?_ rfl ?_ ?_
            rotate_left
            · rintro V ⟨s0, s1, s2⟩; go_simp; try with_reducible rfl
            try simp only [Act.put, sLA, sL0, sL1]
            refine tkH 6 131 ?_ rfl ?_ ?_
            rotate_left
            · rintro V ⟨s0, s1, s2⟩; go_simp; try with_reducible rfl
            try simp only [Act.put, sLA, sL0, sL1]
            refine tkH 7 132 ?_ rfl ?_ ?_
            rotate_left
            · rintro V ⟨s0, s1, s2⟩; go_simp; try with_reducible rfl
            try simp only [Act.put, sLA, sL0, sL1]
            refine tkH 8 133 ?_ rfl ?_ ?_
            rotate_left
            · rintro V ⟨s0, s1, s2⟩; go_simp; try with_reducible rfl
            try simp only [Act.put, sLA, sL0, sL1]
            refine tkH 9 134 ?_ rfl ?_ ?_
            rotate_left
            · rintro V ⟨s0, s1, s2⟩; go_simp; try with_reducible rfl
            try simp only [Act.put, sLA, sL0, sL1]
            refine tkH 10 135 ?_ rfl ?_ ?_
            rotate_left
            · rintro V ⟨s0, s1, s2⟩; go_simp; try with_reducible rfl
            try simp only [Act.put, sLA, sL0, sL1]
            refine tkH 11 136 ?_ rfl ?_ ?_
            rotate_left
            · rintro V ⟨s0, s1, s2⟩; go_simp; try with_reducible rfl
            try simp only [Act.put, sLA, sL0, sL1]
            refine tkH 12 137 ?_ rfl ?_ ?_
            rotate_left
            · rintro V ⟨s0, s1, s2⟩; go_simp; try with_reducible rfl
            try simp only [Act.put, sLA, sL0, sL1]
            refine tkH 13 138 ?_ rfl ?_ ?_
            rotate_left
            · rintro V ⟨s0, s1, s2⟩; go_simp; try with_reducible rfl
            try simp only [Act.put, sLA, sL0, sL1]
            refine tkH 14 139 ?_ rfl ?_ ?_
            rotate_left
            · rintro V ⟨s0, s1, s2⟩; go_simp; try with_reducible rfl
            try simp only [Act.put, sLA, sL0, sL1]
            refine tkH 15 140 ?_ rfl ?_ ?_
            rotate_left
            · rintro V ⟨s0, s1, s2⟩; go_simp; try with_reducible rfl
            try simp only [Act.put, sLA, sL0, sL1]
            have zf := HTd.out.ak.mark.frozen k
            obtain ⟨u0, zc⟩ : ∃ u, d.cell? ⟨pb, k, none⟩ = some u := ⟨_, (HTd.out.ak.mark.cell k).trans (by rw [List.getElem?_toArray]; exact List.getElem?_eq_getElem (by rw [List.length_map, HTd.out.ak.len]; exact HKL.out))⟩
            refine wpAnyH_done (by kernel_rfl) ?_ _
            refine lastPost_run (o := ⟨none, _, _, _, _, _⟩) rfl (fun K hK => ?_)
            go_simp
            refine hK.out _ _ ?_
            clear hK K zf zc
            have HT9 := Lib.hid (HTd.out.setBad k ((!(cc.has == decide (0 ≤ x.a)))))
            have HF9 := Lib.hid (HFd.out.set (p := ⟨pb, k, none⟩) (.inl rfl) (.bool ((!(cc.has == decide (0 ≤ x.a))))))
            have HN9 := Lib.hid (HNe2d.out.far (p := ⟨pb, k, none⟩) (HNe2d.out.ne_ HTd.out.ak.mark (by decide)) (.bool ((!(cc.has == decide (0 ≤ x.a))))))
            have HN9 := Lib.hid (HCe2d.out.far (p := ⟨pb, k, none⟩) (HCe2d.out.ne_ HTd.out.ak.mark (by decide)) (.bool ((!(cc.has == decide (0 ≤ x.a))))))
            clear HTd HFd HNe2d HCe2d hHeld
            generalize d.setCell ⟨pb, k, none⟩ (.bool ((!(cc.has == decide (0 ≤ x.a))))) = w9 at HT9 HF9 HN9 ⊢
            go_wp2_with fail
            go_roundw
            case rel => exact ⟨k + 1, _, HKL.out, by go_num, HT9.out, HF9.out, HE3.out⟩
            case measure =>
              have := HKL.out
              simp [intOf]
              omega
          | none =>
            have HCB := Lib.hid (show conBad M x = true by unfold conBad; rw [hmx]; try rfl)
            have HLK := Lib.hid (show ∀ V, SMap V cb (fun s => (M s).map conV) → (Instr.lookup 63 (.map (some cb)) (strV x.t) true).run Tryd.prog V = .ok (.tuple #[.agg #[strV zCon.typ, .int .i64 zCon.num, .bool zCon.has], .bool false]) V from fun V h => by
              have h8 := look63 h x.t
              simp only [hmx] at h8
              exact h8)
            have HE3 := Lib.hid (show bad1.set k true = nodesB t M TE.names (k + 1) TE.bad by rw [← HCB.out]; exact HE2.out)
            clear hmx
            have HTd := Lib.hid (show Ty W0 g pb cb bb (some ad) A' c c' t M B mn mt lo ⟨bad1, TE.names, TE.met⟩ w8.drew from HT8.out.drewN 1)
            have HFd := Lib.hid (show Fr pb pb w w8.drew from HF8.out.drewN 1)
            have HNd := Lib.hid (show Blk w8.drew nb 30 #[.int .i64 x.k, strV x.t, strV x.t2, .int .i64 x.n, .int .i64 x.a, .int .i64 x.b, .int .i64 x.c, .int .i64 x.h] from HN8.out)
            refine wp_region_held_drew (S := fun V => V.cell? ⟨g, 4, none⟩ = some (.map (some cb)) ∧ V.cell? ⟨nb, 1, none⟩ = some (strV x.t) ∧ (Instr.lookup 63 (.map (some cb)) (strV x.t) true).run Tryd.prog V = .ok (.tuple #[.agg #[strV zCon.typ, .int .i64 zCon.num, .bool zCon.has], .bool false]) V) (by kernel_rfl) ⟨HTd.out.ak.ask.cell 4, HNd.out.cell 1, HLK.out _ HTd.out.ak.con⟩ (fun hHeld => ?_)
            clear HT8 HF8 HN8
            generalize w8.drew = d at HTd HFd HNd hHeld ⊢
            refine tkH 0 116 ?_ rfl ?_ ?_
            rotate_left
            · rintro V ⟨s0, s1, s2⟩; go_simp; try with_reducible rfl
            try simp only [Act.put, sLA, sL0, sL1]
            refine tkH 1 117 ?_ rfl ?_ ?_
            rotate_left
            · rintro V ⟨s0, s1, s2⟩; go_simp; try with_reducible rfl
            try simp only [Act.put, sLA, sL0, sL1]
            refine tkH 2 118 ?_ rfl ?_ ?_
            rotate_left
            · rintro V ⟨s0, s1, s2⟩; go_simp; try with_reducible rfl
            try simp only [Act.put, sLA, sL0, sL1]
            refine tkH 3 119 ?_ rfl ?_ ?_
            rotate_left
            · rintro V ⟨s0, s1, s2⟩; go_simp; try with_reducible rfl
            try simp only [Act.put, sLA, sL0, sL1]
            refine tkH 4 120 ?_ rfl ?_ ?_
            rotate_left
            · rintro V ⟨s0, s1, s2⟩; go_simp; try with_reducible rfl
            try simp only [Act.put, sLA, sL0, sL1]
            refine tkH 5 121 ?_ rfl ?_ ?_
            rotate_left
            · rintro V ⟨s0, s1, s2⟩; go_simp; try with_reducible rfl
            try simp only [Act.put, sLA, sL0, sL1]
            refine tkH 6 122 ?_ rfl ?_ ?_
            rotate_left
            · rintro V ⟨s0, s1, s2⟩; go_simp; try with_reducible rfl
            try simp only [Act.put, sLA, sL0, sL1]
            refine tkH 7 115 ?_ rfl ?_ ?_
            rotate_left
            · rintro V ⟨s0, s1, s2⟩; go_simp; try with_reducible rfl
            try simp only [Act.put, sLA, sL0, sL1]
            refine tkH 8 123 ?_ rfl ?_ ?_
            rotate_left
            · rintro V ⟨s0, s1, s2⟩; go_simp; try with_reducible rfl
            try simp only [Act.put, sLA, sL0, sL1]
            refine tkH 9 124 ?_ rfl ?_ ?_
            rotate_left
            · rintro V ⟨s0, s1, s2⟩; go_simp; try with_reducible rfl
            try simp only [Act.put, sLA, sL0, sL1]
            have hbc := below_new d (.cells #[strV [], .int .i64 0, .bool false] 73)
            have HTe := Lib.hid (HTd.out.next hbc)
            have HFe := Lib.hid (HFd.out.below hbc)
            have HNe := Lib.hid (HNd.out.next hbc)
            have HCe := Lib.hid (Blk.new d 73 #[strV [], .int .i64 0, .bool false])
            have HZN := Lib.hid (show nb ≠ d.heap.size by have := HNd.out.lt; omega)
            have HZF := Lib.hid (show lo ≤ d.heap.size by have h1 := HTd.out.ln; have h2 := HTd.out.nm.lt; omega)
            clear hbc HTd HFd HNd
            refine wpAnyH_ready (rs := [10]) (by kernel_rfl) (by simp) ?_
            refine AllReadyH.cons (o := ⟨some 10, _, _, _, _, _⟩) rfl (fun K hK => ?_) AllReadyH.nil
            go_simp
            refine hK.out _ _ ?_ (fun hHeld => ?_)
            · exact ⟨HTe.out.ak.ask.cell 4, HNe.out.cell 1, HLK.out _ HTe.out.ak.con⟩
            clear hK K
            generalize d.alloc (.cells #[strV [], .int .i64 0, .bool false] 73) = e at HTe HFe HNe HCe hHeld ⊢
            generalize d.heap.size = zb at HCe HZF HZN ⊢
            try simp only [Act.put, sLA, sL0, sL1]
            have c0 : e.cell? ⟨zb, 0, none⟩ = some (strV []) := HCe.out.cell 0
            have c1 : e.cell? ⟨zb, 1, none⟩ = some (.int .i64 0) := HCe.out.cell 1
            have c2 : e.cell? ⟨zb, 2, none⟩ = some (.bool false) := HCe.out.cell 2
            have f0 := HCe.out.frozen 0
            have f1 := HCe.out.frozen 1
            have f2 := HCe.out.frozen 2
            have HTe0 := Lib.hid (HTe.out.farS (i := 0) HZF.out HCe.out (strV zCon.typ))
            have HFe0 := Lib.hid (HFe.out.set (p := ⟨zb, 0, none⟩) (.inr (.inr (by have h1 := HZF.out; have h2 := HLO.out; have h3 := HMN.out; show w.heap.size ≤ zb; omega))) (strV zCon.typ))
            have HNe0 := Lib.hid (HNe.out.far (p := ⟨zb, 0, none⟩) HZN.out (strV zCon.typ))
            have hc := HCe.out.set_ 0 (strV zCon.typ)
            simp only [sLA, sL0, sL1] at hc
            have HCe0 := Lib.hid hc
            clear hc HTe HFe HNe HCe
            have HTe1 := Lib.hid (HTe0.out.farS (i := 1) HZF.out HCe0.out (.int .i64 zCon.num))
            have HFe1 := Lib.hid (HFe0.out.set (p := ⟨zb, 1, none⟩) (.inr (.inr (by have h1 := HZF.out; have h2 := HLO.out; have h3 := HMN.out; show w.heap.size ≤ zb; omega))) (.int .i64 zCon.num))
            have HNe1 := Lib.hid (HNe0.out.far (p := ⟨zb, 1, none⟩) HZN.out (.int .i64 zCon.num))
            have hc := HCe0.out.set_ 1 (.int .i64 zCon.num)
            simp only [sLA, sL0, sL1] at hc
            have HCe1 := Lib.hid hc
            clear hc HTe0 HFe0 HNe0 HCe0
            have HTe2 := Lib.hid (HTe1.out.farS (i := 2) HZF.out HCe1.out (.bool zCon.has))
            have HFe2 := Lib.hid (HFe1.out.set (p := ⟨zb, 2, none⟩) (.inr (.inr (by have h1 := HZF.out; have h2 := HLO.out; have h3 := HMN.out; show w.heap.size ≤ zb; omega))) (.bool zCon.has))
            have HNe2 := Lib.hid (HNe1.out.far (p := ⟨zb, 2, none⟩) HZN.out (.bool zCon.has))
            have hc := HCe1.out.set_ 2 (.bool zCon.has)
            simp only [sLA, sL0, sL1] at hc
            have HCe2 := Lib.hid hc
            clear hc HTe1 HFe1 HNe1 HCe1
            refine wpAnyH_ready (rs := [11]) (by kernel_rfl) (by simp) ?_
            refine AllReadyH.cons (o := ⟨none, _, _, _, _, _⟩) rfl (fun K hK => ?_) AllReadyH.nil
            go_simp
            refine hK.out _ _ ?_ (fun hHeld => ?_)
            · exact ⟨HTe2.out.ak.ask.cell 4, HNe2.out.cell 1, HLK.out _ HTe2.out.ak.con⟩
            clear hK K c0 c1 c2 f0 f1 f2
            try simp only [Act.put, sLA, sL0, sL1]
            replace HCe2 := Lib.hid (show Blk (((e.setCell ⟨zb, 0, none⟩ (strV zCon.typ)).setCell ⟨zb, 1, none⟩ (.int .i64 zCon.num)).setCell ⟨zb, 2, none⟩ (.bool zCon.has)) zb 73 #[strV zCon.typ, .int .i64 zCon.num, .bool zCon.has] from HCe2.out)
            generalize hwE : ((e.setCell ⟨zb, 0, none⟩ (strV zCon.typ)).setCell ⟨zb, 1, none⟩ (.int .i64 zCon.num)).setCell ⟨zb, 2, none⟩ (.bool zCon.has) = wE at HTe2 HFe2 HNe2 HCe2 hHeld ⊢
            clear hwE
            refine wpAnyH_ready (rs := [12]) (by kernel_rfl) (by simp) ?_
            refine AllReadyH.cons (o := ⟨some 11, _, _, _, _, _⟩) rfl (fun K hK => ?_) AllReadyH.nil
            go_simp
            refine hK.out _ _ ?_ (fun hHeld => ?_)
            · exact ⟨HTe2.out.ak.ask.cell 4, HNe2.out.cell 1, HLK.out _ HTe2.out.ak.con⟩
            clear hK K hHeld
            try simp only [Act.put, sLA, sL0, sL1]
            refine wpAnyH_done (by kernel_rfl) ?_ _
            go_upto_region 22 with fail
            have HTd := Lib.hid (show Ty W0 g pb cb bb (some ad) A' c c' t M B mn mt lo ⟨bad1, TE.names, TE.met⟩ wE.drew from HTe2.out.drewN 1)
            have HFd := Lib.hid (show Fr pb pb w wE.drew from HFe2.out.drewN 1)
            have HNe2d := Lib.hid (show Blk wE.drew nb 30 #[.int .i64 x.k, strV x.t, strV x.t2, .int .i64 x.n, .int .i64 x.a, .int .i64 x.b, .int .i64 x.c, .int .i64 x.h] from HNe2.out)
            have HCe2d := Lib.hid (show Blk wE.drew zb 73 #[strV zCon.typ, .int .i64 zCon.num, .bool zCon.has] from HCe2.out)
            refine wp_region_last (S := fun V => V.cell? ⟨g, 3, none⟩ = some (.slice (some ⟨pb, 0, none⟩) t.l.length t.l.length) ∧ V.cell? ⟨zb, 2, none⟩ = some (.bool zCon.has) ∧ V.cell? ⟨nb, 4, none⟩ = some (.int .i64 x.a)) 16 (by kernel_rfl) (by kernel_rfl) (by kernel_rfl) (by kernel_rfl) ⟨HTe2.out.ak.ask.cell 3, HCe2.out.cell 2, HNe2.out.cell 4⟩ (fun hHeld => ?_)
            clear HTe2 HFe2 HNe2 HCe2
            generalize wE.drew = d at HTd HFd HNe2d HCe2d hHeld ⊢
            refine tkH 0 125 ?_ rfl ?_ ?_
            rotate_left
            · rintro V ⟨s0, s1, s2⟩; go_simp; try with_reducible rfl
            try simp only [Act.put, sLA, sL0, sL1]
            refine tkH 1 126 ?_ rfl ?_ ?_
            rotate_left
            · rintro V ⟨s0, s1, s2⟩; go_simp; try with_reducible rfl
            try simp only [Act.put, sLA, sL0, sL1]
            refine tkH 2 127 ?_ rfl ?_ ?_
            rotate_left
            · rintro V ⟨s0, s1, s2⟩; go_simp; try with_reducible rfl
            try simp only [Act.put, sLA, sL0, sL1]
            refine tkH 3 128 ?_ rfl ?_ ?_
            rotate_left
            · rintro V ⟨s0, s1, s2⟩; go_simp; try with_reducible rfl
            try simp only [Act.put, sLA, sL0, sL1]
            refine tkH 4 129 ?_ rfl ?_ ?_
            rotate_left
            · rintro V ⟨s0, s1, s2⟩; go_simp; try with_reducible rfl
            try simp only [Act.put, sLA, sL0, sL1]
            refine tkH 5 130 ?_ rfl ?_ ?_
            rotate_left
            · rintro V ⟨s0, s1, s2⟩; go_simp; try with_reducible rfl
            try simp only [Act.put, sLA, sL0, sL1]
            refine tkH 6 131 ?_ rfl ?_ ?_
            rotate_left
            · rintro V ⟨s0, s1, s2⟩; go_simp; try with_reducible rfl
            try simp only [Act.put, sLA, sL0, sL1]
            refine tkH 7 132 ?_ rfl ?_ ?_
            rotate_left
            · rintro V ⟨s0, s1, s2⟩; go_simp; try with_reducible rfl
            try simp only [Act.put, sLA, sL0, sL1]
            refine wpAnyH_take (i := 8) (oi := ⟨some 133, _, _, _, _, _⟩) (v := undef) rfl (by kernel_rfl) (by kernel_rfl) (by kernel_rfl) (fun _ _ _ h => h) (Or.inr ⟨by kernel_rfl, rfl⟩) (by assumption) ?_
            try simp only [Act.put, sLA, sL0, sL1]
            refine wpAnyH_take (i := 9) (oi := ⟨some 134, _, _, _, _, _⟩) (v := undef) rfl (by kernel_rfl) (by kernel_rfl) (by kernel_rfl) (fun _ _ _ h => h) (Or.inr ⟨by kernel_rfl, rfl⟩) (by assumption) ?_
            try simp only [Act.put, sLA, sL0, sL1]
            refine wpAnyH_take (i := 10) (oi := ⟨some 135, _, _, _, _, _⟩) (v := undef) rfl (by kernel_rfl) (by kernel_rfl) (by kernel_rfl) (fun _ _ _ h => h) (Or.inr ⟨by kernel_rfl, rfl⟩) (by assumption) ?_
            try simp only [Act.put, sLA, sL0, sL1]
            refine wpAnyH_take (i := 11) (oi := ⟨some 136, _, _, _, _, _⟩) (v := undef) rfl (by kernel_rfl) (by kernel_rfl) (by kernel_rfl) (fun _ _ _ h => h) (Or.inr ⟨by kernel_rfl, rfl⟩) (by assumption) ?_
            try simp only [Act.put, sLA, sL0, sL1]
            refine wpAnyH_take (i := 12) (oi := ⟨some 137, _, _, _, _, _⟩) (v := undef) rfl (by kernel_rfl) (by kernel_rfl) (by kernel_rfl) (fun _ _ _ h => h) (Or.inr ⟨by kernel_rfl, rfl⟩) (by assumption) ?_
            try simp only [Act.put, sLA, sL0, sL1]
            refine wpAnyH_take (i := 13) (oi := ⟨some 138, _, _, _, _, _⟩) (v := undef) rfl (by kernel_rfl) (by kernel_rfl) (by kernel_rfl) (fun _ _ _ h => h) (Or.inr ⟨by kernel_rfl, rfl⟩) (by assumption) ?_
            try simp only [Act.put, sLA, sL0, sL1]
            refine tkH 14 139 ?_ rfl ?_ ?_
            rotate_left
            · rintro V ⟨s0, s1, s2⟩; go_simp; try with_reducible rfl
            try simp only [Act.put, sLA, sL0, sL1]
            refine tkH 15 140 ?_ rfl ?_ ?_
            rotate_left
            · rintro V ⟨s0, s1, s2⟩; go_simp; try with_reducible rfl
            try simp only [Act.put, sLA, sL0, sL1]
            have zf := HTd.out.ak.mark.frozen k
            obtain ⟨u0, zc⟩ : ∃ u, d.cell? ⟨pb, k, none⟩ = some u := ⟨_, (HTd.out.ak.mark.cell k).trans (by rw [List.getElem?_toArray]; exact List.getElem?_eq_getElem (by rw [List.length_map, HTd.out.ak.len]; exact HKL.out))⟩
            refine wpAnyH_done (by kernel_rfl) ?_ _
            refine lastPost_run (o := ⟨none, _, _, _, _, _⟩) rfl (fun K hK => ?_)
            go_simp
            refine hK.out _ _ ?_
            clear hK K zf zc
            have HT9 := Lib.hid (HTd.out.setBad k (true))
            have HF9 := Lib.hid (HFd.out.set (p := ⟨pb, k, none⟩) (.inl rfl) (.bool (true)))
            have HN9 := Lib.hid (HNe2d.out.far (p := ⟨pb, k, none⟩) (HNe2d.out.ne_ HTd.out.ak.mark (by decide)) (.bool (true)))
            have HN9 := Lib.hid (HCe2d.out.far (p := ⟨pb, k, none⟩) (HCe2d.out.ne_ HTd.out.ak.mark (by decide)) (.bool (true)))
            clear HTd HFd HNe2d HCe2d hHeld
            generalize d.setCell ⟨pb, k, none⟩ (.bool (true)) = w9 at HT9 HF9 HN9 ⊢
            go_wp2_with fail
            go_roundw
            case rel => exact ⟨k + 1, _, HKL.out, by go_num, HT9.out, HF9.out, HE3.out⟩
            case measure =>
              have := HKL.out
              simp [intOf]
              omega
    have HLT := Lib.hid hlt
    have hlj : (j : Int) < (t.y.length : Int) := by omega
    have hj0 : (0 : Int) ≤ (j : Int) := by omega
    obtain ⟨ad1, u, hA1, _, hu, hcell⟩ := HT.out.nod.types.at_ hlt
    subst hA1
    have hyj : t.y[j]? = some t.y[j] := List.getElem?_eq_getElem hlt
    have HTY := Lib.hid (HSH.out.ty _ (List.getElem_mem hlt))
    rw [List.getElem?_map, hyj] at hu
    obtain rfl := Option.some.inj hu
    have HE1 := Lib.hid ((types_drop hlt S).symm.trans HE.out)
    generalize t.y[j] = kc at hcell HTY HE1
    obtain ⟨k, rfl⟩ : ∃ k : Nat, kc = (k : Int) := ⟨kc.toNat, by have := HTY.out.1.1; omega⟩
    rw [Int.toNat_natCast] at HE1
    have hkl : k < t.l.length := by have h := HTY.out.1.2; omega
    have HKL := Lib.hid hkl
    have HDA := Lib.hid (HSH.out.data k hkl (by have h := HTY.out.2; rw [Int.toNat_natCast] at h; exact h))
    have hx := nd_at hkl
    generalize nd t k = x at hx HE1 HDA
    have HX := Lib.hid hx
    obtain ⟨ad, hA, _, hcs⟩ := HT.out.nod.nodes.nodAt hx
    subst hA
    have HCS := Lib.hid hcs
    replace hcell : wr.cell? (ad1.add j) = some (.int .i64 (k : Int)) := hcell
    have a0 : wr.cell? ⟨g, 0, none⟩ = some (.slice (some ad) t.l.length c) := HT.out.ak.ask.cell 0
    have i1 : (0 : Int) ≤ (k : Int) := by omega
    have i2 : (k : Int) < (t.l.length : Int) := by omega
    clear hcs hx hyj hu HE hkl
    have hN := Blk.new wr 30 #[.int .i64 x.k, strV x.t, strV x.t2, .int .i64 x.n, .int .i64 x.a, .int .i64 x.b, .int .i64 x.c, .int .i64 x.h]
    have hb1 := below_new wr (.cells #[.int .i64 x.k, strV x.t, strV x.t2, .int .i64 x.n, .int .i64 x.a, .int .i64 x.b, .int .i64 x.c, .int .i64 x.h] 30)
    have HT1 := Lib.hid (HT.out.next hb1)
    have HF1 := Lib.hid (HF.out.below hb1)
    generalize hw1 : wr.alloc (.cells #[.int .i64 x.k, strV x.t, strV x.t2, .int .i64 x.n, .int .i64 x.a, .int .i64 x.b, .int .i64 x.c, .int .i64 x.h] 30) = w1 at hN hb1 HT1 HF1
    have HN1 := Lib.hid hN
    clear hN hb1 HT HF
    go_upto_region 5 with (refine wpList_load_at rfl 30 (.tmp 30) rfl (ad.add (k * 8)) rfl [.int .i64 x.k, strV x.t, strV x.t2, .int .i64 x.n, .int .i64 x.a, .int .i64 x.b, .int .i64 x.c, .int .i64 x.h] _ HCS.out Tryd.underlying30 rfl (by kernel_rfl) ?_)
    clear hw1
    generalize wr.heap.size = nb at HN1 ⊢
    clear hcell a0
    have HTd := Lib.hid (show Ty W0 g pb cb bb (some ad) (some ad1) c c' t M B mn mt lo S w1.drew from HT1.out.drewN 1)
    have HFd := Lib.hid (show Fr pb pb w w1.drew from HF1.out.drewN 1)
    have HN1d := Lib.hid (show Blk w1.drew nb 30 #[.int .i64 x.k, strV x.t, strV x.t2, .int .i64 x.n, .int .i64 x.a, .int .i64 x.b, .int .i64 x.c, .int .i64 x.h] from HN1.out)
    refine wp_region_last (S := fun V => V.cell? ⟨g, 3, none⟩ = some (.slice (some ⟨pb, 0, none⟩) t.l.length t.l.length) ∧ V.cell? ⟨nb, 1, none⟩ = some (strV x.t) ∧ (Instr.lookup 85 (.map (some mn)) (strV x.t) false).run Tryd.prog V = .ok (.bool (S.names x.t)) V) 10 (by kernel_rfl) (by kernel_rfl) (by kernel_rfl) (by kernel_rfl) ⟨HT1.out.ak.ask.cell 3, HN1.out.cell 1, lookB (HT1.out.drewN 1).nm x.t⟩ (fun hHeld => ?_)
    clear HT1 HF1 HN1
    generalize w1.drew = d at HTd HFd HN1d hHeld ⊢
    refine tkH 0 32 ?_ rfl ?_ ?_
    rotate_left
    · rintro V ⟨s0, s1, s2⟩; go_simp; try with_reducible rfl
    try simp only [Act.put, sLA, sL0, sL1]
    refine tkH 1 33 ?_ rfl ?_ ?_
    rotate_left
    · rintro V ⟨s0, s1, s2⟩; go_simp; try with_reducible rfl
    try simp only [Act.put, sLA, sL0, sL1]
    refine tkH 2 34 ?_ rfl ?_ ?_
    rotate_left
    · rintro V ⟨s0, s1, s2⟩; go_simp; try with_reducible rfl
    try simp only [Act.put, sLA, sL0, sL1]
    refine tkH 3 35 ?_ rfl ?_ ?_
    rotate_left
    · rintro V ⟨s0, s1, s2⟩; go_simp; try with_reducible rfl
    try simp only [Act.put, sLA, sL0, sL1]
    refine tkH 4 36 ?_ rfl ?_ ?_
    rotate_left
    · rintro V ⟨s0, s1, s2⟩; go_simp; try with_reducible rfl
    try simp only [Act.put, sLA, sL0, sL1]
    refine tkH 5 37 ?_ rfl ?_ ?_
    rotate_left
    · rintro V ⟨s0, s1, s2⟩; go_simp; try with_reducible rfl
    try simp only [Act.put, sLA, sL0, sL1]
    refine tkH 6 38 ?_ rfl ?_ ?_
    rotate_left
    · rintro V ⟨s0, s1, s2⟩; go_simp; try with_reducible rfl
    try simp only [Act.put, sLA, sL0, sL1]
    refine tkH 7 39 ?_ rfl ?_ ?_
    rotate_left
    · rintro V ⟨s0, s1, s2⟩; go_simp; try with_reducible rfl
    try simp only [Act.put, sLA, sL0, sL1]
    refine tkH 8 40 ?_ rfl ?_ ?_
    rotate_left
    · rintro V ⟨s0, s1, s2⟩; go_simp; try with_reducible rfl
    try simp only [Act.put, sLA, sL0, sL1]
    refine tkH 9 41 ?_ rfl ?_ ?_
    rotate_left
    · rintro V ⟨s0, s1, s2⟩; go_simp; try with_reducible rfl
    try simp only [Act.put, sLA, sL0, sL1]
    have zf := HTd.out.ak.mark.frozen k
    obtain ⟨u0, zc⟩ : ∃ u, d.cell? ⟨pb, k, none⟩ = some u := ⟨_, (HTd.out.ak.mark.cell k).trans (by rw [List.getElem?_toArray]; exact List.getElem?_eq_getElem (by rw [List.length_map, HTd.out.ak.len]; exact HKL.out))⟩
    refine wpAnyH_done (by kernel_rfl) ?_ _
    refine lastPost_run (o := ⟨none, _, _, _, _, _⟩) rfl (fun K hK => ?_)
    go_simp
    refine hK.out _ _ ?_
    clear hK K zf zc
    have HT2 := Lib.hid (HTd.out.setBad k (S.names x.t))
    have HF2 := Lib.hid (HFd.out.set (p := ⟨pb, k, none⟩) (.inl rfl) (.bool (S.names x.t)))
    have HN2 := Lib.hid (HN1d.out.far (p := ⟨pb, k, none⟩) (HN1d.out.ne_ HTd.out.ak.mark (by decide)) (.bool (S.names x.t)))
    clear HTd HFd HN1d hHeld
    generalize d.setCell ⟨pb, k, none⟩ (.bool (S.names x.t)) = w2 at HT2 HF2 HN2 ⊢
    clear i1 i2
    obtain ⟨w3, hst, ht3, hg3⟩ := HT2.out.insN x.t
    have HT3 := Lib.hid (show Ty W0 g pb cb bb (some ad) (some ad1) c c' t M B mn mt lo (tyStep k x S) w3 from ht3)
    have HF3 := Lib.hid (HF2.out.grown hg3 (fun i hi => .inr (.inr (by obtain rfl := Option.some.inj hi; rw [HMN.out]; exact Nat.le_refl _))))
    have HN3 := Lib.hid (HN2.out.grown hg3 (fun e => HT2.out.nm.ne HN2.out (Option.some.inj e)))
    have n1 : w2.cell? ⟨nb, 1, none⟩ = some (strV x.t) := HN2.out.cell 1
    have n4 : w3.cell? ⟨nb, 4, none⟩ = some (.int .i64 x.a) := HN3.out.cell 4
    clear ht3 hg3 HT2 HF2 HN2
    go_wp2_with fail
    clear hst n1 n4 HN3
    generalize hS1 : tyStep k x S = S1 at HT3 HE1
    have HS1 := Lib.hid hS1
    clear hS1
    go_loopw [7] (fun cv wq => ∃ (n : Nat) (ci : Int) (S2 : TS), cv = .int .i64 ci ∧ ci < (n : Int) ∧ (ci < 0 ∨ InR t.l.length ci ∧ (nd t ci.toNat).k = 43) ∧ Ty W0 g pb cb bb (some ad) (some ad1) c c' t M B mn mt lo S2 wq ∧ Fr pb pb w wq ∧ typesL t (t.y.drop (j + 1)) (metChain t n ci S2) = TE) (fun cv _ => (intOf cv + 1).toNat)
    case atStart => exact ⟨501, x.a, S1, rfl, by have h1 := HDA.out.1.2; have h2 := HKL.out; have h3 := HSH.out.len; omega, .inr ⟨⟨HDA.out.1.1, by have h1 := HDA.out.1.2; have h2 := HKL.out; omega⟩, HDA.out.2⟩, HT3.out, HF3.out, HE1.out⟩
    case round =>
      obtain ⟨n, ci, S2, rfl, hcn, hck, ht, hf, heq⟩ := hrel
      have HT4 := Lib.hid ht
      have HF4 := Lib.hid hf
      have HE2 := Lib.hid heq
      have HCK := Lib.hid hck
      have HCN := Lib.hid hcn
      clear heq hck hcn ht hf HT3 HF3 HE1
      by_cases hc0 : ci < 0
      · have hcc : ¬ (0 : Int) ≤ ci := by omega
        have HE3 := Lib.hid (show typesL t (t.y.drop (j + 1)) S2 = TE by
          rw [← HE2.out]
          cases n with
          | zero => rfl
          | succ n => simp only [metChain]; rw [if_pos hc0])
        have hj9 : (j : Int) + 1 ≤ 281474976710656 := by have := HLT.out; have := HYL.out; omega
        go_wp2_with fail
        go_roundw
        case rel => exact ⟨j + 1, S2, HLT.out, by go_num, HT4.out, HF4.out, HE3.out⟩
        case measure =>
          have := HLT.out
          simp [intOf]
          omega
      obtain ⟨q, rfl⟩ : ∃ q : Nat, ci = (q : Int) := ⟨ci.toNat, by omega⟩
      obtain ⟨n, rfl⟩ : ∃ n', n = n' + 1 := ⟨n - 1, by have := HCN.out; omega⟩
      have hck : InR t.l.length (q : Int) ∧ (nd t q).k = 43 := by
        rcases HCK.out with h | h
        · exact absurd h hc0
        · exact h
      have hql : q < t.l.length := by have h := hck.1.2; omega
      have HQL := Lib.hid hql
      have HCO := Lib.hid (HSH.out.con q hql hck.2)
      have HE3 := Lib.hid (show typesL t (t.y.drop (j + 1)) (metChain t n (nd t q).b (metStep q (nd t q) S2)) = TE by
        rw [← HE2.out]
        simp only [metChain]
        rw [if_neg hc0]
        rfl)
      have hyx := nd_at hql
      generalize nd t q = y at hyx HCO HE3
      have HYX := Lib.hid hyx
      obtain ⟨adq, hAq, _, hcs⟩ := HT4.out.nod.nodes.nodAt hyx
      obtain rfl := Option.some.inj hAq
      obtain ⟨_, y1, _, _, _⟩ := nod_cells hcs
      have i1 : (0 : Int) ≤ (q : Int) := by omega
      have i2 : (q : Int) < (t.l.length : Int) := by omega
      clear hcs hAq hyx hck hc0 HCK HE2 hql
      go_upto_region 10 with fail
      have HTd := Lib.hid (show Ty W0 g pb cb bb (some ad) (some ad1) c c' t M B mn mt lo S2 wr.drew from HT4.out.drewN 1)
      have HFd := Lib.hid (show Fr pb pb w wr.drew from HF4.out.drewN 1)
      refine wp_region_last (S := fun V => V.cell? ⟨g, 3, none⟩ = some (.slice (some ⟨pb, 0, none⟩) t.l.length t.l.length) ∧ V.cell? ⟨g, 0, none⟩ = some (.slice (some ad) t.l.length c) ∧ V.cell? ⟨(ad.add (q * 8)).block, (ad.add (q * 8)).off + 1, none⟩ = some (strV y.t) ∧ (Instr.lookup 85 (.map (some mt)) (strV y.t) false).run Tryd.prog V = .ok (.bool (S2.met y.t)) V) 17 (by kernel_rfl) (by kernel_rfl) (by kernel_rfl) (by kernel_rfl) ⟨HT4.out.ak.ask.cell 3, HT4.out.ak.ask.cell 0, y1, lookB (HT4.out.drewN 1).mp y.t⟩ (fun hHeld => ?_)
      clear HT4 HF4 y1
      generalize wr.drew = d at HTd HFd  hHeld ⊢
      refine tkH 0 58 ?_ rfl ?_ ?_
      rotate_left
      · rintro V ⟨s0, s1, s2, s3⟩; go_simp; try with_reducible rfl
      try simp only [Act.put, sLA, sL0, sL1]
      refine tkH 1 59 ?_ rfl ?_ ?_
      rotate_left
      · rintro V ⟨s0, s1, s2, s3⟩; go_simp; try with_reducible rfl
      try simp only [Act.put, sLA, sL0, sL1]
      refine tkH 2 60 ?_ rfl ?_ ?_
      rotate_left
      · rintro V ⟨s0, s1, s2, s3⟩; go_simp; try with_reducible rfl
      try simp only [Act.put, sLA, sL0, sL1]
      refine tkH 3 61 ?_ rfl ?_ ?_
      rotate_left
      · rintro V ⟨s0, s1, s2, s3⟩; go_simp; try with_reducible rfl
      try simp only [Act.put, sLA, sL0, sL1]
      refine tkH 4 62 ?_ rfl ?_ ?_
      rotate_left
      · rintro V ⟨s0, s1, s2, s3⟩; go_simp; try with_reducible rfl
      try simp only [Act.put, sLA, sL0, sL1]
      refine tkH 5 63 ?_ rfl ?_ ?_
      rotate_left
      · rintro V ⟨s0, s1, s2, s3⟩; go_simp; try with_reducible rfl
      try simp only [Act.put, sLA, sL0, sL1]
      refine tkH 6 64 ?_ rfl ?_ ?_
      rotate_left
      · rintro V ⟨s0, s1, s2, s3⟩; go_simp; try with_reducible rfl
      try simp only [Act.put, sLA, sL0, sL1]
      refine tkH 7 65 ?_ rfl ?_ ?_
      rotate_left
      · rintro V ⟨s0, s1, s2, s3⟩; go_simp; try with_reducible rfl
      try simp only [Act.put, sLA, sL0, sL1]
      refine tkH 8 66 ?_ rfl ?_ ?_
      rotate_left
      · rintro V ⟨s0, s1, s2, s3⟩; go_simp; try with_reducible rfl
      try simp only [Act.put, sLA, sL0, sL1]
      refine tkH 9 67 ?_ rfl ?_ ?_
      rotate_left
      · rintro V ⟨s0, s1, s2, s3⟩; go_simp; try with_reducible rfl
      try simp only [Act.put, sLA, sL0, sL1]
      refine tkH 10 68 ?_ rfl ?_ ?_
      rotate_left
      · rintro V ⟨s0, s1, s2, s3⟩; go_simp; try with_reducible rfl
      try simp only [Act.put, sLA, sL0, sL1]
      refine tkH 11 69 ?_ rfl ?_ ?_
      rotate_left
      · rintro V ⟨s0, s1, s2, s3⟩; go_simp; try with_reducible rfl
      try simp only [Act.put, sLA, sL0, sL1]
      refine tkH 12 70 ?_ rfl ?_ ?_
      rotate_left
      · rintro V ⟨s0, s1, s2, s3⟩; go_simp; try with_reducible rfl
      try simp only [Act.put, sLA, sL0, sL1]
      refine tkH 13 71 ?_ rfl ?_ ?_
      rotate_left
      · rintro V ⟨s0, s1, s2, s3⟩; go_simp; try with_reducible rfl
      try simp only [Act.put, sLA, sL0, sL1]
      refine tkH 14 72 ?_ rfl ?_ ?_
      rotate_left
      · rintro V ⟨s0, s1, s2, s3⟩; go_simp; try with_reducible rfl
      try simp only [Act.put, sLA, sL0, sL1]
      refine tkH 15 73 ?_ rfl ?_ ?_
      rotate_left
      · rintro V ⟨s0, s1, s2, s3⟩; go_simp; try with_reducible rfl
      try simp only [Act.put, sLA, sL0, sL1]
      refine tkH 16 74 ?_ rfl ?_ ?_
      rotate_left
      · rintro V ⟨s0, s1, s2, s3⟩; go_simp; try with_reducible rfl
      try simp only [Act.put, sLA, sL0, sL1]
      have zf := HTd.out.ak.mark.frozen q
      obtain ⟨u0, zc⟩ : ∃ u, d.cell? ⟨pb, q, none⟩ = some u := ⟨_, (HTd.out.ak.mark.cell q).trans (by rw [List.getElem?_toArray]; exact List.getElem?_eq_getElem (by rw [List.length_map, HTd.out.ak.len]; exact HQL.out))⟩
      refine wpAnyH_done (by kernel_rfl) ?_ _
      refine lastPost_run (o := ⟨none, _, _, _, _, _⟩) rfl (fun K hK => ?_)
      go_simp
      refine hK.out _ _ ?_
      clear hK K zf zc
      have HT5 := Lib.hid (HTd.out.setBad q (S2.met y.t))
      have HF5 := Lib.hid (HFd.out.set (p := ⟨pb, q, none⟩) (.inl rfl) (.bool (S2.met y.t)))
      clear HTd HFd  hHeld
      generalize d.setCell ⟨pb, q, none⟩ (.bool (S2.met y.t)) = w5 at HT5 HF5  ⊢
      obtain ⟨w6, hst, ht6, hg6⟩ := HT5.out.insM y.t
      have HT6 := Lib.hid (show Ty W0 g pb cb bb (some ad) (some ad1) c c' t M B mn mt lo (metStep q y S2) w6 from ht6)
      have HF6 := Lib.hid (HF5.out.grown hg6 (fun i hi => .inr (.inr (by obtain rfl := Option.some.inj hi; have := HT5.out.lt; have := HLO.out; rw [HMN.out]; omega))))
      obtain ⟨adq, hAq, _, hcs⟩ := HT5.out.nod.nodes.nodAt HYX.out
      obtain rfl := Option.some.inj hAq
      obtain ⟨_, y1, _, _, _⟩ := nod_cells hcs
      have a0 : w5.cell? ⟨g, 0, none⟩ = some (.slice (some ad) t.l.length c) := HT5.out.ak.ask.cell 0
      clear ht6 hg6 HT5 HF5 hcs hAq
      go_upto_region 9 with fail
      clear y1 a0 hst
      obtain ⟨adq, hAq, _, hcs⟩ := HT6.out.nod.nodes.nodAt HYX.out
      obtain rfl := Option.some.inj hAq
      obtain ⟨_, _, _, y5, _⟩ := nod_cells hcs
      have a0 : w6.cell? ⟨g, 0, none⟩ = some (.slice (some ad) t.l.length c) := HT6.out.ak.ask.cell 0
      clear hcs hAq
      go_wp2_with fail
      clear y5 a0 i1 i2
      have hyb : y.b < (n : Int) ∧ (y.b < 0 ∨ InR t.l.length y.b ∧ (nd t y.b.toNat).k = 43) ∧ (y.b + 1).toNat < ((q : Int) + 1).toNat := by
        have hcn := HCN.out
        have hql := HQL.out
        rcases HCO.out with h | ⟨⟨h1, h2⟩, h3⟩
        · exact ⟨by omega, .inl h, by omega⟩
        · exact ⟨by omega, .inr ⟨⟨h1, by omega⟩, h3⟩, by omega⟩
      have HYB := Lib.hid hyb
      clear hyb
      go_roundw
      case rel => exact ⟨n, y.b, _, rfl, HYB.out.1, HYB.out.2.1, HT6.out, HF6.out, HE3.out⟩
      case measure =>
        simp only [intOf]
        exact HYB.out.2.2
def conOf (M : CM) (s : KS) : Con := (M s).getD zCon
def ConEnd (t : Tre) (s : KS) (w : World) (e : Ending) (w' : World) : Prop :=
  e = .returned (.tuple #[strV (conOf (conMap t) s).typ, .int .i64 (conOf (conMap t) s).num, .bool (conOf (conMap t) s).has, .bool (conMap t s).isSome]) ∧ Below w.heap.size w w'
structure SmT (t : Tre) : Prop where
  l : t.l.length ≤ 281474976710656
  y : t.y.length ≤ 281474976710656
  x : ∀ p ∈ t.l, p.t.length ≤ 281474976710656 ∧ p.t2.length ≤ 281474976710656
theorem results_tmp4 {fn : Func} {t u v x : Tmp} (h : fn.results = #[.tmp t, .tmp u, .tmp v, .tmp x]) (tmps : Array Value) (P : Program) (w : World) :
    (results fn tmps).run P w = .ok (.tuple #[tmps.getD t undef, tmps.getD u undef, tmps.getD v undef, tmps.getD x undef]) w := by
  simp [results, h]
set_option maxRecDepth 100000 in
set_option maxHeartbeats 8000000 in
theorem c17 {tab : Nat → OpRow} {t : Tre} {A A' : Option Addr} {c c' : Nat} (s : KS) (w : World) (hT : TreIs w A A' t) (hS : TabsX tab w) (hz : SmT t) (hg : GoodN t) (ha : AllX tab t) :
    Calls Tryd.prog 17 #[treV A c A' c' t, strV s] w (ConEnd t s w) := by
  have hX := Blk.new w 25 #[.slice A t.l.length c, .slice A' t.y.length c', .int .i64 t.r]
  have hb0 := below_new w (.cells #[.slice A t.l.length c, .slice A' t.y.length c', .int .i64 t.r] 25)
  have HT := Lib.hid (hT.next hb0)
  have HS := Lib.hid (hS.next hb0)
  have HB0 := Lib.hid hb0
  have HX := Lib.hid hX
  have HZ := Lib.hid hz
  have HG := Lib.hid hg
  have HA := Lib.hid ha
  have HSH := Lib.hid (Shp.of hg)
  clear hT hS hb0 hX hz hg ha
  show Calls Tryd.prog 17 #[.agg #[.slice A t.l.length c, .slice A' t.y.length c', .int .i64 t.r], strV s] w _
  go_enter Tryd.func17, Tryd.ntmps17
  go_upto_region 1 with fail
  generalize w.alloc (.cells #[.slice A t.l.length c, .slice A' t.y.length c', .int .i64 t.r] 25) = w0 at HT HS HB0 HX ⊢
  generalize w.heap.size = xb at HX ⊢
  have x0 : w0.cell? ⟨xb, 0, none⟩ = some (.slice A t.l.length c) := HX.out.cell 0
  have x1 : w0.cell? ⟨xb, 1, none⟩ = some (.slice A' t.y.length c') := HX.out.cell 1
  have x2 : w0.cell? ⟨xb, 2, none⟩ = some (.int .i64 t.r) := HX.out.cell 2
  go_wp2_with fail
  clear x0 x1 x2
  refine (show Calls Tryd.prog 10 #[.agg #[.slice A t.l.length c, .slice A' t.y.length c', .int .i64 t.r]] w0 _ from x10 t A A' c c' w0 HT.out HS.out HZ.out.l HZ.out.y HZ.out.x).mono ?_
  rintro e w1 ⟨b, rfl, hb1, _, hgd⟩
  obtain rfl : b = true := hgd HG.out HA.out
  have HT1 := Lib.hid (HT.out.next hb1)
  have HX1 := Lib.hid (HX.out.next hb1)
  have HB1 := Lib.hid (next_ HB0.out hb1)
  clear hb1 hgd HT HX HS HB0
  have x0 : w1.cell? ⟨xb, 0, none⟩ = some (.slice A t.l.length c) := HX1.out.cell 0
  have x1 : w1.cell? ⟨xb, 1, none⟩ = some (.slice A' t.y.length c') := HX1.out.cell 1
  have x2 : w1.cell? ⟨xb, 2, none⟩ = some (.int .i64 t.r) := HX1.out.cell 2
  go_wp2_with fail
  clear x0 x1 x2
  refine (show Calls Tryd.prog 26 #[.agg #[.slice A t.l.length c, .slice A' t.y.length c', .int .i64 t.r]] w1 _ from c26 (A := A) (A' := A') (c := c) (c' := c') HSH.out w1 HT1.out HZ.out.y).mono ?_
  rintro e w2 ⟨mm, rfl, hm, _, hb2⟩
  have HB2 := Lib.hid (next_ HB1.out hb2)
  have hlk : (Instr.lookup 63 (.map (some mm)) (strV s) true).run Tryd.prog w2 = .ok (.tuple #[.agg #[strV (conOf (conMap t) s).typ, .int .i64 (conOf (conMap t) s).num, .bool (conOf (conMap t) s).has], .bool (conMap t s).isSome]) w2 := by
    have h8 := look63 hm s
    unfold conOf
    cases h9 : conMap t s with
    | none => simp only [h9] at h8; exact h8
    | some cc => simp only [h9] at h8; exact h8
  clear hm hb2 HT1 HX1 HB1
  generalize hcc : conOf (conMap t) s = cc at hlk
  generalize hok : (conMap t s).isSome = ok at hlk
  have HCC := Lib.hid hcc
  have HOK := Lib.hid hok
  have hc3 := Blk.new w2 73 #[strV cc.typ, .int .i64 cc.num, .bool cc.has]
  have HB3 := Lib.hid (next_ HB2.out (below_new w2 (.cells #[strV cc.typ, .int .i64 cc.num, .bool cc.has] 73)))
  clear hcc hok
  go_upto_region 4 with fail
  clear hlk
  generalize w2.alloc (.cells #[strV cc.typ, .int .i64 cc.num, .bool cc.has] 73) = w3 at hc3 HB3 ⊢
  generalize w2.heap.size = qb at hc3 ⊢
  have c0 : w3.cell? ⟨qb, 0, none⟩ = some (strV cc.typ) := hc3.cell 0
  have c1 : w3.cell? ⟨qb, 1, none⟩ = some (.int .i64 cc.num) := hc3.cell 1
  have c2 : w3.cell? ⟨qb, 2, none⟩ = some (.bool cc.has) := hc3.cell 2
  clear hc3
  go_quiet (fail)
  have HB4 := Lib.hid (below_drewN HB3.out nq)
  clear c0 c1 c2
  go_wp2_with fail
  first
    | (refine bodyPost_ret (results_tmp4 rfl _ _ _) rfl ?_)
    | ((try simp only [Exit.inBlock, Exit.then]); refine bodyPost_ret (results_tmp4 rfl _ _ _) rfl ?_)
  refine ⟨?_, HB4.out⟩
  rw [HCC.out, HOK.out]
  rfl
end Go.Proofs.YtphojigdapaaiaaDoor
