/- The writer of a form. -/
import Derived.Test.YtiphicejaljhiaaDoorWrNum
import Derived.Test.YtiphicejaljhiaaDoorTab
namespace Go.Proofs.YtiphicejaljhiaaDoor
open Go.ChangeShapes Go.WideShapes Go.ChangeAt Go.RowKit
theorem reads_blk {w : World} {t : TypeId} {vs : List Value} {b : Nat} (h : Blk w b t vs.toArray) : Reads w (b + 1) 1 (some ⟨b, 0, none⟩) vs.length vs :=
  ⟨by simp, fun _ => ⟨_, rfl, Nat.lt_succ_self _, fun j u hj => by
    have h1 := h.cell j
    rw [List.getElem?_toArray, hj] at h1
    unfold Addr.add
    split
    · rename_i e; subst e; exact h1
    · simpa using h1⟩⟩
set_option maxRecDepth 100000 in
set_option maxHeartbeats 4000000 in
theorem c50 (g base : Nat) (f : Fm) (A : Option Addr) (c : Nat) (bs : List UInt8) (w : World) (hw : WrAt w base g bs) (hr : Reads w base 1 A f.cons.length (f.cons.map (Value.int .i64)))
    (hm : f.cons.length ≤ maxLen) (hl : (bs ++ eFm f).length ≤ 1099511627776) :
    Calls Tryd.prog 50 #[.pointer (some ⟨g, 0, none⟩), .agg #[.int .i64 f.kind, .int .i64 f.a, .int .i64 f.b, .slice A f.cons.length c]] w fun e w' => e = .returned (.tuple #[]) ∧ WrAt w' base g (bs ++ eFm f) ∧ Below base w w' ∧ KeptW w w' := by
  obtain ⟨kd, fa, fb, cd⟩ := f
  simp only at hr hm ⊢
  unfold maxLen at hm
  have HL := Lib.hid hl
  have HR := Lib.hid hr
  generalize hvs : [kd, fa, fb, (cd.length : Int)] = vs
  have HVS := Lib.hid hvs
  have LVS : vs.length = 4 := by rw [← hvs]; rfl
  have hT := Lib.hid (show eFm ⟨kd, fa, fb, cd⟩ = vs.flatMap (fun c => numB c 1) ++ cd.flatMap (fun c => numB c 1) by
    rw [← hvs]
    simp [eFm])
  have hw1 := (hw.alloc (.cells #[.int .i64 kd, .int .i64 fa, .int .i64 fb, .slice A cd.length c] 63)).alloc (.cells #[.int .i64 kd, .int .i64 fa, .int .i64 fb, .int .i64 cd.length] 3)
  have B1 := Lib.hid (((below_new w (.cells #[.int .i64 kd, .int .i64 fa, .int .i64 fb, .slice A cd.length c] 63)).mono hw.1).trans ((below_new (w.alloc (.cells #[.int .i64 kd, .int .i64 fa, .int .i64 fb, .slice A cd.length c] 63)) (.cells #[.int .i64 kd, .int .i64 fa, .int .i64 fb, .int .i64 cd.length] 3)).mono (hw.alloc (.cells #[.int .i64 kd, .int .i64 fa, .int .i64 fb, .slice A cd.length c] 63)).1))
  have K1 := Lib.hid ((KeptW.alloc w (.cells #[.int .i64 kd, .int .i64 fa, .int .i64 fb, .slice A cd.length c] 63)).trans (KeptW.alloc (w.alloc (.cells #[.int .i64 kd, .int .i64 fa, .int .i64 fb, .slice A cd.length c] 63)) (.cells #[.int .i64 kd, .int .i64 fa, .int .i64 fb, .int .i64 cd.length] 3)))
  have P1 := (Blk.new w 63 #[.int .i64 kd, .int .i64 fa, .int .i64 fb, .slice A cd.length c]).alloc (.cells #[.int .i64 kd, .int .i64 fa, .int .i64 fb, .int .i64 cd.length] 3)
  have Q1 : Blk ((w.alloc (.cells #[.int .i64 kd, .int .i64 fa, .int .i64 fb, .slice A cd.length c] 63)).alloc (.cells #[.int .i64 kd, .int .i64 fa, .int .i64 fb, .int .i64 cd.length] 3)) (w.heap.size + 1) 3 (vs.map (Value.int .i64)).toArray := by
    rw [← hvs]
    have := Blk.new (w.alloc (.cells #[.int .i64 kd, .int .i64 fa, .int .i64 fb, .slice A cd.length c] 63)) 3 #[.int .i64 kd, .int .i64 fa, .int .i64 fb, .int .i64 cd.length]
    rw [World.size_alloc] at this
    exact this
  have HW1 := Lib.hid hw1
  clear hl hr hw hw1 hvs
  go_enter Tryd.func50, Tryd.ntmps50
  go_wp2_with fail
  go_loopw [19] (fun i wr => ∃ (k : Nat) (ws : List UInt8), k ≤ 4 ∧ i = .int .i64 k ∧ bs ++ eFm ⟨kd, fa, fb, cd⟩ = ws ++ ((vs.drop k).flatMap (fun c => numB c 1) ++ cd.flatMap (fun c => numB c 1)) ∧ Hid (WrAt wr base g ws) ∧ Hid (Below base w wr) ∧ Hid (KeptW w wr) ∧ Blk wr w.heap.size 63 #[.int .i64 kd, .int .i64 fa, .int .i64 fb, .slice A cd.length c] ∧ Blk wr (w.heap.size + 1) 3 (vs.map (Value.int .i64)).toArray) (fun i _ => 4 - (intOf i).toNat)
  case atStart => exact ⟨0, bs, by omega, rfl, by rw [hT.out]; rfl, HW1, B1, K1, P1, Q1⟩
  case round =>
    obtain ⟨k, ws, hk, rfl, he, HWR, HBR, HKR, hP, hQ⟩ := hrel
    have HE := Lib.hid he
    clear he
    by_cases hlt : k < 4
    · have hl : (k : Int) < 4 := by omega
      have hkl : k < vs.length := by omega
      have hq : wr.cell? ⟨w.heap.size + 1, k, none⟩ = some (.int .i64 vs[k]) := by
        rw [hQ.cell k, List.getElem?_toArray, List.getElem?_map, List.getElem?_eq_getElem hkl]
        rfl
      have hxd := drop_at hkl
      generalize vs[k] = y at hq hxd
      have HXD := Lib.hid hxd
      clear hxd
      have hE2 := Lib.hid (show bs ++ eFm ⟨kd, fa, fb, cd⟩ = ws ++ (numB y 1 ++ ((vs.drop (k + 1)).flatMap (fun c => numB c 1) ++ cd.flatMap (fun c => numB c 1))) by rw [HE.out, HXD.out, List.flatMap_cons, List.append_assoc])
      go_wp2_with fail
      refine (c48 g base y 1 ws _ HWR.out (by decide) (by have h1 := HL.out; rw [HE.out, List.length_append] at h1; omega)).mono ?_
      rintro e w5 ⟨rfl, hw5, b5, k5⟩
      have HW5 := Lib.hid hw5
      have B5 := Lib.hid (HBR.out.trans b5)
      have K5 := Lib.hid (HKR.out.trans k5)
      have P5 := k5 _ _ _ (by decide) (by decide) hP
      have Q5 := k5 _ _ _ (by decide) (by decide) hQ
      clear hw5 b5 k5
      go_wp2_with fail
      go_roundw
      case rel => exact ⟨k + 1, _, by omega, by go_num, by rw [hE2.out, List.append_assoc], HW5, B5, K5, P5, Q5⟩
      case measure => simp [intOf]; omega
    · have hl : ¬ (k : Int) < 4 := by omega
      have p3 := hP.cell 3
      have HE0 := Lib.hid (show bs ++ eFm ⟨kd, fa, fb, cd⟩ = ws ++ cd.flatMap (fun c => numB c 1) by rw [HE.out, List.drop_eq_nil_of_le (by omega)]; rfl)
      clear HE
      go_wp2_with fail
      obtain ⟨wo, rfl⟩ : ∃ wo : World, wo = wr := ⟨_, rfl⟩
      obtain ⟨wb, hwb⟩ : ∃ wb, wb = ws := ⟨_, rfl⟩
      go_loopw [30] (fun i wr' => ∃ (k : Nat) (ws : List UInt8), k ≤ cd.length ∧ i = .int .i64 k ∧ bs ++ eFm ⟨kd, fa, fb, cd⟩ = ws ++ (cd.drop k).flatMap (fun c => numB c 1) ∧ Hid (WrAt wr' base g ws) ∧ Hid (Below base w wr') ∧ Hid (KeptW w wr')) (fun i _ => cd.length - (intOf i).toNat)
      case atStart => exact ⟨0, ws, by omega, rfl, HE0.out, HWR, HBR, HKR⟩
      case round =>
        obtain ⟨j, ws, hj, rfl, he, HWR, HBR, HKR⟩ := hrel
        have HE := Lib.hid he
        clear he
        by_cases hlt : j < cd.length
        · have hl : (j : Int) < (cd.length : Int) := by omega
          obtain ⟨ad, u, rfl, hbl, hu, hcs⟩ := (HR.out.below HBR.out).at_ hlt
          obtain rfl : Value.int .i64 cd[j] = u := by
            rw [List.getElem?_map, List.getElem?_eq_getElem hlt] at hu
            exact Option.some.inj hu
          clear hu
          have hxd := drop_at hlt
          generalize cd[j] = y at hcs hxd
          have HXD := Lib.hid hxd
          clear hxd
          have hE2 := Lib.hid (show bs ++ eFm ⟨kd, fa, fb, cd⟩ = ws ++ (numB y 1 ++ (cd.drop (j + 1)).flatMap (fun c => numB c 1)) by rw [HE.out, HXD.out, List.flatMap_cons])
          go_wp2_with fail
          refine (c48 g base y 1 ws _ HWR.out (by decide) (by have h1 := HL.out; rw [HE.out, List.length_append] at h1; omega)).mono ?_
          rintro e w5 ⟨rfl, hw5, b5, k5⟩
          have HW5 := Lib.hid hw5
          have B5 := Lib.hid (HBR.out.trans b5)
          have K5 := Lib.hid (HKR.out.trans k5)
          clear hw5 b5 k5
          go_wp2_with fail
          go_roundw
          case rel => exact ⟨j + 1, _, by omega, by go_num, by rw [hE2.out, List.append_assoc], HW5, B5, K5⟩
          case measure => simp [intOf]; omega
        · have hl : ¬ (j : Int) < (cd.length : Int) := by omega
          go_wp2_with fail
          go_end0
          refine ⟨rfl, ?_, HBR.out, HKR.out⟩
          rw [HE.out, List.drop_eq_nil_of_le (by omega), List.flatMap_nil, List.append_nil]
          exact HWR.out
end Go.Proofs.YtiphicejaljhiaaDoor
