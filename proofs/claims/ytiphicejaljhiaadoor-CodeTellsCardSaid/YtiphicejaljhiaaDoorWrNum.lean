/- The writer of numbers: what it writes, and that nothing else turns. -/
import Derived.Test.YtiphicejaljhiaaDoorWr
import Derived.Deep.QuietTactic
import Derived.BigQuiet
import Derived.Deep.RegionHeld3
import Derived.Deep.RegionLaw
namespace Go.Proofs.YtiphicejaljhiaaDoor
open Go.ChangeShapes Go.WideShapes Go.ChangeAt Go.RowKit
theorem u8_info : (Tryd.prog.info? 5).map (fun i => (i.zero, i.size, i.bytes)) = some (some (.int .u8 0), 1, 1) := by kernel_rfl
theorem wrap_u8 (x : Int) : IntKind.u8.wrap x = ((byteOf x).toNat : Int) := by
  rw [byteOf_nat]
  unfold IntKind.wrap
  simp [IntKind.bits, IntKind.signed]
theorem reads_one {w : World} {t : TypeId} {v : Value} {b : Nat} (h : Blk w b t #[v]) : Reads w (b + 1) 1 (some ⟨b, 0, none⟩) 1 [v] :=
  ⟨rfl, fun _ => ⟨_, rfl, Nat.lt_succ_self _, fun j u hj => by
    match j, hj with
    | 0, hj => rw [← hj]; exact h.cell 0⟩⟩
theorem keepW {W : World} {o : Obj} {g : Nat} {rv : Value} (h : g < W.heap.size ∧ W.cell? ⟨g, 0, none⟩ = some rv ∧ W.frozen? ⟨g, 0, none⟩ = false) : g < (W.alloc o).heap.size ∧ (W.alloc o).cell? ⟨g, 0, none⟩ = some rv ∧ (W.alloc o).frozen? ⟨g, 0, none⟩ = false :=
  ⟨by rw [World.size_alloc]; omega, (allocb W o g 0 h.1).trans h.2.1, (World.frozen?_of_block (a := ⟨g, 0, none⟩) (Below.heap_alloc W o g h.1)).trans h.2.2⟩
theorem keepG {W W' : World} {row : Option Nat} {g : Nat} {rv : Value} (hg : W.grownBy W' row) (hne : some g ≠ row) (h : g < W.heap.size ∧ W.cell? ⟨g, 0, none⟩ = some rv ∧ W.frozen? ⟨g, 0, none⟩ = false) : g < W'.heap.size ∧ W'.cell? ⟨g, 0, none⟩ = some rv ∧ W'.frozen? ⟨g, 0, none⟩ = false :=
  ⟨Nat.lt_of_lt_of_le h.1 hg.size, (hg.cell_far ⟨g, 0, none⟩ h.1 hne).trans h.2.1, (hg.frozen_far ⟨g, 0, none⟩ h.1 hne).trans h.2.2⟩
set_option maxRecDepth 100000 in
set_option maxHeartbeats 2000000 in
theorem c48 (g base : Nat) (v : Int) (n : Nat) (bs : List UInt8) (w : World) (hw : WrAt w base g bs) (hn : n ≤ 8) (hl : bs.length ≤ 1099511627776) :
    Calls Tryd.prog 48 #[.pointer (some ⟨g, 0, none⟩), .int .i64 v, .int .i64 n] w fun e w' => e = .returned (.tuple #[]) ∧ WrAt w' base g (bs ++ numB v n) ∧ Below base w w' ∧ KeptW w w' := by
  obtain ⟨i0, hi0, hz0, hz1, hz2⟩ := info_parts u8_info
  have HL := Lib.hid hl
  clear hl
  have HW := Lib.hid hw
  clear hw
  have W1 : IntKind.i64.wrap ((n : Int) - 1) = (n : Int) - 1 := IntWalk.i64_in _ (by omega)
  go_enter Tryd.func48, Tryd.ntmps48
  go_wp2_with fail
  go_loopw [2] (fun i wr => ∃ (k : Nat) (z : Int) (ws : List UInt8), k ≤ n ∧ i = .int .i64 z ∧ z = (k : Int) - 1 ∧ bs ++ numB v n = ws ++ numB v k ∧ Hid (WrAt wr base g ws) ∧ Below base w wr ∧ KeptW w wr) (fun i _ => (intOf i + 1).toNat)
  case atStart => exact ⟨n, _, bs, Nat.le_refl _, rfl, rfl, rfl, HW, Below.refl _ _, KeptW.refl _⟩
  case round =>
    obtain ⟨k, z, ws, hk, rfl, hz, he, HW1, hb, hkp⟩ := hrel
    have HE := Lib.hid he
    have HB := Lib.hid hb
    have HK := Lib.hid hkp
    clear he hb hkp
    cases k with
    | zero =>
      obtain rfl : z = -1 := by omega
      clear hz
      go_wp2_with fail
      go_end0
      exact ⟨rfl, by rw [HE.out, numB, List.append_nil]; exact HW1.out, HB.out, HK.out⟩
    | succ j =>
      obtain rfl : z = (j : Int) := by omega
      clear hz
      have hj8 : j < 8 := by omega
      have W2 : IntKind.i64.wrap (8 * (j : Int)) = 8 * (j : Int) := IntWalk.i64_in _ (by omega)
      have W3 : IntKind.i64.wrap ((j : Int) - 1) = (j : Int) - 1 := IntWalk.i64_in _ (by omega)
      have hj0 : (0 : Int) ≤ (j : Int) := by omega
      obtain ⟨e1, e2, rv, e3, e4⟩ := HW1.out
      have cr := e3.cell 0
      have fr := e3.frozen 0
      have HE1 := Lib.hid e1
      have HE3 := Lib.hid e3
      have HE4 := Lib.hid e4
      clear e1 e3 e4
      have SD : g < wr.heap.size ∧ wr.cell? ⟨g, 0, none⟩ = some rv ∧ wr.frozen? ⟨g, 0, none⟩ = false := ⟨HE3.out.lt, cr, fr⟩
      clear cr fr
      go_wp2_with fail
      have W4 : (8 * (j : Int)).toNat = 8 * j := by omega
      have W5 := wrap_u8 (v / 2 ^ (8 * j))
      have HL2 : ws.length + 1 ≤ 1099511627785 := by
        have h1 := congrArg List.length HE.out
        rw [List.length_append, List.length_append, numB_len, numB_len] at h1
        have := HL.out
        omega
      have SA := SD
      obtain ⟨s1, s2, s3⟩ := SA
      go_region_law ((refine step_append_lies _ (by rfl) _ _ _ (by rfl) base 5 i0 _ 1 1 Tryd.underlying43 hi0 hz0 hz1 hz2 rfl (by omega) rv ws.length (cellsB ws) (by rfl) (((HE4.out.alloc _).drew)) ⟨wr.heap.size, 0, none⟩ 1 1 [byV (byteOf (v / 2 ^ (8 * j)))] (by rfl) rfl (World.news_of_block (cs := #[byV (byteOf (v / 2 ^ (8 * j)))]) (t := 5) (fr := (0, 0)) (heap_alloc_new wr _)) (by simp [Value.oneCell']) (by omega) (by unfold maxLen; omega) (by omega) (by have := HE1.out; simp; omega) (wr.heap.size + 1) (by simp) ?_; intro gg cap w1 hown1 hgrow hat hlt; have SG := keepG hgrow (fun e => own_blk_ne HE4.out HE3.out (by decide) e.symm) (keepW SD); obtain ⟨s1, s2, s3⟩ := SG))
      all_goals
        obtain ⟨X1, X2, X3⟩ := WrAt.wrote (base := base) (g := g) (v := rv) (n := ws.length) (xs := cellsB ws) (ys := ws ++ [byteOf (v / 2 ^ (8 * j))]) (by simp; have := HE1.out; omega) e2 ((HE3.out.alloc _).drew) ((HE4.out.alloc _).drew) hgrow (by rw [cellsB_append]; exact hown1) (by simp) rfl
        have Y1 := Lib.hid X1
        have Y2 := Lib.hid (HB.out.trans (((below_new wr (.cells #[byV (byteOf (v / 2 ^ (8 * j)))] 5)).mono HE1.out).drew.trans X2))
        have Y3 := Lib.hid (HK.out.trans ((KeptW.alloc wr (.cells #[byV (byteOf (v / 2 ^ (8 * j)))] 5)).trans X3))
        clear X1 X2 X3
        go_wp2_with fail
        go_roundw
        case rel => exact ⟨j, _, ws ++ [byteOf (v / 2 ^ (8 * j))], by omega, rfl, rfl, by rw [HE.out, numB, List.append_assoc]; rfl, Y1, Y2.out, Y3.out⟩
        case measure => simp [intOf]
end Go.Proofs.YtiphicejaljhiaaDoor
