/- Sendable; the law's One, Over; keep.OwnType. -/
import Derived.Test.YtcilodgpbdafeaaDoorTNormW
import Derived.Test.YtcilodgpbdafeaaDoorTBuild
namespace Go.Proofs.YtcilodgpbdafeaaDoor
open Go.ChangeShapes Go.WideShapes Go.ChangeAt Go.RowKit
set_option linter.unusedVariables false
set_option linter.unusedSimpArgs false
theorem own_new (w : World) {b n : Nat} {e : TypeId} {s : Nat} {xs : List Value} (hb : b ≤ w.heap.size) (hn : xs.length = n * s) (hm : n ≤ maxLen) :
    (w.alloc (.cells xs.toArray e)).ownsRow b e s (.slice (some ⟨w.heap.size, 0, none⟩) n n) n xs :=
  ⟨hn, .inr ⟨w.heap.size, n, xs.toArray, rfl, hb, heap_alloc_new w _, Nat.le_refl _, hm, by simpa using hn, by rw [List.take_of_length_le (by simp [hn])]⟩⟩
theorem part_one (p : Part) : ∀ u ∈ partC p, u.oneCell' = true := by simp [partC, Value.oneCell']
theorem parts_one (l : List Part) : ∀ u ∈ l.flatMap partC, u.oneCell' = true := fun u hu => by
  obtain ⟨p, _, h⟩ := List.mem_flatMap.1 hu
  exact part_one p u h
theorem reads_part (w : World) (p : Part) (b : Nat) (hb : w.heap.size = b) : Reads (w.alloc (.cells (partC p).toArray 29)) (b + 1) 5 (some ⟨b, 0, none⟩) 1 (partC p) := by
  subst hb
  exact reads_blkN (Blk.new w 29 _) rfl
theorem gSend_no {l : List Part} {k : Nat} {p : Part} (h : l[k]? = some p) (hs : stays p.k = true) : gSend l = false := by
  unfold gSend
  have : plainK l = false := by
    unfold plainK
    rw [List.all_eq_false]
    exact ⟨p, List.mem_of_getElem? h, by simp [hs]⟩
  rw [this]
  rfl
theorem plain_step {l : List Part} {k : Nat} {p : Part} (h : l[k]? = some p) (ht : plainK (l.take k) = true) (hs : stays p.k = false) : plainK (l.take (k + 1)) = true := by
  rw [take_succ_some h]
  unfold plainK at ht ⊢
  rw [List.all_append, ht]
  simp [hs]
set_option maxRecDepth 100000 in
set_option maxHeartbeats 4000000 in
theorem c14 (l : List Part) (A : Option Addr) (c : Nat) (W : World) (ha : RT W A l) (hl : l.length ≤ 3000) : Calls Tryd.prog 14 #[.slice A l.length c] W fun e W' => e = .returned (.bool (gSend l)) ∧ Below W.heap.size W W' := by
  have HA := Lib.hid ha
  clear ha
  go_enter Tryd.func14, Tryd.ntmps14
  go_wp2_with fail
  go_loopw [7] (fun i wr => ∃ k : Nat, k ≤ l.length ∧ i = .int .i64 k ∧ Below W.heap.size W wr ∧ plainK (l.take k) = true) (fun i _ => l.length - (intOf i).toNat)
  case atStart => exact ⟨0, by omega, rfl, Below.refl _ _, rfl⟩
  case round =>
    obtain ⟨k, hk, rfl, hb, hp⟩ := hrel
    have HB := Lib.hid hb
    have HP := Lib.hid hp
    clear hb hp
    by_cases hlt : k < l.length
    · have hlk : (k : Int) < (l.length : Int) := by omega
      have hk0 : (0 : Int) ≤ (k : Int) := by omega
      obtain ⟨ad, rfl, _, hcs⟩ := ((HA.out.next HB.out).partAt (List.getElem?_eq_getElem hlt))
      have hpk : l[k]? = some l[k] := List.getElem?_eq_getElem hlt
      generalize l[k] = p at hcs hpk
      have HCS := Lib.hid hcs
      have HPK := Lib.hid hpk
      clear hcs hpk
      have hbw := (HB.out.alloc HB.out.size (.cells (partC p).toArray 29))
      have HBW := Lib.hid hbw
      clear hbw
      cases hs : stays p.k with
      | true =>
        have HG := Lib.hid (gSend_no HPK.out hs)
        have hk4 : p.k = 11 ∨ p.k = 8 ∨ p.k = 9 ∨ p.k = 5 := by
          unfold stays at hs
          simp at hs
          omega
        clear hs
        obtain ⟨pk, pa, pb, pn, pt⟩ := p
        simp only at hk4
        rcases hk4 with rfl | rfl | rfl | rfl
        · go_wp2_with (first | (refine wpList_load_at rfl 29 (.tmp 9) rfl (ad.add (k * 5)) rfl [.int .i64 11, .int .i64 pa, .int .i64 pb, .int .i64 pn, strV pt] _ HCS.out Tryd.underlying29 rfl (by kernel_rfl) ?_))
          go_ret
          exact ⟨by rw [HG.out]; rfl, HBW.out⟩
        · go_wp2_with (first | (refine wpList_load_at rfl 29 (.tmp 9) rfl (ad.add (k * 5)) rfl [.int .i64 8, .int .i64 pa, .int .i64 pb, .int .i64 pn, strV pt] _ HCS.out Tryd.underlying29 rfl (by kernel_rfl) ?_))
          go_ret
          exact ⟨by rw [HG.out]; rfl, HBW.out⟩
        · go_wp2_with (first | (refine wpList_load_at rfl 29 (.tmp 9) rfl (ad.add (k * 5)) rfl [.int .i64 9, .int .i64 pa, .int .i64 pb, .int .i64 pn, strV pt] _ HCS.out Tryd.underlying29 rfl (by kernel_rfl) ?_))
          go_ret
          exact ⟨by rw [HG.out]; rfl, HBW.out⟩
        · go_wp2_with (first | (refine wpList_load_at rfl 29 (.tmp 9) rfl (ad.add (k * 5)) rfl [.int .i64 5, .int .i64 pa, .int .i64 pb, .int .i64 pn, strV pt] _ HCS.out Tryd.underlying29 rfl (by kernel_rfl) ?_))
          go_ret
          exact ⟨by rw [HG.out]; rfl, HBW.out⟩
      | false =>
        have HPl := Lib.hid (plain_step HPK.out HP.out hs)
        have hk4 : p.k ≠ 11 ∧ p.k ≠ 8 ∧ p.k ≠ 9 ∧ p.k ≠ 5 := by
          unfold stays at hs
          simp at hs
          omega
        have f11 : (p.k == 11) = false := beq_false_of_ne hk4.1
        have f8 : (p.k == 8) = false := beq_false_of_ne hk4.2.1
        have f9 : (p.k == 9) = false := beq_false_of_ne hk4.2.2.1
        have f5 : (p.k == 5) = false := beq_false_of_ne hk4.2.2.2
        clear hs hk4
        go_wp2_with (first | (refine wpList_load_at rfl 29 (.tmp 9) rfl (ad.add (k * 5)) rfl [.int .i64 p.k, .int .i64 p.a, .int .i64 p.b, .int .i64 p.n, strV p.t] _ HCS.out Tryd.underlying29 rfl (by kernel_rfl) ?_))
        go_roundw
        case rel => exact ⟨k + 1, by omega, by go_num, HBW.out, HPl.out⟩
        case measure => simp [intOf]; omega
    · have hkl : k = l.length := by omega
      subst hkl
      have hlk : ¬ ((l.length : Int) < (l.length : Int)) := by omega
      have HG := Lib.hid (show gSend l = gTy l by
        have h := HP.out
        rw [List.take_length] at h
        unfold gSend
        rw [h]
        rfl)
      go_wp2_with fail
      refine (c13 l A c wr.heap.size wr (HA.out.next HB.out) (Nat.le_refl _)).mono ?_
      rw [← HG.out]
      rintro e w2 ⟨rfl, hb2⟩
      have HB2 := Lib.hid (next_ HB.out hb2)
      clear hb2
      generalize hgs : gSend l = gs
      have HGS := Lib.hid hgs
      clear hgs
      go_wp2_with fail
      go_ret
      exact ⟨by rw [HGS.out]; rfl, HB2.out⟩
set_option maxRecDepth 100000 in
set_option maxHeartbeats 4000000 in
theorem c17 (k n : Int) (W : World) : Calls Tryd.prog 17 #[.int .i64 k, .int .i64 n] W fun e W' => ∃ v, e = .returned v ∧ TypeBack W W' v [⟨k, 0, 0, n, []⟩] := by
  go_enter Tryd.func17, Tryd.ntmps17
  go_wp2_with fail
  go_ret
  exact ⟨_, rfl, own_new W (xs := partC ⟨k, 0, 0, n, []⟩) (n := 1) (s := 5) (e := 29) (Nat.le_refl _) rfl (by unfold maxLen; decide), below_new W _⟩
set_option maxRecDepth 100000 in
set_option maxHeartbeats 4000000 in
theorem c19 (l : List Part) (A : Option Addr) (c : Nat) (W : World) (ha : RT W A l) (hl : l.length ≤ 3000) : Calls Tryd.prog 19 #[.slice A l.length c] W fun e W' => ∃ v, e = .returned v ∧ TypeBack W W' v l := by
  have HA := Lib.hid ha
  clear ha
  obtain ⟨i29, fi29, hz0, hz1, hz2⟩ := info_parts part_info
  have HO := Lib.hid (own_new W (xs := []) (n := 0) (s := 5) (e := 29) (b := W.heap.size) (Nat.le_refl _) rfl (by unfold maxLen; decide))
  have HR := Lib.hid (show Reads (W.alloc (.cells #[] 29)) W.heap.size 5 A l.length (l.flatMap partC) from Reads.alloc HA.out (Nat.le_refl _) _)
  go_enter Tryd.func19, Tryd.ntmps19
  go_wp2_with (at_builtin; refine wpList_append_any _ rfl (.tmp 3) (.tmp 4) 23 rfl W.heap.size 29 i29 _ 5 48 Tryd.underlying23 fi29 hz0 hz1 hz2 rfl (by omega) (.slice (some ⟨W.heap.size, 0, none⟩) 0 0) 0 [] rfl HO.out W.heap.size A l.length c (l.flatMap partC) rfl HR.out (parts_one l) (by unfold maxLen; omega) (by omega) (by rw [World.size_alloc]; omega) ?_; intro v1 w7 oA gA _)
  have HOA := Lib.hid oA
  have HGA := Lib.hid gA
  clear oA gA
  go_ret
  refine ⟨_, rfl, ?_, (below_new W _).grown HGA.out (by rw [World.size_alloc]; omega) (fun k e => by injection e with e; rw [← e]; exact Nat.le_refl _)⟩
  have h := HOA.out
  rw [Nat.zero_add, List.nil_append] at h
  exact h
set_option maxRecDepth 100000 in
set_option maxHeartbeats 4000000 in
theorem c12 (k : Int) (l : List Part) (A : Option Addr) (c : Nat) (W : World) (ha : RT W A l) (hl : l.length ≤ 3000) : Calls Tryd.prog 12 #[.int .i64 k, .slice A l.length c] W fun e W' => ∃ v, e = .returned v ∧ TypeBack W W' v (overL k l) := by
  have HA := Lib.hid ha
  clear ha
  obtain ⟨i29, fi29, hz0, hz1, hz2⟩ := info_parts part_info
  have HO := Lib.hid (own_new W (xs := []) (n := 0) (s := 5) (e := 29) (b := W.heap.size) (Nat.le_refl _) rfl (by unfold maxLen; decide))
  have HR := Lib.hid (show Reads (W.alloc (.cells #[] 29)) W.heap.size 5 A l.length (l.flatMap partC) from Reads.alloc HA.out (Nat.le_refl _) _)
  have H29 := Lib.hid (show i29.zero = some (.agg #[.int .i64 0, .int .i64 0, .int .i64 0, .int .i64 0, .string ⟨#[]⟩]) ∧ i29.size = 5 ∧ i29.bytes = 48 from ⟨hz0, hz1, hz2⟩)
  clear hz0 hz1 hz2
  go_enter Tryd.func12, Tryd.ntmps12
  go_wp2_with (first | (at_builtin; refine wpList_append_any _ rfl (.tmp 7) (.tmp 13) 23 rfl W.heap.size 29 i29 _ 5 48 Tryd.underlying23 fi29 H29.out.1 H29.out.2.1 H29.out.2.2 rfl (by omega) (.slice A1 l.length c1) l.length (l.flatMap partC) rfl (own_next oA (below_new _ _)) (w7.heap.size + 1) (some ⟨w7.heap.size, 0, none⟩) 1 1 (partC ⟨k, (l.length : Int) - 1, 0, 0, []⟩) rfl (reads_part w7 _ _ rfl) (part_one _) (by unfold maxLen; omega) (by omega) (by rw [World.size_alloc]; have := gA.size; rw [World.size_alloc] at this; omega) ?_; intro v2 w8 oB gB _) | (at_builtin; refine wpList_append_any _ rfl (.tmp 5) (.tmp 6) 23 rfl W.heap.size 29 i29 _ 5 48 Tryd.underlying23 fi29 H29.out.1 H29.out.2.1 H29.out.2.2 rfl (by omega) (.slice (some ⟨W.heap.size, 0, none⟩) 0 0) 0 [] rfl HO.out W.heap.size A l.length c (l.flatMap partC) rfl HR.out (parts_one l) (by unfold maxLen; omega) (by omega) (by rw [World.size_alloc]; omega) ?_; intro v1 w7 oA gA _; rw [Nat.zero_add, List.nil_append] at oA; obtain ⟨A1, c1, rfl⟩ := own_form oA))
  have HOB := Lib.hid oB
  have HGB := Lib.hid gB
  have HGA := Lib.hid gA
  have HOA := Lib.hid oA
  clear oA gA oB gB
  go_ret
  have hb7 : Below W.heap.size W w7 := (below_new W _).grown HGA.out (by rw [World.size_alloc]; omega) (fun k e => by injection e with e; rw [← e]; exact Nat.le_refl _)
  refine ⟨_, rfl, ?_, (hb7.alloc hb7.size _).grown HGB.out (by rw [World.size_alloc]; have := hb7.size; omega) (fun j e => own_base HOA.out j e)⟩
  unfold overL
  rw [List.length_append, List.flatMap_append, show [(⟨k, (l.length : Int) - 1, 0, 0, []⟩ : Part)].flatMap partC = partC ⟨k, (l.length : Int) - 1, 0, 0, []⟩ by simp]
  exact HOB.out
end Go.Proofs.YtcilodgpbdafeaaDoor
