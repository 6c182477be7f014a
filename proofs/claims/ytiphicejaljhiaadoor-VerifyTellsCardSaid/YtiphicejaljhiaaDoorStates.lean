/- verify.states: all instructions' states. -/
import Derived.Test.YtiphicejaljhiaaDoorVerSt2
import Derived.Test.YtiphicejaljhiaaDoorStep
import Derived.Test.YtiphicejaljhiaaDoorVRef
import Derived.Test.YtiphicejaljhiaaDoorTab
import Derived.Deep.LoopGhost
namespace Go.Proofs.YtiphicejaljhiaaDoor
open Go.ChangeShapes Go.WideShapes Go.ChangeAt Go.RowKit
/-- The tables of verify: op.rows, verify.unknown. -/
structure VTab (w : World) : Prop where
  op : OpTab w
  un : TabAt w 3 [.int .i64 (-1), .int .i64 (-1)]
theorem VTab.lt {w : World} (h : VTab w) : 3 < w.heap.size := h.un.1
theorem VTab.below {B : Nat} {w w' : World} (h : VTab w) (hb : Below B w w') (hB : 3 < B) : VTab w' := ⟨h.op.below hb (by omega), h.un.below hb hB⟩
theorem VTab.next {w w' : World} (h : VTab w) (hb : Below w.heap.size w w') : VTab w' := h.below hb h.lt
theorem VTab.drew {w : World} (h : VTab w) : VTab w.drew := ⟨h.op, h.un⟩
theorem VTab.unk0 {w : World} (h : VTab w) : w.cell? ⟨3, 0, none⟩ = some (.int .i64 (-1)) := h.un.cell 0
theorem VTab.unk1 {w : World} (h : VTab w) : w.cell? ⟨3, 1, none⟩ = some (.int .i64 (-1)) := h.un.cell 1
theorem sta_info : (Tryd.prog.info? 122).map (fun i => (i.zero, i.size, i.bytes)) = some (some (.agg #[.int .i64 0, .int .i64 0]), 2, 16) := by kernel_rfl
theorem vMu_skip {L : List Sta} {x : Nxt} {D : List Nxt} {n : Nat} (h : vMu L (x :: D) ≤ n + 1) : vMu L D ≤ n := by
  unfold vMu at h ⊢
  simp only [List.length_cons] at h
  omega
theorem vMu_put {L : List Sta} {x : Nxt} {D : List Nxt} {n : Nat} {i : Ins} (h : vMu L (x :: D) ≤ n + 1) (hk : x.1.toNat < L.length) (hu : L.getD x.1.toNat unk = unk) (h4 : 0 ≤ x.2.2) : vMu (L.set x.1.toNat x.2) (D ++ vNews i x.1.toNat x.2) ≤ n := by
  have hc := set_count hk hu (ne_unk h4)
  have hnl := vNews_len i x.1.toNat x.2
  unfold vMu at h ⊢
  simp only [List.length_cons] at h
  rw [List.length_append]
  omega
theorem VerSt.drewN {w W : World} {g : Nat} {q : PrMem} {x : Fnv} {lv dv : Value} {L : List Sta} {D : List Nxt} (h : VerSt w W g q x lv dv L D) (n : Nat) : VerSt w (W.drewN n) g q x lv dv L D := ⟨below_drewN h.low n, h.chk, h.hl, h.hd⟩
theorem getD_at {L : List Sta} {k : Nat} (h : k < L.length) : L[k]? = some (L.getD k unk) := by
  rw [List.getD_eq_getElem?_getD, List.getElem?_eq_getElem h]; rfl
theorem code_at {L : List Ins} {k : Nat} (h : k < L.length) : L[k]? = some (L.getD k ⟨0, 0, 0⟩) := by
  rw [List.getD_eq_getElem?_getD, List.getElem?_eq_getElem h]; rfl
/-- What 'states' comes to. -/
def StPost (w : World) (g : Nat) (q : PrMem) (x : Fnv) (r : Option (List Sta)) (e : Ending) (W' : World) : Prop := e = .returned (.bool r.isSome) ∧ ∃ lv dv L D, VerSt w W' g q x lv dv L D ∧ ∀ R, r = some R → L = R
theorem StPost.no {w W' : World} {g : Nat} {q : PrMem} {x : Fnv} {r : Option (List Sta)} {lv dv : Value} {L : List Sta} {D : List Nxt} {e : Ending} (hr : r = none) (hv : VerSt w W' g q x lv dv L D) (he : e = .returned (.bool false)) : StPost w g q x r e W' :=
  ⟨by rw [he, hr]; rfl, lv, dv, L, D, hv, fun R h => by rw [hr] at h; cases h⟩
theorem StPost.yes {w W' : World} {g : Nat} {q : PrMem} {x : Fnv} {r : Option (List Sta)} {lv dv : Value} {L : List Sta} {D : List Nxt} {e : Ending} (hr : r = some L) (hv : VerSt w W' g q x lv dv L D) (he : e = .returned (.bool true)) : StPost w g q x r e W' :=
  ⟨by rw [he, hr]; rfl, lv, dv, L, D, hv, fun R h => by rw [hr] at h; exact Option.some.inj h⟩
theorem vRun_step (code : List Ins) (n : Nat) (L : List Sta) (x : Nxt) (D : List Nxt) : vRun code (n + 1) L (x :: D) =
    if vBad L.length x then none
    else if L.getD x.1.toNat unk = x.2 then vRun code n L D
    else if L.getD x.1.toNat unk ≠ unk then none
    else if vOk (code.getD x.1.toNat ⟨0, 0, 0⟩) x.2 then vRun code n (L.set x.1.toNat x.2) (D ++ vNews (code.getD x.1.toNat ⟨0, 0, 0⟩) x.1.toNat x.2)
    else none := by rw [vRun]
set_option maxRecDepth 100000 in
set_option maxHeartbeats 8000000 in
theorem c70 (g : Nat) (q : PrMem) (x : Fnv) (w W : World) (hv : VerSt w W g q x (.slice none 0 0) (.slice none 0 0) [] []) (ht : VTab w) (h3g : 3 < g) (hq : PrOk w g q) (hx : FnOk w g x) (hgood : ∀ i ∈ x.fn.code, insGood i = true) (hlen : 0 < x.fn.code.length ∧ x.fn.code.length ≤ 600) :
    Calls Tryd.prog 70 #[.pointer (some ⟨g, 0, none⟩)] W fun e W' => StPost w g q x (vStates q.pr x.fn) e W' := by
  obtain ⟨ti, hi0, hz0, hz1, hz2⟩ := info_parts sta_info
  have HV := Lib.hid hv
  have HTW := Lib.hid ht
  have HQ := Lib.hid hq
  have HX := Lib.hid hx
  have HG := Lib.hid hgood
  have n5 := hv.c5
  clear hv ht hq hx hgood
  obtain ⟨⟨lo, fr, cd⟩, xa, xc⟩ := x
  simp only at hlen n5 HG HX ⊢
  generalize hqp : q.pr = qp
  have HQP := Lib.hid hqp
  clear hqp
  go_enter Tryd.func70, Tryd.ntmps70
  go_wp2_with fail
  go_loopw [12] (fun i wr => ∃ (k : Nat) (lA : Option Addr) (lc : Nat), k ≤ cd.length ∧ i = .int .i64 k ∧ Hid ((cd.take k).all (vNames qp ⟨lo, fr, cd⟩) = true) ∧ Hid (VerSt w wr g q ⟨⟨lo, fr, cd⟩, xa, xc⟩ (.slice lA k lc) (.slice none 0 0) (List.replicate k unk) [])) (fun i _ => cd.length - (intOf i).toNat)
  case atStart => exact ⟨0, none, 0, by omega, rfl, Lib.hid rfl, HV⟩
  case round =>
    obtain ⟨k, lA, lc, hk, rfl, HA, HVr⟩ := hrel
    have hgr := HVr.out.chk.lt
    by_cases hlt : k < cd.length
    · have hl : (k : Int) < (cd.length : Int) := by omega
      obtain ⟨ad, e, adb, hcs⟩ := (HX.out.1.below HVr.out.low).insAt (List.getElem?_eq_getElem hlt)
      have hgi := HG.out _ (List.getElem_mem hlt)
      have hat := all_take1 (p := vNames qp ⟨lo, fr, cd⟩) hlt HA.out
      have han := all_not1 (p := vNames qp ⟨lo, fr, cd⟩) hlt
      generalize hin : cd[k] = i at hcs hgi hat han
      have HAT := Lib.hid hat
      have HAN := Lib.hid han
      clear hin hat han
      have HCS := Lib.hid hcs
      clear hcs
      simp only at e
      subst e
      have V2 := Lib.hid (HVr.out.alloc (.cells #[.int .i64 i.o, .int .i64 i.a, .int .i64 i.b] 23))
      go_wp2_with (refine wpList_load_at rfl 23 (.tmp 14) rfl (ad.add (k * 3)) rfl [.int .i64 i.o, .int .i64 i.a, .int .i64 i.b] _ HCS.out Tryd.underlying23 rfl (by kernel_rfl) ?_)
      refine (c71 g q ⟨⟨lo, fr, cd⟩, some ad, xc⟩ _ _ i g _ V2.out.chk (HQ.out.below V2.out.low) (Nat.le_of_lt V2.out.chk.lt) hgi (by unfold maxLen; show cd.length ≤ _; omega)).mono ?_
      rintro e w2 ⟨rfl, b2⟩
      rw [HQP.out]
      have E0 := Lib.hid (V2.out.next b2)
      clear b2 V2
      simp only
      cases hnm : vNames qp ⟨lo, fr, cd⟩ i
      · have HNM := Lib.hid (show vStates qp ⟨lo, fr, cd⟩ = none by
          unfold vStates
          rw [if_neg]
          rw [show (Fn.code ⟨lo, fr, cd⟩).all _ = false from HAN.out hnm]
          decide)
        clear hnm
        go_wp2_with fail
        go_ret
        exact StPost.no HNM.out E0.out (by simp)
      · have HNM := Lib.hid (HAT.out hnm)
        clear hnm
        go_wp2_with fail
        have E1 := E0.out.drew
        have E2 := (E0.out.alloc (.cells #[.int .i64 (-1), .int .i64 (-1)] 122)).drew
        have T1 := HTW.out.below E1.low h3g
        have T2 := HTW.out.below E2.low h3g
        have A1 : w2.drew.cell? ⟨g, 6, none⟩ = some (.slice lA k lc) ∧ w2.drew.cell? ⟨3, 0, none⟩ = some (.int .i64 (-1)) ∧ w2.drew.cell? ⟨3, 1, none⟩ = some (.int .i64 (-1)) := ⟨E1.c6, T1.unk0, T1.unk1⟩
        have A2 : (w2.alloc (.cells #[.int .i64 (-1), .int .i64 (-1)] 122)).drew.cell? ⟨g, 6, none⟩ = some (.slice lA k lc) ∧ (w2.alloc (.cells #[.int .i64 (-1), .int .i64 (-1)] 122)).drew.cell? ⟨3, 0, none⟩ = some (.int .i64 (-1)) ∧ (w2.alloc (.cells #[.int .i64 (-1), .int .i64 (-1)] 122)).drew.cell? ⟨3, 1, none⟩ = some (.int .i64 (-1)) := ⟨E2.c6, T2.unk0, T2.unk1⟩
        have hL := E0.out.hl
        rw [List.length_replicate] at hL
        have hg2 := E0.out.chk.lt
        refine wp_region_last (S := fun X => X.cell? ⟨g, 6, none⟩ = some (.slice lA k lc) ∧ X.cell? ⟨3, 0, none⟩ = some (.int .i64 (-1)) ∧ X.cell? ⟨3, 1, none⟩ = some (.int .i64 (-1))) 10 (by kernel_rfl) (by kernel_rfl) (by kernel_rfl) (by kernel_rfl) A1 (fun hHeld => ?_)
        refine wpAnyH_take (i := 0) (oi := ⟨some 20, _, _, _, _, _⟩) (v := ?_) rfl (by kernel_rfl) (by kernel_rfl) (by kernel_rfl) (fun _ _ _ h => h) (Or.inl ⟨by kernel_rfl, ?_⟩) (by assumption) ?_
        rotate_left
        · intro w hSw
          go_simp
          try with_reducible rfl
        try simp only [Act.put, List.setIfInBounds_toArray, List.set_cons_zero, List.set_cons_succ]
        refine wpAnyH_take (i := 1) (oi := ⟨some 21, _, _, _, _, _⟩) (v := ?_) rfl (by kernel_rfl) (by kernel_rfl) (by kernel_rfl) (fun _ _ _ h => h) (Or.inl ⟨by kernel_rfl, ?_⟩) (by assumption) ?_
        rotate_left
        · intro w hSw
          go_simp
          try with_reducible rfl
        try simp only [Act.put, List.setIfInBounds_toArray, List.set_cons_zero, List.set_cons_succ]
        refine wpAnyH_take (i := 2) (oi := ⟨some 22, _, _, _, _, _⟩) (v := ?_) rfl (by kernel_rfl) (by kernel_rfl) (by kernel_rfl) (fun _ _ _ h => h) (Or.inl ⟨by kernel_rfl, ?_⟩) (by assumption) ?_
        rotate_left
        · intro w hSw
          go_simp
          try with_reducible rfl
        try simp only [Act.put, List.setIfInBounds_toArray, List.set_cons_zero, List.set_cons_succ]
        refine wpAnyH_take (i := 3) (oi := ⟨some 23, _, _, _, _, _⟩) (v := ?_) rfl (by kernel_rfl) (by kernel_rfl) (by kernel_rfl) (fun _ _ _ h => h) (Or.inl ⟨by kernel_rfl, ?_⟩) (by assumption) ?_
        rotate_left
        · intro w hSw
          go_simp
          try with_reducible rfl
        try simp only [Act.put, List.setIfInBounds_toArray, List.set_cons_zero, List.set_cons_succ]
        refine wpAnyH_take (i := 4) (oi := ⟨some 24, _, _, _, _, _⟩) (v := ?_) rfl (by kernel_rfl) (by kernel_rfl) (by kernel_rfl) (fun _ _ _ h => h) (Or.inl ⟨by kernel_rfl, ?_⟩) (by assumption) ?_
        rotate_left
        · intro w hSw
          go_simp
          try with_reducible rfl
        try simp only [Act.put, List.setIfInBounds_toArray, List.set_cons_zero, List.set_cons_succ]
        refine wpAnyH_take (i := 5) (oi := ⟨some 25, _, _, _, _, _⟩) (v := ?_) rfl (by kernel_rfl) (by kernel_rfl) (by kernel_rfl) (fun _ _ _ h => h) (Or.inl ⟨by kernel_rfl, ?_⟩) (by assumption) ?_
        rotate_left
        · intro w hSw
          go_simp
          try with_reducible rfl
        try simp only [Act.put, List.setIfInBounds_toArray, List.set_cons_zero, List.set_cons_succ]
        refine wpAnyH_ready (rs := [6]) (by kernel_rfl) (by simp) ?_
        refine AllReadyH.cons (o := ⟨some 26, _, _, _, _, _⟩) rfl (fun K hK => ?_) AllReadyH.nil
        go_simp
        refine hK.out _ _ ?_ (fun hHeld => ?_)
        · exact A2
        clear hK K
        try simp only [Act.put, List.setIfInBounds_toArray, List.set_cons_zero, List.set_cons_succ]
        refine wpAnyH_ready (rs := [7]) (by kernel_rfl) (by simp) ?_
        refine AllReadyH.cons (o := ⟨some 27, _, _, _, _, _⟩) rfl (fun K hK => ?_) AllReadyH.nil
        refine step_append_any _ (by rfl) (.tmp 24) (.tmp 26) 118 (by rfl) (g + 1) 122 ti _ 2 16 Tryd.underlying118 hi0 hz0 hz1 hz2 rfl (by omega) (.slice lA k lc) k ((List.replicate k unk).flatMap stCells) (by rfl) ((hL.alloc _).drew) (w2.heap.size + 1) (some ⟨w2.heap.size, 0, none⟩) 1 1 [.int .i64 (-1), .int .i64 (-1)] (by rfl) (reads_blkN (vs := [.int .i64 (-1), .int .i64 (-1)]) ((Blk.new w2 122 #[.int .i64 (-1), .int .i64 (-1)]).drew) rfl) (by simp [Value.oneCell']) (by unfold maxLen; omega) (by omega) (by simp; omega) ?_
        intro v3 w3 hown3 hgrow3 hat3
        obtain ⟨a3, c3, rfl⟩ := own_form hown3
        have C3 := blk_row ((E2.chk)) (E2.hl) hgrow3 (by decide)
        have sc3 : w3.cell? ⟨g, 6, none⟩ = some (.slice lA k lc) := C3.cell 6
        have sf3 := C3.frozen 6
        have T3 := VTab.below (B := g) HTW.out (Below.grown E2.low hgrow3 (Nat.le_of_lt E2.chk.lt) (fun j e => by have := (E2.hl.lt j e).1; omega)) h3g
        have A3 : w3.cell? ⟨g, 6, none⟩ = some (.slice lA k lc) ∧ w3.cell? ⟨3, 0, none⟩ = some (.int .i64 (-1)) ∧ w3.cell? ⟨3, 1, none⟩ = some (.int .i64 (-1)) := ⟨sc3, T3.unk0, T3.unk1⟩
        refine hK.out _ _ ?_ (fun hHeld => ?_)
        · exact A3
        clear hK K
        try simp only [Act.put, List.setIfInBounds_toArray, List.set_cons_zero, List.set_cons_succ]
        refine wpAnyH_take (i := 8) (oi := ⟨some 28, _, _, _, _, _⟩) (v := ?_) rfl (by kernel_rfl) (by kernel_rfl) (by kernel_rfl) (fun _ _ _ h => h) (Or.inl ⟨by kernel_rfl, ?_⟩) (by assumption) ?_
        rotate_left
        · intro w hSw
          go_simp
          try with_reducible rfl
        try simp only [Act.put, List.setIfInBounds_toArray, List.set_cons_zero, List.set_cons_succ]
        refine wpAnyH_take (i := 9) (oi := ⟨some 29, _, _, _, _, _⟩) (v := ?_) rfl (by kernel_rfl) (by kernel_rfl) (by kernel_rfl) (fun _ _ _ h => h) (Or.inl ⟨by kernel_rfl, ?_⟩) (by assumption) ?_
        rotate_left
        · intro w hSw
          go_simp
          try with_reducible rfl
        try simp only [Act.put, List.setIfInBounds_toArray, List.set_cons_zero, List.set_cons_succ]
        refine wpAnyH_done (by kernel_rfl) ?_ _
        refine lastPost_run (o := ⟨none, _, _, _, _, _⟩) rfl (fun K hK => ?_)
        go_simp
        refine hK.out _ _ ?_
        clear hK K
        have V4 := E2.pushL (s := unk) hgrow3 (by rw [List.length_replicate]; exact hown3) rfl
        rw [← List.replicate_succ'] at V4
        have HV4 := Lib.hid V4
        clear V4 E1 E2 T1 T2 A1 A2 A3 C3 sc3 sf3 hown3 hgrow3 hL hat3
        go_wp2_with fail
        go_roundw
        case rel => exact ⟨k + 1, a3, c3, by omega, by go_num, HNM, HV4⟩
        case measure => simp [intOf]; omega
    · have hl : ¬ (k : Int) < (cd.length : Int) := by omega
      obtain rfl : k = cd.length := by omega
      have HALL := Lib.hid (show (Fn.code ⟨lo, fr, cd⟩).all (vNames qp ⟨lo, fr, cd⟩) = true by
        have h1 := HA.out
        rw [List.take_of_length_le (Nat.le_refl _)] at h1
        exact h1)
      clear HA
      have HRUN := Lib.hid (show vStates qp ⟨lo, fr, cd⟩ = vRun cd (3 * cd.length + 1) (List.replicate cd.length unk) [(0, (0, 0))] by
        unfold vStates
        rw [if_pos HALL.out])
      have VF := Lib.hid HVr.out.first
      have E1 := HVr.out.alloc (.cells #[.int .i64 0, .int .i64 0, .int .i64 0] 128)
      have f7 := E1.f7
      have c7 := E1.c7
      go_wp2_with fail
      clear E1 f7 c7
      go_loopg [] (3 * cd.length + 1) (fun gk wr => ∃ (lA : Option Addr) (lc : Nat) (dA : Option Addr) (dc : Nat) (L : List Sta) (D : List Nxt), Hid (VerSt w wr g q ⟨⟨lo, fr, cd⟩, xa, xc⟩ (.slice lA cd.length lc) (.slice dA D.length dc) L D) ∧ Hid (VInv cd L D) ∧ Hid (vStates qp ⟨lo, fr, cd⟩ = vRun cd gk L D) ∧ Hid (vMu L D ≤ gk) ∧ gk ≤ 3 * cd.length + 1)
      case atStart => exact ⟨lA, lc, some ⟨wr.heap.size, 0, none⟩, 1, List.replicate cd.length unk, [(0, (0, 0))], VF, Lib.hid (inv0 cd), HRUN, Lib.hid (by unfold vMu; rw [count_all]; simp; omega), Nat.le_refl _⟩
      clear VF HRUN
      case round =>
        obtain ⟨lA, lc, dA, dc, L, D, HV1, HI, HR, HM, hgk⟩ := hrel
        have HLL := Lib.hid HI.out.len
        have c7 := HV1.out.c7
        cases D with
        | nil =>
          have HS := Lib.hid (show vStates qp ⟨lo, fr, cd⟩ = some L by rw [HR.out]; cases gk <;> rfl)
          go_wp2_with fail
          go_ret
          exact StPost.yes HS.out HV1.out (by simp)
        | cons y D =>
          obtain ⟨n, rfl⟩ : ∃ n, gk = n + 1 := ⟨gk - 1, by have := HM.out; unfold vMu at this; simp only [List.length_cons] at this; omega⟩
          have h0 := HI.out.at0 y (by simp)
          obtain ⟨ad, e, adb, hcs⟩ := Reads.rowAt (f := nxCells) (m := 3) (fun _ => rfl) HV1.out.hd.reads (by decide) (show (y :: D)[0]? = some y from rfl)
          rw [Nat.zero_mul] at hcs
          subst e
          have hcap := HV1.out.hd.cap
          obtain ⟨yk, sh, st⟩ := y
          simp only at h0
          obtain ⟨k, rfl⟩ : ∃ k : Nat, yk = k := ⟨yk.toNat, by omega⟩
          have hcs' : ∀ j v, [Value.int .i64 (k : Int), .int .i64 sh, .int .i64 st][j]? = some v → wr.cell? (ad.add j) = some v := hcs
          have HCS := Lib.hid hcs'
          clear hcs hcs'
          simp only [List.length_cons] at c7 hcap
          unfold maxLen at hcap
          have hd0 : 0 < D.length + 1 := by omega
          have hd1 : (0 : Int) < (D.length : Int) + 1 := by omega
          have E1 := Lib.hid (HV1.out.alloc (.cells #[.int .i64 k, .int .i64 sh, .int .i64 st] 128))
          have f7 := E1.out.f7
          have c7' := E1.out.c7
          simp only [List.length_cons] at c7'
          have hgr := HV1.out.chk.lt
          have hX : ∀ v, Blk ((wr.setCell ⟨g, 7, none⟩ v).alloc (.cells #[.int .i64 k, .int .i64 sh, .int .i64 st] 128)) wr.heap.size 128 #[.int .i64 k, .int .i64 sh, .int .i64 st] := fun v => by
            have h1 := Blk.new (wr.setCell ⟨g, 7, none⟩ v) 128 #[.int .i64 (k : Int), .int .i64 sh, .int .i64 st]
            rw [World.size_setCell] at h1
            exact h1
          have hdc1 : 1 ≤ dc := by omega
          have hdci : (1 : Int) ≤ (dc : Int) := by omega
          have HXX := Lib.hid hX
          clear hX
          by_cases hdc : dc = 1
          · subst hdc
            obtain rfl : D = [] := List.eq_nil_of_length_eq_zero (by omega)
            simp only [List.length_nil, Nat.zero_add] at c7 c7' hcap
            have VP := Lib.hid (show VerSt w ((wr.setCell ⟨g, 7, none⟩ (.slice (some ad) 0 0)).alloc (.cells #[.int .i64 k, .int .i64 sh, .int .i64 st] 128)) g q ⟨⟨lo, fr, cd⟩, xa, xc⟩ (.slice lA cd.length lc) (.slice (some ad) 0 0) L [] from VerSt.alloc (VerSt.pop (A := some ad) (c := 1) HV1.out) _)
            go_wp2_with (refine wpList_load_at rfl 128 (.tmp 47) rfl ad rfl [.int .i64 k, .int .i64 sh, .int .i64 st] _ HCS.out Tryd.underlying128 rfl (by kernel_rfl) ?_)
            have X2 := HXX.out (.slice (some ad) 0 (0))
            generalize (wr.setCell ⟨g, 7, none⟩ (.slice (some ad) 0 (0))).alloc (.cells #[.int .i64 (k : Int), .int .i64 sh, .int .i64 st] 128) = u at VP X2 ⊢
            clear HCS E1 f7 c7 c7' HXX HV1
            have p6 := VP.out.c6
            have x0 := X2.cell 0
            have x1 := X2.cell 1
            have x2 := X2.cell 2
            by_cases c1 : cd.length ≤ k
            · have e1 : decide ((cd.length : Int) ≤ (k : Int)) = true := decide_eq_true (by omega)
              have HN := Lib.hid (show vStates qp ⟨lo, fr, cd⟩ = none by
                rw [HR.out, vRun_step, if_pos (by unfold vBad; exact decide_eq_true (by rw [HLL.out]; show (cd.length : Int) ≤ (k : Int) ∨ 100 < sh ∨ 10 < st ∨ st < 0; omega))])
              go_quiet (fail)
              go_wp2_with fail
              go_ret
              exact StPost.no HN.out (VP.out.drewN _) (by simp)
            have e1 : decide ((cd.length : Int) ≤ (k : Int)) = false := decide_eq_false (by omega)
            by_cases c2 : 100 < sh
            · have e2 : decide ((100 : Int) < sh) = true := decide_eq_true c2
              have HN := Lib.hid (show vStates qp ⟨lo, fr, cd⟩ = none by
                rw [HR.out, vRun_step, if_pos (by unfold vBad; exact decide_eq_true (by rw [HLL.out]; show (cd.length : Int) ≤ (k : Int) ∨ 100 < sh ∨ 10 < st ∨ st < 0; omega))])
              go_quiet (fail)
              go_wp2_with fail
              go_ret
              exact StPost.no HN.out (VP.out.drewN _) (by simp)
            have e2 : decide ((100 : Int) < sh) = false := decide_eq_false c2
            by_cases c3 : 10 < st
            · have e3 : decide ((10 : Int) < st) = true := decide_eq_true c3
              have HN := Lib.hid (show vStates qp ⟨lo, fr, cd⟩ = none by
                rw [HR.out, vRun_step, if_pos (by unfold vBad; exact decide_eq_true (by rw [HLL.out]; show (cd.length : Int) ≤ (k : Int) ∨ 100 < sh ∨ 10 < st ∨ st < 0; omega))])
              go_quiet (fail)
              go_wp2_with fail
              go_ret
              exact StPost.no HN.out (VP.out.drewN _) (by simp)
            have e3 : decide ((10 : Int) < st) = false := decide_eq_false c3
            by_cases c4 : st < 0
            · have e4 : decide (st < (0 : Int)) = true := decide_eq_true c4
              have HN := Lib.hid (show vStates qp ⟨lo, fr, cd⟩ = none by
                rw [HR.out, vRun_step, if_pos (by unfold vBad; exact decide_eq_true (by rw [HLL.out]; show (cd.length : Int) ≤ (k : Int) ∨ 100 < sh ∨ 10 < st ∨ st < 0; omega))])
              go_quiet (fail)
              go_wp2_with fail
              go_ret
              exact StPost.no HN.out (VP.out.drewN _) (by simp)
            have e4 : decide (st < (0 : Int)) = false := decide_eq_false c4
            have hkc : k < cd.length := by omega
            have hkL : k < L.length := by rw [HLL.out]; exact hkc
            have HBD := Lib.hid (show vBad L.length ((k : Int), (sh, st)) = false by unfold vBad; exact decide_eq_false (by rw [HLL.out]; show ¬ ((cd.length : Int) ≤ (k : Int) ∨ 100 < sh ∨ 10 < st ∨ st < 0); omega))
            clear c1
            obtain ⟨r, rfl⟩ : ∃ r, lA = some ⟨r, 0, none⟩ := by
              obtain ⟨r, cap, hv, _⟩ := VP.out.hl.form (by omega)
              injection hv with h1
              exact ⟨r, h1⟩
            have hgL := getD_at hkL
            generalize hsv : L.getD k unk = s' at hgL
            have HSV := Lib.hid hsv
            clear hsv
            obtain ⟨s1, s2⟩ := s'
            obtain ⟨a0, a1, af0, af1⟩ := VP.out.lcell0 hgL
            clear hgL
            simp only at a0 a1
            have hl2 : (k : Int) < (cd.length : Int) := by omega
            have hk0 : (0 : Int) ≤ (k : Int) := by omega
            have en := fun w => run_eq2 w 122 Tryd.underlying122 s1 s2 sh st
            go_quiet (fail)
            go_wp2_with fail
            by_cases he : s1 = sh ∧ s2 = st
            · have fe : (s1 == sh && s2 == st) = true := by simp [he.1, he.2]
              simp only [fe] at en
              have HE := Lib.hid (show L.getD ((k : Int), ((sh, st) : Sta)).1.toNat unk = ((k : Int), ((sh, st) : Sta)).2 by show L.getD k unk = (sh, st); rw [HSV.out, he.1, he.2])
              have HN := Lib.hid (show vStates qp ⟨lo, fr, cd⟩ = vRun cd n L ([] : List Nxt) by rw [HR.out, vRun_step, if_neg (by rw [HBD.out]; decide), if_pos HE.out])
              have HI2 := Lib.hid (HI.out.skip HBD.out HE.out)
              clear he fe
              go_quiet (fail)
              go_wp2_with fail
              go_roundg n
              case measure => omega
              case rel => exact ⟨some ⟨r, 0, none⟩, lc, some ad, 0, L, ([] : List Nxt), Lib.hid (VP.out.drewN _), HI2, HN, Lib.hid (vMu_skip HM.out), by omega⟩
            have fe : (s1 == sh && s2 == st) = false := by
              rw [Bool.eq_false_iff]
              intro hh
              simp at hh
              exact he hh
            simp only [fe] at en
            have HE := Lib.hid (show ¬ L.getD ((k : Int), ((sh, st) : Sta)).1.toNat unk = ((k : Int), ((sh, st) : Sta)).2 by
              show ¬ L.getD k unk = (sh, st)
              rw [HSV.out]
              intro hh
              injection hh with h1 h2
              exact he ⟨h1, h2⟩)
            clear he fe
            have T1 := HTW.out.below VP.out.low h3g
            have g0 := T1.unk0
            have g1 := T1.unk1
            have en2 := fun w => run_ne2 w 122 Tryd.underlying122 s1 s2 (-1) (-1)
            clear T1
            go_quiet (fail)
            go_wp2_with fail
            clear en
            by_cases hu : s1 = -1 ∧ s2 = -1
            case neg =>
              have fu : (s1 == -1 && s2 == -1) = false := by
                rw [Bool.eq_false_iff]
                intro hh
                simp at hh
                exact hu hh
              simp only [fu] at en2
              have HN := Lib.hid (show vStates qp ⟨lo, fr, cd⟩ = none by
                rw [HR.out, vRun_step, if_neg (by rw [HBD.out]; decide), if_neg HE.out, if_pos (by
                  show L.getD k unk ≠ unk
                  rw [HSV.out]
                  intro hh
                  injection hh with h1 h2
                  exact hu ⟨h1, h2⟩)])
              clear hu fu
              go_quiet (fail)
              go_wp2_with fail
              go_ret
              exact StPost.no HN.out ((VP.out.drewN _).drewN _) (by simp)
            have fu : (s1 == -1 && s2 == -1) = true := by simp [hu.1, hu.2]
            simp only [fu] at en2
            have HU := Lib.hid (show L.getD ((k : Int), ((sh, st) : Sta)).1.toNat unk = unk by show L.getD k unk = unk; rw [HSV.out, hu.1, hu.2]; rfl)
            obtain ⟨rfl, rfl⟩ := hu
            clear fu
            go_quiet (fail)
            go_wp2_with fail
            have VS := VP.out.setL0 hkL (sh, st)
            have hne : wr.heap.size ≠ r := by
              have h1 := own_blk_ne VP.out.hl X2 (by decide)
              intro h2
              apply h1
              rw [h2]
              rfl
            have X3 := (X2.far (p := ⟨r, k * 2, none⟩) hne (.int .i64 sh)).far (p := ⟨r, k * 2 + 1, none⟩) hne (.int .i64 st)
            have A1 : u.cell? ⟨g, 6, none⟩ = some (.slice (some ⟨r, 0, none⟩) cd.length lc) ∧ u.cell? ⟨wr.heap.size, 0, none⟩ = some (.int .i64 k) ∧ u.cell? ⟨wr.heap.size, 1, none⟩ = some (.int .i64 sh) ∧ u.cell? ⟨wr.heap.size, 2, none⟩ = some (.int .i64 st) := ⟨p6, x0, x1, x2⟩
            have A2 : ((u.setCell ⟨r, k * 2, none⟩ (.int .i64 sh)).setCell ⟨r, k * 2 + 1, none⟩ (.int .i64 st)).cell? ⟨g, 6, none⟩ = some (.slice (some ⟨r, 0, none⟩) cd.length lc) ∧ ((u.setCell ⟨r, k * 2, none⟩ (.int .i64 sh)).setCell ⟨r, k * 2 + 1, none⟩ (.int .i64 st)).cell? ⟨wr.heap.size, 0, none⟩ = some (.int .i64 k) ∧ ((u.setCell ⟨r, k * 2, none⟩ (.int .i64 sh)).setCell ⟨r, k * 2 + 1, none⟩ (.int .i64 st)).cell? ⟨wr.heap.size, 1, none⟩ = some (.int .i64 sh) ∧ ((u.setCell ⟨r, k * 2, none⟩ (.int .i64 sh)).setCell ⟨r, k * 2 + 1, none⟩ (.int .i64 st)).cell? ⟨wr.heap.size, 2, none⟩ = some (.int .i64 st) := ⟨VS.c6, X3.cell 0, X3.cell 1, X3.cell 2⟩
            have HVS := Lib.hid VS
            clear VS
            go_region_held3 (fun X => X.cell? ⟨g, 6, none⟩ = some (.slice (some ⟨r, 0, none⟩) cd.length lc) ∧ X.cell? ⟨wr.heap.size, 0, none⟩ = some (.int .i64 k) ∧ X.cell? ⟨wr.heap.size, 1, none⟩ = some (.int .i64 sh) ∧ X.cell? ⟨wr.heap.size, 2, none⟩ = some (.int .i64 st))
              (first | exact A1 | exact A2)
              (fail)
            clear A1 A2 p6 x0 x1 x2 a0 a1 af0 af1
            have y0 := X3.cell 0
            have y1 := X3.cell 1
            have y2 := X3.cell 2
            go_wp2_with fail
            have hdl : ([] : List Nxt).length ≤ 100000 := by
              have h1 := HM.out
              unfold vMu at h1
              simp only [List.length_cons] at h1
              omega
            have hgi := code_good HG.out hkc
            have hci := code_at hkc
            generalize hii : cd.getD k ⟨0, 0, 0⟩ = i at hgi hci
            have HII := Lib.hid hii
            clear hii
            have HC := Lib.hid (fun m => c72 g k q ⟨⟨lo, fr, cd⟩, xa, xc⟩ _ _ _ ([] : List Nxt) i (sh, st) w _ ((VP.out.drewN m).setL0 hkL (sh, st)) ((HTW.out.below ((VP.out.drewN m).setL0 hkL (sh, st)).low h3g).op) (HX.out.1.below ((VP.out.drewN m).setL0 hkL (sh, st)).low) hci (by rw [List.getElem?_set, if_pos rfl, if_pos hkL]) hgi ⟨h0.2, by show sh ≤ 100; omega, by show 0 ≤ st; omega, by show st ≤ 10; omega⟩ hlen.2 (by rw [List.length_set, HLL.out]; exact hlen.2) hdl)
            clear hgi hci HVS X2 X3 y0 y1 y2 en2
            refine (HC.out _).mono ?_
            rintro e w5 ⟨rfl, dv5, D5, hv5, hD5⟩
            obtain ⟨dA5, dc5, rfl⟩ := hv5.hd.form
            have HV5 := Lib.hid hv5
            have HD5 := Lib.hid hD5
            clear hv5 hD5 HC
            have HVR := Lib.hid (show vStates qp ⟨lo, fr, cd⟩ = if vOk i (sh, st) then vRun cd n (L.set k (sh, st)) (([] : List Nxt) ++ vNews i k (sh, st)) else none by
              rw [HR.out, vRun_step, if_neg (by rw [HBD.out]; decide), if_neg HE.out, if_neg (fun hh => hh HU.out), ← HII.out]
              rfl)
            cases hok : vOk i (sh, st)
            · have HN := Lib.hid (show vStates qp ⟨lo, fr, cd⟩ = none by rw [HVR.out, hok]; rfl)
              clear hok
              go_wp2_with fail
              go_ret
              exact StPost.no HN.out HV5.out (by simp)
            · have HDE := Lib.hid (HD5.out hok)
              have HN := Lib.hid (show vStates qp ⟨lo, fr, cd⟩ = vRun cd n (L.set k (sh, st)) D5 by rw [HVR.out, hok, HDE.out]; rfl)
              have HI5 := Lib.hid (show VInv cd (L.set k (sh, st)) D5 by
                rw [HDE.out, ← HII.out]
                exact HI.out.put HG.out HBD.out HU.out (by show vOk (cd.getD k ⟨0, 0, 0⟩) (sh, st) = true; rw [HII.out, hok]))
              have HM5 := Lib.hid (show vMu (L.set k (sh, st)) D5 ≤ n by
                rw [HDE.out]
                exact vMu_put (x := ((k : Int), (sh, st))) HM.out hkL HU.out (by show 0 ≤ st; omega))
              clear hok
              go_wp2_with fail
              go_roundg n
              case measure => omega
              case rel => exact ⟨some ⟨r, 0, none⟩, lc, dA5, dc5, L.set k (sh, st), D5, HV5, HI5, HN, HM5, by omega⟩
          · have VP := Lib.hid (show VerSt w ((wr.setCell ⟨g, 7, none⟩ (.slice (some ⟨ad.block, ad.off + 3, none⟩) D.length (dc - 1))).alloc (.cells #[.int .i64 k, .int .i64 sh, .int .i64 st] 128)) g q ⟨⟨lo, fr, cd⟩, xa, xc⟩ (.slice lA cd.length lc) (.slice (some ⟨ad.block, ad.off + 3, none⟩) D.length (dc - 1)) L D from by
              have h1 := VerSt.pop (A := some ad) (c := dc) HV1.out
              rw [if_neg hdc] at h1
              exact h1.alloc _)
            go_wp2_with (refine wpList_load_at rfl 128 (.tmp 47) rfl ad rfl [.int .i64 k, .int .i64 sh, .int .i64 st] _ HCS.out Tryd.underlying128 rfl (by kernel_rfl) ?_)
            have X2 := HXX.out (.slice (some ⟨ad.block, ad.off + 3, none⟩) D.length (dc - 1))
            generalize (wr.setCell ⟨g, 7, none⟩ (.slice (some ⟨ad.block, ad.off + 3, none⟩) D.length (dc - 1))).alloc (.cells #[.int .i64 (k : Int), .int .i64 sh, .int .i64 st] 128) = u at VP X2 ⊢
            clear HCS E1 f7 c7 c7' HXX HV1
            have p6 := VP.out.c6
            have x0 := X2.cell 0
            have x1 := X2.cell 1
            have x2 := X2.cell 2
            by_cases c1 : cd.length ≤ k
            · have e1 : decide ((cd.length : Int) ≤ (k : Int)) = true := decide_eq_true (by omega)
              have HN := Lib.hid (show vStates qp ⟨lo, fr, cd⟩ = none by
                rw [HR.out, vRun_step, if_pos (by unfold vBad; exact decide_eq_true (by rw [HLL.out]; show (cd.length : Int) ≤ (k : Int) ∨ 100 < sh ∨ 10 < st ∨ st < 0; omega))])
              go_quiet (fail)
              go_wp2_with fail
              go_ret
              exact StPost.no HN.out (VP.out.drewN _) (by simp)
            have e1 : decide ((cd.length : Int) ≤ (k : Int)) = false := decide_eq_false (by omega)
            by_cases c2 : 100 < sh
            · have e2 : decide ((100 : Int) < sh) = true := decide_eq_true c2
              have HN := Lib.hid (show vStates qp ⟨lo, fr, cd⟩ = none by
                rw [HR.out, vRun_step, if_pos (by unfold vBad; exact decide_eq_true (by rw [HLL.out]; show (cd.length : Int) ≤ (k : Int) ∨ 100 < sh ∨ 10 < st ∨ st < 0; omega))])
              go_quiet (fail)
              go_wp2_with fail
              go_ret
              exact StPost.no HN.out (VP.out.drewN _) (by simp)
            have e2 : decide ((100 : Int) < sh) = false := decide_eq_false c2
            by_cases c3 : 10 < st
            · have e3 : decide ((10 : Int) < st) = true := decide_eq_true c3
              have HN := Lib.hid (show vStates qp ⟨lo, fr, cd⟩ = none by
                rw [HR.out, vRun_step, if_pos (by unfold vBad; exact decide_eq_true (by rw [HLL.out]; show (cd.length : Int) ≤ (k : Int) ∨ 100 < sh ∨ 10 < st ∨ st < 0; omega))])
              go_quiet (fail)
              go_wp2_with fail
              go_ret
              exact StPost.no HN.out (VP.out.drewN _) (by simp)
            have e3 : decide ((10 : Int) < st) = false := decide_eq_false c3
            by_cases c4 : st < 0
            · have e4 : decide (st < (0 : Int)) = true := decide_eq_true c4
              have HN := Lib.hid (show vStates qp ⟨lo, fr, cd⟩ = none by
                rw [HR.out, vRun_step, if_pos (by unfold vBad; exact decide_eq_true (by rw [HLL.out]; show (cd.length : Int) ≤ (k : Int) ∨ 100 < sh ∨ 10 < st ∨ st < 0; omega))])
              go_quiet (fail)
              go_wp2_with fail
              go_ret
              exact StPost.no HN.out (VP.out.drewN _) (by simp)
            have e4 : decide (st < (0 : Int)) = false := decide_eq_false c4
            have hkc : k < cd.length := by omega
            have hkL : k < L.length := by rw [HLL.out]; exact hkc
            have HBD := Lib.hid (show vBad L.length ((k : Int), (sh, st)) = false by unfold vBad; exact decide_eq_false (by rw [HLL.out]; show ¬ ((cd.length : Int) ≤ (k : Int) ∨ 100 < sh ∨ 10 < st ∨ st < 0); omega))
            clear c1
            obtain ⟨r, rfl⟩ : ∃ r, lA = some ⟨r, 0, none⟩ := by
              obtain ⟨r, cap, hv, _⟩ := VP.out.hl.form (by omega)
              injection hv with h1
              exact ⟨r, h1⟩
            have hgL := getD_at hkL
            generalize hsv : L.getD k unk = s' at hgL
            have HSV := Lib.hid hsv
            clear hsv
            obtain ⟨s1, s2⟩ := s'
            obtain ⟨a0, a1, af0, af1⟩ := VP.out.lcell0 hgL
            clear hgL
            simp only at a0 a1
            have hl2 : (k : Int) < (cd.length : Int) := by omega
            have hk0 : (0 : Int) ≤ (k : Int) := by omega
            have en := fun w => run_eq2 w 122 Tryd.underlying122 s1 s2 sh st
            go_quiet (fail)
            go_wp2_with fail
            by_cases he : s1 = sh ∧ s2 = st
            · have fe : (s1 == sh && s2 == st) = true := by simp [he.1, he.2]
              simp only [fe] at en
              have HE := Lib.hid (show L.getD ((k : Int), ((sh, st) : Sta)).1.toNat unk = ((k : Int), ((sh, st) : Sta)).2 by show L.getD k unk = (sh, st); rw [HSV.out, he.1, he.2])
              have HN := Lib.hid (show vStates qp ⟨lo, fr, cd⟩ = vRun cd n L D by rw [HR.out, vRun_step, if_neg (by rw [HBD.out]; decide), if_pos HE.out])
              have HI2 := Lib.hid (HI.out.skip HBD.out HE.out)
              clear he fe
              go_quiet (fail)
              go_wp2_with fail
              go_roundg n
              case measure => omega
              case rel => exact ⟨some ⟨r, 0, none⟩, lc, some ⟨ad.block, ad.off + 3, none⟩, dc - 1, L, D, Lib.hid (VP.out.drewN _), HI2, HN, Lib.hid (vMu_skip HM.out), by omega⟩
            have fe : (s1 == sh && s2 == st) = false := by
              rw [Bool.eq_false_iff]
              intro hh
              simp at hh
              exact he hh
            simp only [fe] at en
            have HE := Lib.hid (show ¬ L.getD ((k : Int), ((sh, st) : Sta)).1.toNat unk = ((k : Int), ((sh, st) : Sta)).2 by
              show ¬ L.getD k unk = (sh, st)
              rw [HSV.out]
              intro hh
              injection hh with h1 h2
              exact he ⟨h1, h2⟩)
            clear he fe
            have T1 := HTW.out.below VP.out.low h3g
            have g0 := T1.unk0
            have g1 := T1.unk1
            have en2 := fun w => run_ne2 w 122 Tryd.underlying122 s1 s2 (-1) (-1)
            clear T1
            go_quiet (fail)
            go_wp2_with fail
            clear en
            by_cases hu : s1 = -1 ∧ s2 = -1
            case neg =>
              have fu : (s1 == -1 && s2 == -1) = false := by
                rw [Bool.eq_false_iff]
                intro hh
                simp at hh
                exact hu hh
              simp only [fu] at en2
              have HN := Lib.hid (show vStates qp ⟨lo, fr, cd⟩ = none by
                rw [HR.out, vRun_step, if_neg (by rw [HBD.out]; decide), if_neg HE.out, if_pos (by
                  show L.getD k unk ≠ unk
                  rw [HSV.out]
                  intro hh
                  injection hh with h1 h2
                  exact hu ⟨h1, h2⟩)])
              clear hu fu
              go_quiet (fail)
              go_wp2_with fail
              go_ret
              exact StPost.no HN.out ((VP.out.drewN _).drewN _) (by simp)
            have fu : (s1 == -1 && s2 == -1) = true := by simp [hu.1, hu.2]
            simp only [fu] at en2
            have HU := Lib.hid (show L.getD ((k : Int), ((sh, st) : Sta)).1.toNat unk = unk by show L.getD k unk = unk; rw [HSV.out, hu.1, hu.2]; rfl)
            obtain ⟨rfl, rfl⟩ := hu
            clear fu
            go_quiet (fail)
            go_wp2_with fail
            have VS := VP.out.setL0 hkL (sh, st)
            have hne : wr.heap.size ≠ r := by
              have h1 := own_blk_ne VP.out.hl X2 (by decide)
              intro h2
              apply h1
              rw [h2]
              rfl
            have X3 := (X2.far (p := ⟨r, k * 2, none⟩) hne (.int .i64 sh)).far (p := ⟨r, k * 2 + 1, none⟩) hne (.int .i64 st)
            have A1 : u.cell? ⟨g, 6, none⟩ = some (.slice (some ⟨r, 0, none⟩) cd.length lc) ∧ u.cell? ⟨wr.heap.size, 0, none⟩ = some (.int .i64 k) ∧ u.cell? ⟨wr.heap.size, 1, none⟩ = some (.int .i64 sh) ∧ u.cell? ⟨wr.heap.size, 2, none⟩ = some (.int .i64 st) := ⟨p6, x0, x1, x2⟩
            have A2 : ((u.setCell ⟨r, k * 2, none⟩ (.int .i64 sh)).setCell ⟨r, k * 2 + 1, none⟩ (.int .i64 st)).cell? ⟨g, 6, none⟩ = some (.slice (some ⟨r, 0, none⟩) cd.length lc) ∧ ((u.setCell ⟨r, k * 2, none⟩ (.int .i64 sh)).setCell ⟨r, k * 2 + 1, none⟩ (.int .i64 st)).cell? ⟨wr.heap.size, 0, none⟩ = some (.int .i64 k) ∧ ((u.setCell ⟨r, k * 2, none⟩ (.int .i64 sh)).setCell ⟨r, k * 2 + 1, none⟩ (.int .i64 st)).cell? ⟨wr.heap.size, 1, none⟩ = some (.int .i64 sh) ∧ ((u.setCell ⟨r, k * 2, none⟩ (.int .i64 sh)).setCell ⟨r, k * 2 + 1, none⟩ (.int .i64 st)).cell? ⟨wr.heap.size, 2, none⟩ = some (.int .i64 st) := ⟨VS.c6, X3.cell 0, X3.cell 1, X3.cell 2⟩
            have HVS := Lib.hid VS
            clear VS
            go_region_held3 (fun X => X.cell? ⟨g, 6, none⟩ = some (.slice (some ⟨r, 0, none⟩) cd.length lc) ∧ X.cell? ⟨wr.heap.size, 0, none⟩ = some (.int .i64 k) ∧ X.cell? ⟨wr.heap.size, 1, none⟩ = some (.int .i64 sh) ∧ X.cell? ⟨wr.heap.size, 2, none⟩ = some (.int .i64 st))
              (first | exact A1 | exact A2)
              (fail)
            clear A1 A2 p6 x0 x1 x2 a0 a1 af0 af1
            have y0 := X3.cell 0
            have y1 := X3.cell 1
            have y2 := X3.cell 2
            go_wp2_with fail
            have hdl : D.length ≤ 100000 := by
              have h1 := HM.out
              unfold vMu at h1
              simp only [List.length_cons] at h1
              omega
            have hgi := code_good HG.out hkc
            have hci := code_at hkc
            generalize hii : cd.getD k ⟨0, 0, 0⟩ = i at hgi hci
            have HII := Lib.hid hii
            clear hii
            have HC := Lib.hid (fun m => c72 g k q ⟨⟨lo, fr, cd⟩, xa, xc⟩ _ _ _ D i (sh, st) w _ ((VP.out.drewN m).setL0 hkL (sh, st)) ((HTW.out.below ((VP.out.drewN m).setL0 hkL (sh, st)).low h3g).op) (HX.out.1.below ((VP.out.drewN m).setL0 hkL (sh, st)).low) hci (by rw [List.getElem?_set, if_pos rfl, if_pos hkL]) hgi ⟨h0.2, by show sh ≤ 100; omega, by show 0 ≤ st; omega, by show st ≤ 10; omega⟩ hlen.2 (by rw [List.length_set, HLL.out]; exact hlen.2) hdl)
            clear hgi hci HVS X2 X3 y0 y1 y2 en2
            refine (HC.out _).mono ?_
            rintro e w5 ⟨rfl, dv5, D5, hv5, hD5⟩
            obtain ⟨dA5, dc5, rfl⟩ := hv5.hd.form
            have HV5 := Lib.hid hv5
            have HD5 := Lib.hid hD5
            clear hv5 hD5 HC
            have HVR := Lib.hid (show vStates qp ⟨lo, fr, cd⟩ = if vOk i (sh, st) then vRun cd n (L.set k (sh, st)) (D ++ vNews i k (sh, st)) else none by
              rw [HR.out, vRun_step, if_neg (by rw [HBD.out]; decide), if_neg HE.out, if_neg (fun hh => hh HU.out), ← HII.out]
              rfl)
            cases hok : vOk i (sh, st)
            · have HN := Lib.hid (show vStates qp ⟨lo, fr, cd⟩ = none by rw [HVR.out, hok]; rfl)
              clear hok
              go_wp2_with fail
              go_ret
              exact StPost.no HN.out HV5.out (by simp)
            · have HDE := Lib.hid (HD5.out hok)
              have HN := Lib.hid (show vStates qp ⟨lo, fr, cd⟩ = vRun cd n (L.set k (sh, st)) D5 by rw [HVR.out, hok, HDE.out]; rfl)
              have HI5 := Lib.hid (show VInv cd (L.set k (sh, st)) D5 by
                rw [HDE.out, ← HII.out]
                exact HI.out.put HG.out HBD.out HU.out (by show vOk (cd.getD k ⟨0, 0, 0⟩) (sh, st) = true; rw [HII.out, hok]))
              have HM5 := Lib.hid (show vMu (L.set k (sh, st)) D5 ≤ n by
                rw [HDE.out]
                exact vMu_put (x := ((k : Int), (sh, st))) HM.out hkL HU.out (by show 0 ≤ st; omega))
              clear hok
              go_wp2_with fail
              go_roundg n
              case measure => omega
              case rel => exact ⟨some ⟨r, 0, none⟩, lc, dA5, dc5, L.set k (sh, st), D5, HV5, HI5, HN, HM5, by omega⟩
end Go.Proofs.YtiphicejaljhiaaDoor
