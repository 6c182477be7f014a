/- scope.Check, of any tree. -/
import Derived.Test.YtphojigdapaaiaaDoorZBl
import Derived.Test.YtphojigdapaaiaaDoorZBe
import Derived.StillTailTactics
import Derived.Deep.QuietTactic
import Derived.BigQuiet
import Derived.Test.YtphojigdapaaiaaDoorSHp
namespace Go.Proofs.YtphojigdapaaiaaDoor
open Go.ChangeShapes Go.WideShapes Go.ChangeAt Go.RowKit
set_option linter.unusedVariables false
set_option linter.unusedSimpArgs false
theorem made_bools (n : Nat) : madeCells #[.bool false] (n * 1) = ((List.replicate n false).map boolV).toArray := by
  apply Array.ext
  · simp [madeCells]
  · intro i h1 h2
    simp [madeCells, boolV, Nat.mod_one]
theorem bool_info : (Tryd.prog.info? 4).map (fun i => (i.zero, i.size, i.bytes)) = some (some (.bool false), 1, 1) := by kernel_rfl
def marks0 (n : Nat) : Array Value := ((List.replicate n false).map boolV).toArray
theorem run_bools (n : Nat) (hn : n ≤ 3000) (w : World) : (Instr.makeSlice 39 (.int .i64 (n : Int)) (.int .i64 (n : Int))).run Tryd.prog w = .ok (.slice (some ⟨w.heap.size, 0, none⟩) n n) (w.alloc (.cells (marks0 n) 4)) := by
  obtain ⟨i3, fi3, iz0, iz1, iz2⟩ := info_parts bool_info
  have h := run_make (P := Tryd.prog) w 39 4 i3 _ Tryd.underlying39 fi3 iz0 .i64 .i64 n n (by omega) (by omega) (by rw [iz2]; omega) (by omega)
  rw [iz1] at h
  simp only [Int.toNat_natCast] at h
  rw [h]
  unfold marks0
  rw [← made_bools]
  rfl
def CheckEnd (tab : Nat → OpRow) (t : Tre) (w : World) (e : Ending) (w' : World) : Prop :=
  ∃ f : Int × Int, e = .returned (.agg #[.int .i64 f.1, .int .i64 f.2]) ∧ Below w.heap.size w w' ∧ (¬ (GoodN t ∧ AllX tab t) → f = (1, 0)) ∧ (GoodN t → AllX tab t → f = faultF t)
theorem first_idx {l : List Bool} {j : Nat} (h : ∀ i, i < j → l.getD i false = false) (hj : l[j]? = some true) : l.findIdx? id = some j := by
  rw [List.findIdx?_eq_some_iff_getElem]
  have hlt := (List.getElem?_eq_some_iff.1 hj).1
  refine ⟨hlt, (List.getElem?_eq_some_iff.1 hj).2, fun i hi => ?_⟩
  have h1 := h i hi
  have h2 : i < l.length := by omega
  rw [List.getD_eq_getElem?_getD, List.getElem?_eq_getElem h2] at h1
  simpa using h1
theorem none_idx {l : List Bool} (h : ∀ i, i < l.length → l.getD i false = false) : l.findIdx? id = none := by
  rw [List.findIdx?_eq_none_iff]
  intro b hb
  obtain ⟨i, hi⟩ := List.mem_iff_getElem?.1 hb
  have hlt := (List.getElem?_eq_some_iff.1 hi).1
  have h1 := h i hlt
  rw [List.getD_eq_getElem?_getD, hi] at h1
  exact h1
structure Mk (w d V : World) (xb rb : Nat) (A A' : Option Addr) (c c' : Nat) (t : Tre) : Prop where
  box : Blk V xb 25 #[.slice A t.l.length c, .slice A' t.y.length c', .int .i64 t.r]
  res : Blk V rb 36 #[.int .i64 0, .int .i64 0]
  low : Below w.heap.size w V
  far : Below d.heap.size d V
  tree : TreIs V A A' t
theorem Mk.next {w d V V' : World} {xb rb : Nat} {A A' : Option Addr} {c c' : Nat} {t : Tre} (h : Mk w d V xb rb A A' c c' t) (hb : Below V.heap.size V V') : Mk w d V' xb rb A A' c c' t :=
  ⟨h.box.next hb, h.res.next hb, next_ h.low hb, next_ h.far hb, h.tree.next hb⟩
set_option maxRecDepth 100000 in
set_option maxHeartbeats 8000000 in
theorem c15 {tab : Nat → OpRow} {t : Tre} {A A' : Option Addr} {c c' : Nat} (w : World) (hT : TreIs w A A' t) (hS : TabsX tab w) (hz : SmT t) :
    Calls Tryd.prog 15 #[treV A c A' c' t] w (CheckEnd tab t w) := by
  have hX := Blk.new w 25 #[.slice A t.l.length c, .slice A' t.y.length c', .int .i64 t.r]
  have hb0 := below_new w (.cells #[.slice A t.l.length c, .slice A' t.y.length c', .int .i64 t.r] 25)
  have hR := Blk.new (w.alloc (.cells #[.slice A t.l.length c, .slice A' t.y.length c', .int .i64 t.r] 25)) 36 #[.int .i64 0, .int .i64 0]
  have hb1 := below_new (w.alloc (.cells #[.slice A t.l.length c, .slice A' t.y.length c', .int .i64 t.r] 25)) (.cells #[.int .i64 0, .int .i64 0] 36)
  have HT := Lib.hid ((hT.next hb0).next hb1)
  have HS := Lib.hid ((hS.next hb0).next hb1)
  have HB0 := Lib.hid (next_ hb0 hb1)
  have HX := Lib.hid (hX.next hb1)
  have HR := Lib.hid hR
  have HRX := Lib.hid (show w.heap.size ≤ (w.alloc (.cells #[.slice A t.l.length c, .slice A' t.y.length c', .int .i64 t.r] 25)).heap.size from hb0.size)
  have HZ := Lib.hid hz
  clear hT hS hb0 hb1 hX hR hz
  show Calls Tryd.prog 15 #[.agg #[.slice A t.l.length c, .slice A' t.y.length c', .int .i64 t.r]] w _
  generalize hw1 : w.alloc (.cells #[.slice A t.l.length c, .slice A' t.y.length c', .int .i64 t.r] 25) = w1 at HT HS HB0 HX HR HRX
  generalize hw0 : w1.alloc (.cells #[.int .i64 0, .int .i64 0] 36) = w0 at HT HS HB0 HX HR
  go_enter Tryd.func15, Tryd.ntmps15
  go_upto_region 1 with fail
  clear hw1 hw0
  generalize w1.heap.size = rb at HR HRX ⊢
  generalize hxb : w.heap.size = xb at HX ⊢
  have HXB := Lib.hid hxb
  clear hxb
  have x0 : w0.cell? ⟨xb, 0, none⟩ = some (.slice A t.l.length c) := HX.out.cell 0
  have x1 : w0.cell? ⟨xb, 1, none⟩ = some (.slice A' t.y.length c') := HX.out.cell 1
  have x2 : w0.cell? ⟨xb, 2, none⟩ = some (.int .i64 t.r) := HX.out.cell 2
  go_wp2_with fail
  clear x0 x1 x2
  refine (show Calls Tryd.prog 10 #[.agg #[.slice A t.l.length c, .slice A' t.y.length c', .int .i64 t.r]] w0 _ from x10 t A A' c c' w0 HT.out HS.out HZ.out.l HZ.out.y HZ.out.x).mono ?_
  rintro e w2 ⟨b, rfl, hb1, hyes, hno⟩
  have HT1 := Lib.hid (HT.out.next hb1)
  have HX1 := Lib.hid (HX.out.next hb1)
  have HR1 := Lib.hid (HR.out.next hb1)
  have HB1 := Lib.hid (next_ HB0.out hb1)
  have HYES := Lib.hid hyes
  have HNO := Lib.hid hno
  clear hb1 hyes hno HT HX HR HB0 HS
  cases b with
  | false =>
    have r0 : w2.cell? ⟨rb, 0, none⟩ = some (.int .i64 0) := HR1.out.cell 0
    have r1 : w2.cell? ⟨rb, 1, none⟩ = some (.int .i64 0) := HR1.out.cell 1
    have f0 := HR1.out.frozen 0
    have f1 := HR1.out.frozen 1
    go_wp2_with fail
    exact bodyPost_ret (results_cell_row rfl _ _ _ 36 _ (0, 0) _ rfl (row2 HR1.out) Tryd.underlying36 rfl (by kernel_rfl)) rfl ⟨(1, 0), rfl, low2 HRX.out HB1.out, fun _ => rfl, fun h1 h2 => absurd (HNO.out h1 h2) (by decide)⟩
  | true =>
    obtain ⟨hgn, hax⟩ := HYES.out rfl
    have HGN := Lib.hid hgn
    have HAX := Lib.hid hax
    have HSH := Lib.hid (Shp.of hgn)
    clear hgn hax HYES HNO
    go_upto_region 3 with fail
    have HK0 := Lib.hid (show Mk w w2.drew w2.drew xb rb A A' c c' t from ⟨HX1.out, HR1.out, next_ HB1.out ((Below.refl _ _).drew), Below.refl _ _, HT1.out.next ((Below.refl w2.heap.size w2).drew)⟩)
    refine wp_region_held_drew (S := fun V => V.cell? ⟨xb, 0, none⟩ = some (.slice A t.l.length c) ∧ V.cell? ⟨xb, 1, none⟩ = some (.slice A' t.y.length c') ∧ V.cell? ⟨xb, 2, none⟩ = some (.int .i64 t.r)) (by kernel_rfl) ⟨HK0.out.box.cell 0, HK0.out.box.cell 1, HK0.out.box.cell 2⟩ (fun hHeld => ?_)
    clear HX1 HR1 HT1 HB1
    have HRD := Lib.hid (show rb < w2.drew.heap.size ∧ xb < w2.drew.heap.size from ⟨HK0.out.res.lt, HK0.out.box.lt⟩)
    have HTD := Lib.hid HK0.out.tree
    have HWD := Lib.hid (show w.heap.size ≤ w2.drew.heap.size from HK0.out.low.size)
    generalize w2.drew = d at HK0 hHeld HRD HTD HWD ⊢
    obtain ⟨lo, hlo⟩ : ∃ z, z = d.heap.size := ⟨_, rfl⟩
    have HLO := Lib.hid hlo
    clear hlo
    apply cutT (F := fun (pb cb bb g : Nat) (V : World) => Ak d g pb cb bb A A' c c' t (conMap t) (fun _ => 0) (List.replicate t.l.length false) V ∧ Mk w d V xb rb A A' c c' t ∧ lo ≤ pb ∧ lo ≤ bb)
    case h =>
      intro key
      have KEY := Lib.hid key
      clear key
      refine tkH 0 10 ?_ rfl ?_ ?_
      rotate_left
      · rintro V ⟨s0, s1, s2⟩; go_simp; try with_reducible rfl
      try simp only [Act.put, sLA, sL0, sL1]
      refine tkH 1 11 ?_ rfl ?_ ?_
      rotate_left
      · rintro V ⟨s0, s1, s2⟩; go_simp; try with_reducible rfl
      try simp only [Act.put, sLA, sL0, sL1]
      refine tkH 2 12 ?_ rfl ?_ ?_
      rotate_left
      · rintro V ⟨s0, s1, s2⟩; go_simp; try with_reducible rfl
      try simp only [Act.put, sLA, sL0, sL1]
      refine tkH 3 13 ?_ rfl ?_ ?_
      rotate_left
      · rintro V ⟨s0, s1, s2⟩; go_simp; try with_reducible rfl
      try simp only [Act.put, sLA, sL0, sL1]
      refine tkH 5 15 ?_ rfl ?_ ?_
      rotate_left
      · rintro V ⟨s0, s1, s2⟩; go_simp; try with_reducible rfl
      try simp only [Act.put, sLA, sL0, sL1]
      have hmk := @run_makeMap Tryd.prog
      have hms := run_bools t.l.length (by have := HSH.out.len; omega)
      refine wpAnyH_ready (rs := [4, 6, 7]) (by kernel_rfl) (by simp) ?_
      refine AllReadyH.cons (o := ⟨some 14, _, _, _, _, _⟩) rfl (fun K hK => ?_) (AllReadyH.cons (o := ⟨some 16, _, _, _, _, _⟩) rfl (fun K hK => ?_) (AllReadyH.cons (o := ⟨some 17, _, _, _, _, _⟩) rfl (fun K hK => ?_) AllReadyH.nil))
      · have hb : Below d.heap.size d (d.alloc (.cells (marks0 t.l.length) 4)) := (Below.refl _ _).alloc (Nat.le_refl _) _
        have HK1 := Lib.hid (HK0.out.next hb)
        have HP1 := Lib.hid (show Blk (d.alloc (.cells (marks0 t.l.length) 4)) d.heap.size 4 (marks0 t.l.length) from Blk.new _ _ _)
        have HPL := Lib.hid (show lo ≤ d.heap.size from by have := HLO.out; have := HK0.out.far.size; omega)
        clear hb  
        go_simp
        refine hK.out _ _ ?_ (fun hHeld => ?_)
        · exact ⟨HK1.out.box.cell 0, HK1.out.box.cell 1, HK1.out.box.cell 2⟩
        clear hK K
        generalize d.alloc (.cells (marks0 t.l.length) 4) = V1 at HK1 HP1  hHeld ⊢
        generalize d.heap.size = pb at HP1 HPL ⊢
        try simp only [Act.put, sLA, sL0, sL1]
        refine wpAnyH_ready (rs := [6, 7]) (by kernel_rfl) (by simp) ?_
        refine AllReadyH.cons (o := ⟨some 16, _, _, _, _, _⟩) rfl (fun K hK => ?_) (AllReadyH.cons (o := ⟨some 17, _, _, _, _, _⟩) rfl (fun K hK => ?_) AllReadyH.nil)
        · go_simp
          refine (show Calls Tryd.prog 26 #[.agg #[.slice A t.l.length c, .slice A' t.y.length c', .int .i64 t.r]] V1 _ from c26 (A := A) (A' := A') (c := c) (c' := c') HSH.out V1 HK1.out.tree HZ.out.y).mono ?_
          rintro e V2 ⟨cb, rfl, hm, hle, hb⟩
          have HK2 := Lib.hid (HK1.out.next hb)
          have HC2 := Lib.hid hm
          have HP2 := Lib.hid (HP1.out.next hb)
          have HCL := Lib.hid (show lo ≤ cb from by have := HLO.out; have := HK1.out.far.size; omega)
          clear hm hle hb HK1 HP1
          go_wp2_with fail
          refine hK.out _ _ ?_ (fun hHeld => ?_)
          · exact ⟨HK2.out.box.cell 0, HK2.out.box.cell 1, HK2.out.box.cell 2⟩
          clear hK K
          try simp only [Act.put, sLA, sL0, sL1]
          refine wpAnyH_ready (rs := [7]) (by kernel_rfl) (by simp) ?_
          refine AllReadyH.cons (o := ⟨some 17, _, _, _, _, _⟩) rfl (fun K hK => ?_) AllReadyH.nil
          · have hb : Below V2.heap.size V2 (V2.alloc (.map #[] 0)) := (Below.refl _ _).alloc (Nat.le_refl _) _
            have HK3 := Lib.hid (HK2.out.next hb)
            have HP3 := Lib.hid (HP2.out.next hb)
            have HC3 := Lib.hid (HC2.out.next hb)
            have HM3 := Lib.hid (show SMap (V2.alloc (.map #[] 0)) V2.heap.size (fun _ => none) from SMap.made _)
            have HML := Lib.hid (show lo ≤ V2.heap.size from by have := HLO.out; have := HK2.out.far.size; omega)
            have HNE := Lib.hid (show cb ≠ V2.heap.size from by have := HC2.out.lt; omega)
            clear hb HK2 HP2 HC2
            go_simp
            refine hK.out _ _ ?_ (fun hHeld => ?_)
            · exact ⟨HK3.out.box.cell 0, HK3.out.box.cell 1, HK3.out.box.cell 2⟩
            clear hK K
            generalize V2.alloc (.map #[] 0) = V3 at HK3 HM3 HP3 HC3 hHeld ⊢
            generalize V2.heap.size = bb at HM3 HML HNE ⊢
            try simp only [Act.put, sLA, sL0, sL1]
            refine tkH 8 18 ?_ rfl ?_ ?_
            rotate_left
            · rintro V ⟨s0, s1, s2⟩; go_simp; try with_reducible rfl
            try simp only [Act.put, sLA, sL0, sL1]
            have hb := below_new V3 (.cells #[.slice A t.l.length c, .slice A' t.y.length c', .int .i64 t.r, .slice (some ⟨pb, 0, none⟩) t.l.length t.l.length, .map (some cb), .map (some bb)] 67)
            have HG := Lib.hid (Blk.new V3 67 #[.slice A t.l.length c, .slice A' t.y.length c', .int .i64 t.r, .slice (some ⟨pb, 0, none⟩) t.l.length t.l.length, .map (some cb), .map (some bb)])
            have HK4 := Lib.hid (HK3.out.next hb)
            have HP4 := Lib.hid (HP3.out.next hb)
            have HC4 := Lib.hid (HC3.out.next hb)
            have HM4 := Lib.hid (HM3.out.next hb)
            have HGL := Lib.hid (show lo ≤ V3.heap.size from by have := HLO.out; have := HK3.out.far.size; omega)
            clear hb HK3 HP3 HC3 HM3
            refine wpAnyH_ready (rs := [9]) (by kernel_rfl) (by simp) ?_
            refine AllReadyH.cons (o := ⟨some 19, _, _, _, _, _⟩) rfl (fun K hK => ?_) AllReadyH.nil
            go_simp
            refine hK.out _ _ ?_ (fun hHeld => ?_)
            · exact ⟨HK4.out.box.cell 0, HK4.out.box.cell 1, HK4.out.box.cell 2⟩
            clear hK K hmk hms
            generalize V3.alloc (.cells #[.slice A t.l.length c, .slice A' t.y.length c', .int .i64 t.r, .slice (some ⟨pb, 0, none⟩) t.l.length t.l.length, .map (some cb), .map (some bb)] 67) = V4 at HG HK4 HP4 HC4 HM4 hHeld ⊢
            generalize V3.heap.size = g at HG HGL ⊢
            try simp only [Act.put, sLA, sL0, sL1]
            refine tkH 10 3 ?_ rfl ?_ ?_
            rotate_left
            · rintro V ⟨s0, s1, s2⟩; go_simp; try with_reducible rfl
            try simp only [Act.put, sLA, sL0, sL1]
            refine wpAnyH_done (by kernel_rfl) ?_ _
            have HAK := Lib.hid (show Ak d g pb cb bb A A' c c' t (conMap t) (fun _ => 0) (List.replicate t.l.length false) V4 from ⟨HG.out, HP4.out, List.length_replicate, HC4.out, ⟨_, HM4.out, fun s => rfl⟩, HK4.out.far, by have := HLO.out; have := HGL.out; omega, by have := HLO.out; have := HPL.out; omega, by have := HLO.out; have := HCL.out; omega, by have := HLO.out; have := HML.out; omega, HNE.out, HTD.out⟩)
            clear HG HP4 HC4 HM4 hHeld
            exact KEY.out pb cb bb g V4 ⟨HAK.out, HK4.out, HPL.out, HML.out⟩
        · have hb : Below V1.heap.size V1 (V1.alloc (.map #[] 0)) := (Below.refl _ _).alloc (Nat.le_refl _) _
          have HK2 := Lib.hid (HK1.out.next hb)
          have HP2 := Lib.hid (HP1.out.next hb)
          have HM2 := Lib.hid (show SMap (V1.alloc (.map #[] 0)) V1.heap.size (fun _ => none) from SMap.made _)
          have HML := Lib.hid (show lo ≤ V1.heap.size from by have := HLO.out; have := HK1.out.far.size; omega)
          clear hb HK1 HP1
          go_simp
          refine hK.out _ _ ?_ (fun hHeld => ?_)
          · exact ⟨HK2.out.box.cell 0, HK2.out.box.cell 1, HK2.out.box.cell 2⟩
          clear hK K
          generalize V1.alloc (.map #[] 0) = V2 at HK2 HM2 HP2 hHeld ⊢
          generalize V1.heap.size = bb at HM2 HML ⊢
          try simp only [Act.put, sLA, sL0, sL1]
          refine wpAnyH_ready (rs := [6]) (by kernel_rfl) (by simp) ?_
          refine AllReadyH.cons (o := ⟨some 16, _, _, _, _, _⟩) rfl (fun K hK => ?_) AllReadyH.nil
          · go_simp
            refine (show Calls Tryd.prog 26 #[.agg #[.slice A t.l.length c, .slice A' t.y.length c', .int .i64 t.r]] V2 _ from c26 (A := A) (A' := A') (c := c) (c' := c') HSH.out V2 HK2.out.tree HZ.out.y).mono ?_
            rintro e V3 ⟨cb, rfl, hm, hle, hb⟩
            have HK3 := Lib.hid (HK2.out.next hb)
            have HC3 := Lib.hid hm
            have HP3 := Lib.hid (HP2.out.next hb)
            have HM3 := Lib.hid (HM2.out.next hb)
            have HCL := Lib.hid (show lo ≤ cb from by have := HLO.out; have := HK2.out.far.size; omega)
            have HNE := Lib.hid (show cb ≠ bb from by have := HM2.out.lt; omega)
            clear hm hle hb HK2 HP2 HM2
            go_wp2_with fail
            refine hK.out _ _ ?_ (fun hHeld => ?_)
            · exact ⟨HK3.out.box.cell 0, HK3.out.box.cell 1, HK3.out.box.cell 2⟩
            clear hK K
            try simp only [Act.put, sLA, sL0, sL1]
            refine tkH 8 18 ?_ rfl ?_ ?_
            rotate_left
            · rintro V ⟨s0, s1, s2⟩; go_simp; try with_reducible rfl
            try simp only [Act.put, sLA, sL0, sL1]
            have hb := below_new V3 (.cells #[.slice A t.l.length c, .slice A' t.y.length c', .int .i64 t.r, .slice (some ⟨pb, 0, none⟩) t.l.length t.l.length, .map (some cb), .map (some bb)] 67)
            have HG := Lib.hid (Blk.new V3 67 #[.slice A t.l.length c, .slice A' t.y.length c', .int .i64 t.r, .slice (some ⟨pb, 0, none⟩) t.l.length t.l.length, .map (some cb), .map (some bb)])
            have HK4 := Lib.hid (HK3.out.next hb)
            have HP4 := Lib.hid (HP3.out.next hb)
            have HC4 := Lib.hid (HC3.out.next hb)
            have HM4 := Lib.hid (HM3.out.next hb)
            have HGL := Lib.hid (show lo ≤ V3.heap.size from by have := HLO.out; have := HK3.out.far.size; omega)
            clear hb HK3 HP3 HC3 HM3
            refine wpAnyH_ready (rs := [9]) (by kernel_rfl) (by simp) ?_
            refine AllReadyH.cons (o := ⟨some 19, _, _, _, _, _⟩) rfl (fun K hK => ?_) AllReadyH.nil
            go_simp
            refine hK.out _ _ ?_ (fun hHeld => ?_)
            · exact ⟨HK4.out.box.cell 0, HK4.out.box.cell 1, HK4.out.box.cell 2⟩
            clear hK K hmk hms
            generalize V3.alloc (.cells #[.slice A t.l.length c, .slice A' t.y.length c', .int .i64 t.r, .slice (some ⟨pb, 0, none⟩) t.l.length t.l.length, .map (some cb), .map (some bb)] 67) = V4 at HG HK4 HP4 HC4 HM4 hHeld ⊢
            generalize V3.heap.size = g at HG HGL ⊢
            try simp only [Act.put, sLA, sL0, sL1]
            refine tkH 10 3 ?_ rfl ?_ ?_
            rotate_left
            · rintro V ⟨s0, s1, s2⟩; go_simp; try with_reducible rfl
            try simp only [Act.put, sLA, sL0, sL1]
            refine wpAnyH_done (by kernel_rfl) ?_ _
            have HAK := Lib.hid (show Ak d g pb cb bb A A' c c' t (conMap t) (fun _ => 0) (List.replicate t.l.length false) V4 from ⟨HG.out, HP4.out, List.length_replicate, HC4.out, ⟨_, HM4.out, fun s => rfl⟩, HK4.out.far, by have := HLO.out; have := HGL.out; omega, by have := HLO.out; have := HPL.out; omega, by have := HLO.out; have := HCL.out; omega, by have := HLO.out; have := HML.out; omega, HNE.out, HTD.out⟩)
            clear HG HP4 HC4 HM4 hHeld
            exact KEY.out pb cb bb g V4 ⟨HAK.out, HK4.out, HPL.out, HML.out⟩
      · go_simp
        refine (show Calls Tryd.prog 26 #[.agg #[.slice A t.l.length c, .slice A' t.y.length c', .int .i64 t.r]] d _ from c26 (A := A) (A' := A') (c := c) (c' := c') HSH.out d HK0.out.tree HZ.out.y).mono ?_
        rintro e V1 ⟨cb, rfl, hm, hle, hb⟩
        have HK1 := Lib.hid (HK0.out.next hb)
        have HC1 := Lib.hid hm
        have HCL := Lib.hid (show lo ≤ cb from by have := HLO.out; have := HK0.out.far.size; omega)
        clear hm hle hb  
        go_wp2_with fail
        refine hK.out _ _ ?_ (fun hHeld => ?_)
        · exact ⟨HK1.out.box.cell 0, HK1.out.box.cell 1, HK1.out.box.cell 2⟩
        clear hK K
        try simp only [Act.put, sLA, sL0, sL1]
        refine wpAnyH_ready (rs := [4, 7]) (by kernel_rfl) (by simp) ?_
        refine AllReadyH.cons (o := ⟨some 14, _, _, _, _, _⟩) rfl (fun K hK => ?_) (AllReadyH.cons (o := ⟨some 17, _, _, _, _, _⟩) rfl (fun K hK => ?_) AllReadyH.nil)
        · have hb : Below V1.heap.size V1 (V1.alloc (.cells (marks0 t.l.length) 4)) := (Below.refl _ _).alloc (Nat.le_refl _) _
          have HK2 := Lib.hid (HK1.out.next hb)
          have HC2 := Lib.hid (HC1.out.next hb)
          have HP2 := Lib.hid (show Blk (V1.alloc (.cells (marks0 t.l.length) 4)) V1.heap.size 4 (marks0 t.l.length) from Blk.new _ _ _)
          have HPL := Lib.hid (show lo ≤ V1.heap.size from by have := HLO.out; have := HK1.out.far.size; omega)
          clear hb HK1 HC1
          go_simp
          refine hK.out _ _ ?_ (fun hHeld => ?_)
          · exact ⟨HK2.out.box.cell 0, HK2.out.box.cell 1, HK2.out.box.cell 2⟩
          clear hK K
          generalize V1.alloc (.cells (marks0 t.l.length) 4) = V2 at HK2 HP2 HC2 hHeld ⊢
          generalize V1.heap.size = pb at HP2 HPL ⊢
          try simp only [Act.put, sLA, sL0, sL1]
          refine wpAnyH_ready (rs := [7]) (by kernel_rfl) (by simp) ?_
          refine AllReadyH.cons (o := ⟨some 17, _, _, _, _, _⟩) rfl (fun K hK => ?_) AllReadyH.nil
          · have hb : Below V2.heap.size V2 (V2.alloc (.map #[] 0)) := (Below.refl _ _).alloc (Nat.le_refl _) _
            have HK3 := Lib.hid (HK2.out.next hb)
            have HC3 := Lib.hid (HC2.out.next hb)
            have HP3 := Lib.hid (HP2.out.next hb)
            have HM3 := Lib.hid (show SMap (V2.alloc (.map #[] 0)) V2.heap.size (fun _ => none) from SMap.made _)
            have HML := Lib.hid (show lo ≤ V2.heap.size from by have := HLO.out; have := HK2.out.far.size; omega)
            have HNE := Lib.hid (show cb ≠ V2.heap.size from by have := HC2.out.lt; omega)
            clear hb HK2 HC2 HP2
            go_simp
            refine hK.out _ _ ?_ (fun hHeld => ?_)
            · exact ⟨HK3.out.box.cell 0, HK3.out.box.cell 1, HK3.out.box.cell 2⟩
            clear hK K
            generalize V2.alloc (.map #[] 0) = V3 at HK3 HM3 HC3 HP3 hHeld ⊢
            generalize V2.heap.size = bb at HM3 HML HNE ⊢
            try simp only [Act.put, sLA, sL0, sL1]
            refine tkH 8 18 ?_ rfl ?_ ?_
            rotate_left
            · rintro V ⟨s0, s1, s2⟩; go_simp; try with_reducible rfl
            try simp only [Act.put, sLA, sL0, sL1]
            have hb := below_new V3 (.cells #[.slice A t.l.length c, .slice A' t.y.length c', .int .i64 t.r, .slice (some ⟨pb, 0, none⟩) t.l.length t.l.length, .map (some cb), .map (some bb)] 67)
            have HG := Lib.hid (Blk.new V3 67 #[.slice A t.l.length c, .slice A' t.y.length c', .int .i64 t.r, .slice (some ⟨pb, 0, none⟩) t.l.length t.l.length, .map (some cb), .map (some bb)])
            have HK4 := Lib.hid (HK3.out.next hb)
            have HP4 := Lib.hid (HP3.out.next hb)
            have HC4 := Lib.hid (HC3.out.next hb)
            have HM4 := Lib.hid (HM3.out.next hb)
            have HGL := Lib.hid (show lo ≤ V3.heap.size from by have := HLO.out; have := HK3.out.far.size; omega)
            clear hb HK3 HP3 HC3 HM3
            refine wpAnyH_ready (rs := [9]) (by kernel_rfl) (by simp) ?_
            refine AllReadyH.cons (o := ⟨some 19, _, _, _, _, _⟩) rfl (fun K hK => ?_) AllReadyH.nil
            go_simp
            refine hK.out _ _ ?_ (fun hHeld => ?_)
            · exact ⟨HK4.out.box.cell 0, HK4.out.box.cell 1, HK4.out.box.cell 2⟩
            clear hK K hmk hms
            generalize V3.alloc (.cells #[.slice A t.l.length c, .slice A' t.y.length c', .int .i64 t.r, .slice (some ⟨pb, 0, none⟩) t.l.length t.l.length, .map (some cb), .map (some bb)] 67) = V4 at HG HK4 HP4 HC4 HM4 hHeld ⊢
            generalize V3.heap.size = g at HG HGL ⊢
            try simp only [Act.put, sLA, sL0, sL1]
            refine tkH 10 3 ?_ rfl ?_ ?_
            rotate_left
            · rintro V ⟨s0, s1, s2⟩; go_simp; try with_reducible rfl
            try simp only [Act.put, sLA, sL0, sL1]
            refine wpAnyH_done (by kernel_rfl) ?_ _
            have HAK := Lib.hid (show Ak d g pb cb bb A A' c c' t (conMap t) (fun _ => 0) (List.replicate t.l.length false) V4 from ⟨HG.out, HP4.out, List.length_replicate, HC4.out, ⟨_, HM4.out, fun s => rfl⟩, HK4.out.far, by have := HLO.out; have := HGL.out; omega, by have := HLO.out; have := HPL.out; omega, by have := HLO.out; have := HCL.out; omega, by have := HLO.out; have := HML.out; omega, HNE.out, HTD.out⟩)
            clear HG HP4 HC4 HM4 hHeld
            exact KEY.out pb cb bb g V4 ⟨HAK.out, HK4.out, HPL.out, HML.out⟩
        · have hb : Below V1.heap.size V1 (V1.alloc (.map #[] 0)) := (Below.refl _ _).alloc (Nat.le_refl _) _
          have HK2 := Lib.hid (HK1.out.next hb)
          have HC2 := Lib.hid (HC1.out.next hb)
          have HM2 := Lib.hid (show SMap (V1.alloc (.map #[] 0)) V1.heap.size (fun _ => none) from SMap.made _)
          have HML := Lib.hid (show lo ≤ V1.heap.size from by have := HLO.out; have := HK1.out.far.size; omega)
          have HNE := Lib.hid (show cb ≠ V1.heap.size from by have := HC1.out.lt; omega)
          clear hb HK1 HC1
          go_simp
          refine hK.out _ _ ?_ (fun hHeld => ?_)
          · exact ⟨HK2.out.box.cell 0, HK2.out.box.cell 1, HK2.out.box.cell 2⟩
          clear hK K
          generalize V1.alloc (.map #[] 0) = V2 at HK2 HM2 HC2 hHeld ⊢
          generalize V1.heap.size = bb at HM2 HML HNE ⊢
          try simp only [Act.put, sLA, sL0, sL1]
          refine wpAnyH_ready (rs := [4]) (by kernel_rfl) (by simp) ?_
          refine AllReadyH.cons (o := ⟨some 14, _, _, _, _, _⟩) rfl (fun K hK => ?_) AllReadyH.nil
          · have hb : Below V2.heap.size V2 (V2.alloc (.cells (marks0 t.l.length) 4)) := (Below.refl _ _).alloc (Nat.le_refl _) _
            have HK3 := Lib.hid (HK2.out.next hb)
            have HC3 := Lib.hid (HC2.out.next hb)
            have HM3 := Lib.hid (HM2.out.next hb)
            have HP3 := Lib.hid (show Blk (V2.alloc (.cells (marks0 t.l.length) 4)) V2.heap.size 4 (marks0 t.l.length) from Blk.new _ _ _)
            have HPL := Lib.hid (show lo ≤ V2.heap.size from by have := HLO.out; have := HK2.out.far.size; omega)
            clear hb HK2 HC2 HM2
            go_simp
            refine hK.out _ _ ?_ (fun hHeld => ?_)
            · exact ⟨HK3.out.box.cell 0, HK3.out.box.cell 1, HK3.out.box.cell 2⟩
            clear hK K
            generalize V2.alloc (.cells (marks0 t.l.length) 4) = V3 at HK3 HP3 HC3 HM3 hHeld ⊢
            generalize V2.heap.size = pb at HP3 HPL ⊢
            try simp only [Act.put, sLA, sL0, sL1]
            refine tkH 8 18 ?_ rfl ?_ ?_
            rotate_left
            · rintro V ⟨s0, s1, s2⟩; go_simp; try with_reducible rfl
            try simp only [Act.put, sLA, sL0, sL1]
            have hb := below_new V3 (.cells #[.slice A t.l.length c, .slice A' t.y.length c', .int .i64 t.r, .slice (some ⟨pb, 0, none⟩) t.l.length t.l.length, .map (some cb), .map (some bb)] 67)
            have HG := Lib.hid (Blk.new V3 67 #[.slice A t.l.length c, .slice A' t.y.length c', .int .i64 t.r, .slice (some ⟨pb, 0, none⟩) t.l.length t.l.length, .map (some cb), .map (some bb)])
            have HK4 := Lib.hid (HK3.out.next hb)
            have HP4 := Lib.hid (HP3.out.next hb)
            have HC4 := Lib.hid (HC3.out.next hb)
            have HM4 := Lib.hid (HM3.out.next hb)
            have HGL := Lib.hid (show lo ≤ V3.heap.size from by have := HLO.out; have := HK3.out.far.size; omega)
            clear hb HK3 HP3 HC3 HM3
            refine wpAnyH_ready (rs := [9]) (by kernel_rfl) (by simp) ?_
            refine AllReadyH.cons (o := ⟨some 19, _, _, _, _, _⟩) rfl (fun K hK => ?_) AllReadyH.nil
            go_simp
            refine hK.out _ _ ?_ (fun hHeld => ?_)
            · exact ⟨HK4.out.box.cell 0, HK4.out.box.cell 1, HK4.out.box.cell 2⟩
            clear hK K hmk hms
            generalize V3.alloc (.cells #[.slice A t.l.length c, .slice A' t.y.length c', .int .i64 t.r, .slice (some ⟨pb, 0, none⟩) t.l.length t.l.length, .map (some cb), .map (some bb)] 67) = V4 at HG HK4 HP4 HC4 HM4 hHeld ⊢
            generalize V3.heap.size = g at HG HGL ⊢
            try simp only [Act.put, sLA, sL0, sL1]
            refine tkH 10 3 ?_ rfl ?_ ?_
            rotate_left
            · rintro V ⟨s0, s1, s2⟩; go_simp; try with_reducible rfl
            try simp only [Act.put, sLA, sL0, sL1]
            refine wpAnyH_done (by kernel_rfl) ?_ _
            have HAK := Lib.hid (show Ak d g pb cb bb A A' c c' t (conMap t) (fun _ => 0) (List.replicate t.l.length false) V4 from ⟨HG.out, HP4.out, List.length_replicate, HC4.out, ⟨_, HM4.out, fun s => rfl⟩, HK4.out.far, by have := HLO.out; have := HGL.out; omega, by have := HLO.out; have := HPL.out; omega, by have := HLO.out; have := HCL.out; omega, by have := HLO.out; have := HML.out; omega, HNE.out, HTD.out⟩)
            clear HG HP4 HC4 HM4 hHeld
            exact KEY.out pb cb bb g V4 ⟨HAK.out, HK4.out, HPL.out, HML.out⟩
      · have hb : Below d.heap.size d (d.alloc (.map #[] 0)) := (Below.refl _ _).alloc (Nat.le_refl _) _
        have HK1 := Lib.hid (HK0.out.next hb)
        have HM1 := Lib.hid (show SMap (d.alloc (.map #[] 0)) d.heap.size (fun _ => none) from SMap.made _)
        have HML := Lib.hid (show lo ≤ d.heap.size from by have := HLO.out; have := HK0.out.far.size; omega)
        clear hb  
        go_simp
        refine hK.out _ _ ?_ (fun hHeld => ?_)
        · exact ⟨HK1.out.box.cell 0, HK1.out.box.cell 1, HK1.out.box.cell 2⟩
        clear hK K
        generalize d.alloc (.map #[] 0) = V1 at HK1 HM1  hHeld ⊢
        generalize d.heap.size = bb at HM1 HML ⊢
        try simp only [Act.put, sLA, sL0, sL1]
        refine wpAnyH_ready (rs := [4, 6]) (by kernel_rfl) (by simp) ?_
        refine AllReadyH.cons (o := ⟨some 14, _, _, _, _, _⟩) rfl (fun K hK => ?_) (AllReadyH.cons (o := ⟨some 16, _, _, _, _, _⟩) rfl (fun K hK => ?_) AllReadyH.nil)
        · have hb : Below V1.heap.size V1 (V1.alloc (.cells (marks0 t.l.length) 4)) := (Below.refl _ _).alloc (Nat.le_refl _) _
          have HK2 := Lib.hid (HK1.out.next hb)
          have HM2 := Lib.hid (HM1.out.next hb)
          have HP2 := Lib.hid (show Blk (V1.alloc (.cells (marks0 t.l.length) 4)) V1.heap.size 4 (marks0 t.l.length) from Blk.new _ _ _)
          have HPL := Lib.hid (show lo ≤ V1.heap.size from by have := HLO.out; have := HK1.out.far.size; omega)
          clear hb HK1 HM1
          go_simp
          refine hK.out _ _ ?_ (fun hHeld => ?_)
          · exact ⟨HK2.out.box.cell 0, HK2.out.box.cell 1, HK2.out.box.cell 2⟩
          clear hK K
          generalize V1.alloc (.cells (marks0 t.l.length) 4) = V2 at HK2 HP2 HM2 hHeld ⊢
          generalize V1.heap.size = pb at HP2 HPL ⊢
          try simp only [Act.put, sLA, sL0, sL1]
          refine wpAnyH_ready (rs := [6]) (by kernel_rfl) (by simp) ?_
          refine AllReadyH.cons (o := ⟨some 16, _, _, _, _, _⟩) rfl (fun K hK => ?_) AllReadyH.nil
          · go_simp
            refine (show Calls Tryd.prog 26 #[.agg #[.slice A t.l.length c, .slice A' t.y.length c', .int .i64 t.r]] V2 _ from c26 (A := A) (A' := A') (c := c) (c' := c') HSH.out V2 HK2.out.tree HZ.out.y).mono ?_
            rintro e V3 ⟨cb, rfl, hm, hle, hb⟩
            have HK3 := Lib.hid (HK2.out.next hb)
            have HC3 := Lib.hid hm
            have HM3 := Lib.hid (HM2.out.next hb)
            have HP3 := Lib.hid (HP2.out.next hb)
            have HCL := Lib.hid (show lo ≤ cb from by have := HLO.out; have := HK2.out.far.size; omega)
            have HNE := Lib.hid (show cb ≠ bb from by have := HM2.out.lt; omega)
            clear hm hle hb HK2 HM2 HP2
            go_wp2_with fail
            refine hK.out _ _ ?_ (fun hHeld => ?_)
            · exact ⟨HK3.out.box.cell 0, HK3.out.box.cell 1, HK3.out.box.cell 2⟩
            clear hK K
            try simp only [Act.put, sLA, sL0, sL1]
            refine tkH 8 18 ?_ rfl ?_ ?_
            rotate_left
            · rintro V ⟨s0, s1, s2⟩; go_simp; try with_reducible rfl
            try simp only [Act.put, sLA, sL0, sL1]
            have hb := below_new V3 (.cells #[.slice A t.l.length c, .slice A' t.y.length c', .int .i64 t.r, .slice (some ⟨pb, 0, none⟩) t.l.length t.l.length, .map (some cb), .map (some bb)] 67)
            have HG := Lib.hid (Blk.new V3 67 #[.slice A t.l.length c, .slice A' t.y.length c', .int .i64 t.r, .slice (some ⟨pb, 0, none⟩) t.l.length t.l.length, .map (some cb), .map (some bb)])
            have HK4 := Lib.hid (HK3.out.next hb)
            have HP4 := Lib.hid (HP3.out.next hb)
            have HC4 := Lib.hid (HC3.out.next hb)
            have HM4 := Lib.hid (HM3.out.next hb)
            have HGL := Lib.hid (show lo ≤ V3.heap.size from by have := HLO.out; have := HK3.out.far.size; omega)
            clear hb HK3 HP3 HC3 HM3
            refine wpAnyH_ready (rs := [9]) (by kernel_rfl) (by simp) ?_
            refine AllReadyH.cons (o := ⟨some 19, _, _, _, _, _⟩) rfl (fun K hK => ?_) AllReadyH.nil
            go_simp
            refine hK.out _ _ ?_ (fun hHeld => ?_)
            · exact ⟨HK4.out.box.cell 0, HK4.out.box.cell 1, HK4.out.box.cell 2⟩
            clear hK K hmk hms
            generalize V3.alloc (.cells #[.slice A t.l.length c, .slice A' t.y.length c', .int .i64 t.r, .slice (some ⟨pb, 0, none⟩) t.l.length t.l.length, .map (some cb), .map (some bb)] 67) = V4 at HG HK4 HP4 HC4 HM4 hHeld ⊢
            generalize V3.heap.size = g at HG HGL ⊢
            try simp only [Act.put, sLA, sL0, sL1]
            refine tkH 10 3 ?_ rfl ?_ ?_
            rotate_left
            · rintro V ⟨s0, s1, s2⟩; go_simp; try with_reducible rfl
            try simp only [Act.put, sLA, sL0, sL1]
            refine wpAnyH_done (by kernel_rfl) ?_ _
            have HAK := Lib.hid (show Ak d g pb cb bb A A' c c' t (conMap t) (fun _ => 0) (List.replicate t.l.length false) V4 from ⟨HG.out, HP4.out, List.length_replicate, HC4.out, ⟨_, HM4.out, fun s => rfl⟩, HK4.out.far, by have := HLO.out; have := HGL.out; omega, by have := HLO.out; have := HPL.out; omega, by have := HLO.out; have := HCL.out; omega, by have := HLO.out; have := HML.out; omega, HNE.out, HTD.out⟩)
            clear HG HP4 HC4 HM4 hHeld
            exact KEY.out pb cb bb g V4 ⟨HAK.out, HK4.out, HPL.out, HML.out⟩
        · go_simp
          refine (show Calls Tryd.prog 26 #[.agg #[.slice A t.l.length c, .slice A' t.y.length c', .int .i64 t.r]] V1 _ from c26 (A := A) (A' := A') (c := c) (c' := c') HSH.out V1 HK1.out.tree HZ.out.y).mono ?_
          rintro e V2 ⟨cb, rfl, hm, hle, hb⟩
          have HK2 := Lib.hid (HK1.out.next hb)
          have HC2 := Lib.hid hm
          have HM2 := Lib.hid (HM1.out.next hb)
          have HCL := Lib.hid (show lo ≤ cb from by have := HLO.out; have := HK1.out.far.size; omega)
          have HNE := Lib.hid (show cb ≠ bb from by have := HM1.out.lt; omega)
          clear hm hle hb HK1 HM1
          go_wp2_with fail
          refine hK.out _ _ ?_ (fun hHeld => ?_)
          · exact ⟨HK2.out.box.cell 0, HK2.out.box.cell 1, HK2.out.box.cell 2⟩
          clear hK K
          try simp only [Act.put, sLA, sL0, sL1]
          refine wpAnyH_ready (rs := [4]) (by kernel_rfl) (by simp) ?_
          refine AllReadyH.cons (o := ⟨some 14, _, _, _, _, _⟩) rfl (fun K hK => ?_) AllReadyH.nil
          · have hb : Below V2.heap.size V2 (V2.alloc (.cells (marks0 t.l.length) 4)) := (Below.refl _ _).alloc (Nat.le_refl _) _
            have HK3 := Lib.hid (HK2.out.next hb)
            have HM3 := Lib.hid (HM2.out.next hb)
            have HC3 := Lib.hid (HC2.out.next hb)
            have HP3 := Lib.hid (show Blk (V2.alloc (.cells (marks0 t.l.length) 4)) V2.heap.size 4 (marks0 t.l.length) from Blk.new _ _ _)
            have HPL := Lib.hid (show lo ≤ V2.heap.size from by have := HLO.out; have := HK2.out.far.size; omega)
            clear hb HK2 HM2 HC2
            go_simp
            refine hK.out _ _ ?_ (fun hHeld => ?_)
            · exact ⟨HK3.out.box.cell 0, HK3.out.box.cell 1, HK3.out.box.cell 2⟩
            clear hK K
            generalize V2.alloc (.cells (marks0 t.l.length) 4) = V3 at HK3 HP3 HM3 HC3 hHeld ⊢
            generalize V2.heap.size = pb at HP3 HPL ⊢
            try simp only [Act.put, sLA, sL0, sL1]
            refine tkH 8 18 ?_ rfl ?_ ?_
            rotate_left
            · rintro V ⟨s0, s1, s2⟩; go_simp; try with_reducible rfl
            try simp only [Act.put, sLA, sL0, sL1]
            have hb := below_new V3 (.cells #[.slice A t.l.length c, .slice A' t.y.length c', .int .i64 t.r, .slice (some ⟨pb, 0, none⟩) t.l.length t.l.length, .map (some cb), .map (some bb)] 67)
            have HG := Lib.hid (Blk.new V3 67 #[.slice A t.l.length c, .slice A' t.y.length c', .int .i64 t.r, .slice (some ⟨pb, 0, none⟩) t.l.length t.l.length, .map (some cb), .map (some bb)])
            have HK4 := Lib.hid (HK3.out.next hb)
            have HP4 := Lib.hid (HP3.out.next hb)
            have HC4 := Lib.hid (HC3.out.next hb)
            have HM4 := Lib.hid (HM3.out.next hb)
            have HGL := Lib.hid (show lo ≤ V3.heap.size from by have := HLO.out; have := HK3.out.far.size; omega)
            clear hb HK3 HP3 HC3 HM3
            refine wpAnyH_ready (rs := [9]) (by kernel_rfl) (by simp) ?_
            refine AllReadyH.cons (o := ⟨some 19, _, _, _, _, _⟩) rfl (fun K hK => ?_) AllReadyH.nil
            go_simp
            refine hK.out _ _ ?_ (fun hHeld => ?_)
            · exact ⟨HK4.out.box.cell 0, HK4.out.box.cell 1, HK4.out.box.cell 2⟩
            clear hK K hmk hms
            generalize V3.alloc (.cells #[.slice A t.l.length c, .slice A' t.y.length c', .int .i64 t.r, .slice (some ⟨pb, 0, none⟩) t.l.length t.l.length, .map (some cb), .map (some bb)] 67) = V4 at HG HK4 HP4 HC4 HM4 hHeld ⊢
            generalize V3.heap.size = g at HG HGL ⊢
            try simp only [Act.put, sLA, sL0, sL1]
            refine tkH 10 3 ?_ rfl ?_ ?_
            rotate_left
            · rintro V ⟨s0, s1, s2⟩; go_simp; try with_reducible rfl
            try simp only [Act.put, sLA, sL0, sL1]
            refine wpAnyH_done (by kernel_rfl) ?_ _
            have HAK := Lib.hid (show Ak d g pb cb bb A A' c c' t (conMap t) (fun _ => 0) (List.replicate t.l.length false) V4 from ⟨HG.out, HP4.out, List.length_replicate, HC4.out, ⟨_, HM4.out, fun s => rfl⟩, HK4.out.far, by have := HLO.out; have := HGL.out; omega, by have := HLO.out; have := HPL.out; omega, by have := HLO.out; have := HCL.out; omega, by have := HLO.out; have := HML.out; omega, HNE.out, HTD.out⟩)
            clear HG HP4 HC4 HM4 hHeld
            exact KEY.out pb cb bb g V4 ⟨HAK.out, HK4.out, HPL.out, HML.out⟩
    case k =>
      rintro pb cb bb g V4 ⟨hak, hk4, hpl, hml⟩
      have HAK := Lib.hid hak
      have HK4 := Lib.hid hk4
      have HPL := Lib.hid hpl
      have HML := Lib.hid hml
      clear hak hk4 hpl hml hHeld HK0
      go_wp2_with fail
      refine (show Calls Tryd.prog 27 #[.pointer (some ⟨g, 0, none⟩)] V4 _ from c27 HSH.out HZ.out.y _ V4 HAK.out).mono ?_
      rintro e V5 ⟨rfl, ha, hf⟩
      have HX5 := Lib.hid (HK4.out.box.fr hf (by have := HRD.out; have := HLO.out; have := HPL.out; omega) (by have := HRD.out; have := HLO.out; have := HPL.out; omega))
      have HR5 := Lib.hid (HK4.out.res.fr hf (by have := HRD.out; have := HLO.out; have := HPL.out; omega) (by have := HRD.out; have := HLO.out; have := HPL.out; omega))
      have HB5 := Lib.hid (hf.belowB HK4.out.low (by have := HWD.out; have := HLO.out; have := HPL.out; omega) (by have := HWD.out; have := HLO.out; have := HPL.out; omega) HK4.out.low.size)
      have HAK5 := Lib.hid ha
      clear ha hf HK4 HAK
      have x2 : V5.cell? ⟨xb, 2, none⟩ = some (.int .i64 t.r) := HX5.out.cell 2
      have hroot : t.r = ((t.l.length - 1 : Nat) : Int) := by have h1 := HGN.out.root; have h2 := HGN.out.n1; omega
      have HRT := Lib.hid (show t.r.toNat = t.l.length - 1 by omega)
      rw [hroot] at x2
      clear hroot
      go_wp2_with fail
      clear x2
      refine (show Calls Tryd.prog 28 #[.pointer (some ⟨g, 0, none⟩), .int .i64 ((t.l.length - 1 : Nat) : Int)] V5 _ from c28 HSH.out 501 (t.l.length - 1) (by have := HSH.out.len; omega) (by have := HGN.out.n1; omega) (fun _ => 0) _ V5 (fun s => ⟨Int.le_refl _, by have := HSH.out.len; show (0 : Int) + 4 * ((t.l.length - 1 : Nat) : Int) ≤ 4000; omega⟩) HAK5.out).mono ?_
      rintro e V6 ⟨rfl, ha, hf⟩
      have HX6 := Lib.hid (HX5.out.fr hf (by have := HRD.out; have := HLO.out; have := HPL.out; omega) (by have := HRD.out; have := HLO.out; have := HML.out; omega))
      have HR6 := Lib.hid (HR5.out.fr hf (by have := HRD.out; have := HLO.out; have := HPL.out; omega) (by have := HRD.out; have := HLO.out; have := HML.out; omega))
      have HB6 := Lib.hid (hf.belowB HB5.out (by have := HWD.out; have := HLO.out; have := HPL.out; omega) (by have := HWD.out; have := HLO.out; have := HML.out; omega) HB5.out.size)
      have HAK6 := Lib.hid (show Ak d g pb cb bb A A' c c' t (conMap t) (fun _ => 0) (badF t) V6 from by
        have h := ha
        rw [← HRT.out] at h
        exact h)
      clear ha hf HAK5 HX5 HR5 HB5
      have a3 : V6.cell? ⟨g, 3, none⟩ = some (.slice (some ⟨pb, 0, none⟩) t.l.length t.l.length) := HAK6.out.ask.cell 3
      go_wp2_with fail
      clear a3
      go_loopw [31] (fun iv wr => ∃ j : Nat, j ≤ t.l.length ∧ iv = .int .i64 j ∧ Ak d g pb cb bb A A' c c' t (conMap t) (fun _ => 0) (badF t) wr ∧ Blk wr xb 25 #[.slice A t.l.length c, .slice A' t.y.length c', .int .i64 t.r] ∧ Blk wr rb 36 #[.int .i64 0, .int .i64 0] ∧ Below w.heap.size w wr ∧ ∀ i, i < j → (badF t).getD i false = false) (fun iv _ => t.l.length - (intOf iv).toNat)
      case atStart => exact ⟨0, Nat.zero_le _, rfl, HAK6.out, HX6.out, HR6.out, HB6.out, fun i hi => absurd hi (Nat.not_lt_zero _)⟩
      case round =>
        obtain ⟨j, hj, rfl, ha, hx, hr, hb, hall⟩ := hrel
        have HA := Lib.hid ha
        have HX := Lib.hid hx
        have HR := Lib.hid hr
        have HB := Lib.hid hb
        have HALL := Lib.hid hall
        clear ha hx hr hb hall HAK6 HX6 HR6 HB6
        have f0 := HR.out.frozen 0
        have f1 := HR.out.frozen 1
        have r0 : wr.cell? ⟨rb, 0, none⟩ = some (.int .i64 0) := HR.out.cell 0
        have r1 : wr.cell? ⟨rb, 1, none⟩ = some (.int .i64 0) := HR.out.cell 1
        by_cases hlt : j < t.l.length
        · have HLT := Lib.hid hlt
          have hlj : (j : Int) < (t.l.length : Int) := by omega
          have hj0 : (0 : Int) ≤ (j : Int) := by omega
          have hj9 : j < 500 := by have := HSH.out.len; omega
          have hbl : j < (badF t).length := by rw [HA.out.len]; exact hlt
          have hbj : (badF t)[j]? = some (badF t)[j] := List.getElem?_eq_getElem hbl
          have hc : wr.cell? ⟨pb, j, none⟩ = some (boolV (badF t)[j]) := by
            have h := HA.out.mark.cell j
            rw [List.getElem?_toArray, List.getElem?_map, hbj] at h
            exact h
          generalize (badF t)[j] = bj at hbj hc
          have HBJ := Lib.hid hbj
          clear hbj hbl hlt
          obtain ⟨ad, hA, _, hcs⟩ := (HA.out.tree.next HA.out.low).nodes.nodAt (nd_at HLT.out)
          subst hA
          obtain ⟨_, _, _, _, y7⟩ := nod_cells hcs
          have x0 : wr.cell? ⟨xb, 0, none⟩ = some (.slice (some ad) t.l.length c) := HX.out.cell 0
          clear hcs
          cases bj with
          | true =>
            replace hc : wr.cell? ⟨pb, j, none⟩ = some (.bool true) := hc
            go_wp2_with fail
            exact bodyPost_ret (results_cell_row rfl _ _ _ 36 _ (0, 0) _ rfl (row2 HR.out) Tryd.underlying36 rfl (by kernel_rfl)) rfl ⟨(13, (nd t j).h), rfl, low2 HRX.out HB.out, fun h => absurd ⟨HGN.out, HAX.out⟩ h, fun _ _ => by unfold faultF; rw [first_idx HALL.out HBJ.out]⟩
          | false =>
            replace hc : wr.cell? ⟨pb, j, none⟩ = some (.bool false) := hc
            go_wp2_with fail
            go_roundw
            case rel => exact ⟨j + 1, HLT.out, by go_num, HA.out, HX.out, HR.out, HB.out, fun i hi => by
              rcases Nat.lt_or_ge i j with h | h
              · exact HALL.out i h
              · obtain rfl : i = j := by omega
                rw [List.getD_eq_getElem?_getD, HBJ.out]
                rfl⟩
            case measure =>
              have := HLT.out
              simp [intOf]
              omega
        · obtain rfl : j = t.l.length := by omega
          have hlj : ¬ ((t.l.length : Int) < (t.l.length : Int)) := by omega
          go_wp2_with fail
          exact bodyPost_ret (results_cell_row rfl _ _ _ 36 _ (0, 0) _ rfl (row2 HR.out) Tryd.underlying36 rfl (by kernel_rfl)) rfl ⟨(0, 0), rfl, low2 HRX.out HB.out, fun h => absurd ⟨HGN.out, HAX.out⟩ h, fun _ _ => by unfold faultF; rw [none_idx (fun i hi => HALL.out i (by rw [← HA.out.len]; exact hi))]⟩
set_option maxRecDepth 100000 in
set_option maxHeartbeats 8000000 in
theorem c97 {B : Nat} {AL : Option Addr} {cL g : Nat} {S : Rd} {R : Rw} {w : World} (h : RdSt B AL cL g S R w) : Calls Tryd.prog 97 #[ptr g] w fun e w' => e = .returned (.bool (begF S)) ∧ Below w.heap.size w w' := by
  have HS0 := Lib.hid h
  have HB0 := Lib.hid (Below.refl w.heap.size w)
  clear h
  dsimp only [ptr]
  go_enter Tryd.func97, Tryd.ntmps97
  go_wp2_with fail
  refine (c64 3 sE HS0.out).mono ?_
  rintro e w1 ⟨rfl, hb⟩
  have HS1 := Lib.hid (HS0.out.below hb)
  have HB1 := Lib.hid (next_ HB0.out hb)
  clear hb HS0 HB0
  cases h0 : isF 3 sE S with
  | true =>
    have E := Lib.hid (show begF S = true by unfold begF; simp only [h0, Bool.true_or, Bool.or_true])
    clear h0
    go_wp2_with fail
    go_ret
    exact ⟨by rw [E.out]; rfl, HB1.out⟩
  | false =>
    have A0 := Lib.hid h0
    clear h0
    go_wp2_with fail
    refine (c64 4 sE HS1.out).mono ?_
    rintro e w2 ⟨rfl, hb⟩
    have HS2 := Lib.hid (HS1.out.below hb)
    have HB2 := Lib.hid (next_ HB1.out hb)
    clear hb HS1 HB1
    cases h1 : isF 4 sE S with
    | true =>
      have E := Lib.hid (show begF S = true by unfold begF; simp only [h1, Bool.true_or, Bool.or_true])
      clear h1
      go_wp2_with fail
      go_ret
      exact ⟨by rw [E.out]; rfl, HB2.out⟩
    | false =>
      have A1 := Lib.hid h1
      clear h1
      go_wp2_with fail
      refine (c64 2 sE HS2.out).mono ?_
      rintro e w3 ⟨rfl, hb⟩
      have HS3 := Lib.hid (HS2.out.below hb)
      have HB3 := Lib.hid (next_ HB2.out hb)
      clear hb HS2 HB2
      cases h2 : isF 2 sE S with
      | true =>
        have E := Lib.hid (show begF S = true by unfold begF; simp only [h2, Bool.true_or, Bool.or_true])
        clear h2
        go_wp2_with fail
        go_ret
        exact ⟨by rw [E.out]; rfl, HB3.out⟩
      | false =>
        have A2 := Lib.hid h2
        clear h2
        go_wp2_with fail
        refine (c64 1 sE HS3.out).mono ?_
        rintro e w4 ⟨rfl, hb⟩
        have HS4 := Lib.hid (HS3.out.below hb)
        have HB4 := Lib.hid (next_ HB3.out hb)
        clear hb HS3 HB3
        cases h3 : isF 1 sE S with
        | true =>
          have E := Lib.hid (show begF S = true by unfold begF; simp only [h3, Bool.true_or, Bool.or_true])
          clear h3
          go_wp2_with fail
          go_ret
          exact ⟨by rw [E.out]; rfl, HB4.out⟩
        | false =>
          have A3 := Lib.hid h3
          clear h3
          go_wp2_with fail
          refine (c44 sTrue HS4.out).mono ?_
          rintro e w5 ⟨rfl, hb⟩
          have HS5 := Lib.hid (HS4.out.below hb)
          have HB5 := Lib.hid (next_ HB4.out hb)
          clear hb HS4 HB4
          cases h4 : isF 5 sTrue S with
          | true =>
            have E := Lib.hid (show begF S = true by unfold begF; simp only [h4, Bool.true_or, Bool.or_true])
            clear h4
            go_wp2_with fail
            go_ret
            exact ⟨by rw [E.out]; rfl, HB5.out⟩
          | false =>
            have A4 := Lib.hid h4
            clear h4
            go_wp2_with fail
            refine (c44 sFalse HS5.out).mono ?_
            rintro e w6 ⟨rfl, hb⟩
            have HS6 := Lib.hid (HS5.out.below hb)
            have HB6 := Lib.hid (next_ HB5.out hb)
            clear hb HS5 HB5
            cases h5 : isF 5 sFalse S with
            | true =>
              have E := Lib.hid (show begF S = true by unfold begF; simp only [h5, Bool.true_or, Bool.or_true])
              clear h5
              go_wp2_with fail
              go_ret
              exact ⟨by rw [E.out]; rfl, HB6.out⟩
            | false =>
              have A5 := Lib.hid h5
              clear h5
              go_wp2_with fail
              refine (c44 sMatch HS6.out).mono ?_
              rintro e w7 ⟨rfl, hb⟩
              have HS7 := Lib.hid (HS6.out.below hb)
              have HB7 := Lib.hid (next_ HB6.out hb)
              clear hb HS6 HB6
              cases h6 : isF 5 sMatch S with
              | true =>
                have E := Lib.hid (show begF S = true by unfold begF; simp only [h6, Bool.true_or, Bool.or_true])
                clear h6
                go_wp2_with fail
                go_ret
                exact ⟨by rw [E.out]; rfl, HB7.out⟩
              | false =>
                have A6 := Lib.hid h6
                clear h6
                go_wp2_with fail
                refine (c44 sTry HS7.out).mono ?_
                rintro e w8 ⟨rfl, hb⟩
                have HS8 := Lib.hid (HS7.out.below hb)
                have HB8 := Lib.hid (next_ HB7.out hb)
                clear hb HS7 HB7
                cases h7 : isF 5 sTry S with
                | true =>
                  have E := Lib.hid (show begF S = true by unfold begF; simp only [h7, Bool.true_or, Bool.or_true])
                  clear h7
                  go_wp2_with fail
                  go_ret
                  exact ⟨by rw [E.out]; rfl, HB8.out⟩
                | false =>
                  have A7 := Lib.hid h7
                  clear h7
                  go_wp2_with fail
                  refine (c67 sLb HS8.out).mono ?_
                  rintro e w9 ⟨rfl, hb⟩
                  have HS9 := Lib.hid (HS8.out.below hb)
                  have HB9 := Lib.hid (next_ HB8.out hb)
                  clear hb HS8 HB8
                  cases h8 : isF 6 sLb S with
                  | true =>
                    have E := Lib.hid (show begF S = true by unfold begF; simp only [h8, Bool.true_or, Bool.or_true])
                    clear h8
                    go_wp2_with fail
                    go_ret
                    exact ⟨by rw [E.out]; rfl, HB9.out⟩
                  | false =>
                    have A8 := Lib.hid h8
                    clear h8
                    go_wp2_with fail
                    refine (c67 sLp HS9.out).mono ?_
                    rintro e w10 ⟨rfl, hb⟩
                    have HS10 := Lib.hid (HS9.out.below hb)
                    have HB10 := Lib.hid (next_ HB9.out hb)
                    clear hb HS9 HB9
                    cases h9 : isF 6 sLp S with
                    | true =>
                      have E := Lib.hid (show begF S = true by unfold begF; simp only [h9, Bool.true_or, Bool.or_true])
                      clear h9
                      go_wp2_with fail
                      go_ret
                      exact ⟨by rw [E.out]; rfl, HB10.out⟩
                    | false =>
                      have A9 := Lib.hid h9
                      clear h9
                      go_wp2_with fail
                      refine (c67 sBang HS10.out).mono ?_
                      rintro e w11 ⟨rfl, hb⟩
                      have HS11 := Lib.hid (HS10.out.below hb)
                      have HB11 := Lib.hid (next_ HB10.out hb)
                      clear hb HS10 HB10
                      cases h10 : isF 6 sBang S with
                      | true =>
                        have E := Lib.hid (show begF S = true by unfold begF; simp only [h10, Bool.true_or, Bool.or_true])
                        clear h10
                        go_wp2_with fail
                        go_ret
                        exact ⟨by rw [E.out]; rfl, HB11.out⟩
                      | false =>
                        have E := Lib.hid (show begF S = false by unfold begF; simp only [A0.out, A1.out, A2.out, A3.out, A4.out, A5.out, A6.out, A7.out, A8.out, A9.out, h10, Bool.or_false])
                        clear h10
                        go_wp2_with fail
                        go_ret
                        exact ⟨by rw [E.out]; rfl, HB11.out⟩
set_option maxRecDepth 100000 in
set_option maxHeartbeats 8000000 in
theorem c104 {B : Nat} {AL : Option Addr} {cL g : Nat} {S : Rd} {R : Rw} {w : World} (h : RdSt B AL cL g S R w) : Calls Tryd.prog 104 #[ptr g] w fun e w' => e = .returned (.bool (patBegF S)) ∧ Below w.heap.size w w' := by
  have HS0 := Lib.hid h
  have HB0 := Lib.hid (Below.refl w.heap.size w)
  clear h
  dsimp only [ptr]
  go_enter Tryd.func104, Tryd.ntmps104
  go_wp2_with fail
  refine (c64 3 sE HS0.out).mono ?_
  rintro e w1 ⟨rfl, hb⟩
  have HS1 := Lib.hid (HS0.out.below hb)
  have HB1 := Lib.hid (next_ HB0.out hb)
  clear hb HS0 HB0
  cases h0 : isF 3 sE S with
  | true =>
    have E := Lib.hid (show patBegF S = true by unfold patBegF; simp only [h0, Bool.true_or, Bool.or_true])
    clear h0
    go_wp2_with fail
    go_ret
    exact ⟨by rw [E.out]; rfl, HB1.out⟩
  | false =>
    have A0 := Lib.hid h0
    clear h0
    go_wp2_with fail
    refine (c64 2 sE HS1.out).mono ?_
    rintro e w2 ⟨rfl, hb⟩
    have HS2 := Lib.hid (HS1.out.below hb)
    have HB2 := Lib.hid (next_ HB1.out hb)
    clear hb HS1 HB1
    cases h1 : isF 2 sE S with
    | true =>
      have E := Lib.hid (show patBegF S = true by unfold patBegF; simp only [h1, Bool.true_or, Bool.or_true])
      clear h1
      go_wp2_with fail
      go_ret
      exact ⟨by rw [E.out]; rfl, HB2.out⟩
    | false =>
      have A1 := Lib.hid h1
      clear h1
      go_wp2_with fail
      refine (c64 1 sE HS2.out).mono ?_
      rintro e w3 ⟨rfl, hb⟩
      have HS3 := Lib.hid (HS2.out.below hb)
      have HB3 := Lib.hid (next_ HB2.out hb)
      clear hb HS2 HB2
      cases h2 : isF 1 sE S with
      | true =>
        have E := Lib.hid (show patBegF S = true by unfold patBegF; simp only [h2, Bool.true_or, Bool.or_true])
        clear h2
        go_wp2_with fail
        go_ret
        exact ⟨by rw [E.out]; rfl, HB3.out⟩
      | false =>
        have A2 := Lib.hid h2
        clear h2
        go_wp2_with fail
        refine (c44 sTrue HS3.out).mono ?_
        rintro e w4 ⟨rfl, hb⟩
        have HS4 := Lib.hid (HS3.out.below hb)
        have HB4 := Lib.hid (next_ HB3.out hb)
        clear hb HS3 HB3
        cases h3 : isF 5 sTrue S with
        | true =>
          have E := Lib.hid (show patBegF S = true by unfold patBegF; simp only [h3, Bool.true_or, Bool.or_true])
          clear h3
          go_wp2_with fail
          go_ret
          exact ⟨by rw [E.out]; rfl, HB4.out⟩
        | false =>
          have A3 := Lib.hid h3
          clear h3
          go_wp2_with fail
          refine (c44 sFalse HS4.out).mono ?_
          rintro e w5 ⟨rfl, hb⟩
          have HS5 := Lib.hid (HS4.out.below hb)
          have HB5 := Lib.hid (next_ HB4.out hb)
          clear hb HS4 HB4
          cases h4 : isF 5 sFalse S with
          | true =>
            have E := Lib.hid (show patBegF S = true by unfold patBegF; simp only [h4, Bool.true_or, Bool.or_true])
            clear h4
            go_wp2_with fail
            go_ret
            exact ⟨by rw [E.out]; rfl, HB5.out⟩
          | false =>
            have A4 := Lib.hid h4
            clear h4
            go_wp2_with fail
            refine (c67 sUnd HS5.out).mono ?_
            rintro e w6 ⟨rfl, hb⟩
            have HS6 := Lib.hid (HS5.out.below hb)
            have HB6 := Lib.hid (next_ HB5.out hb)
            clear hb HS5 HB5
            cases h5 : isF 6 sUnd S with
            | true =>
              have E := Lib.hid (show patBegF S = true by unfold patBegF; simp only [h5, Bool.true_or, Bool.or_true])
              clear h5
              go_wp2_with fail
              go_ret
              exact ⟨by rw [E.out]; rfl, HB6.out⟩
            | false =>
              have A5 := Lib.hid h5
              clear h5
              go_wp2_with fail
              refine (c67 sMinus HS6.out).mono ?_
              rintro e w7 ⟨rfl, hb⟩
              have HS7 := Lib.hid (HS6.out.below hb)
              have HB7 := Lib.hid (next_ HB6.out hb)
              clear hb HS6 HB6
              cases h6 : isF 6 sMinus S with
              | true =>
                have E := Lib.hid (show patBegF S = true by unfold patBegF; simp only [h6, Bool.true_or, Bool.or_true])
                clear h6
                go_wp2_with fail
                go_ret
                exact ⟨by rw [E.out]; rfl, HB7.out⟩
              | false =>
                have A6 := Lib.hid h6
                clear h6
                go_wp2_with fail
                refine (c67 sLb HS7.out).mono ?_
                rintro e w8 ⟨rfl, hb⟩
                have HS8 := Lib.hid (HS7.out.below hb)
                have HB8 := Lib.hid (next_ HB7.out hb)
                clear hb HS7 HB7
                cases h7 : isF 6 sLb S with
                | true =>
                  have E := Lib.hid (show patBegF S = true by unfold patBegF; simp only [h7, Bool.true_or, Bool.or_true])
                  clear h7
                  go_wp2_with fail
                  go_ret
                  exact ⟨by rw [E.out]; rfl, HB8.out⟩
                | false =>
                  have A7 := Lib.hid h7
                  clear h7
                  go_wp2_with fail
                  refine (c67 sLp HS8.out).mono ?_
                  rintro e w9 ⟨rfl, hb⟩
                  have HS9 := Lib.hid (HS8.out.below hb)
                  have HB9 := Lib.hid (next_ HB8.out hb)
                  clear hb HS8 HB8
                  cases h8 : isF 6 sLp S with
                  | true =>
                    have E := Lib.hid (show patBegF S = true by unfold patBegF; simp only [h8, Bool.true_or, Bool.or_true])
                    clear h8
                    go_wp2_with fail
                    go_ret
                    exact ⟨by rw [E.out]; rfl, HB9.out⟩
                  | false =>
                    have E := Lib.hid (show patBegF S = false by unfold patBegF; simp only [A0.out, A1.out, A2.out, A3.out, A4.out, A5.out, A6.out, A7.out, h8, Bool.or_false])
                    clear h8
                    go_wp2_with fail
                    go_ret
                    exact ⟨by rw [E.out]; rfl, HB9.out⟩
set_option maxRecDepth 100000 in
set_option maxHeartbeats 8000000 in
theorem c95m (w : World) : Calls Tryd.prog 95 #[.string sMatch] w fun e w' => e = .returned (.tuple #[.int .i64 0, .int .i64 0, .int .i64 0]) ∧ w = w' := by
  go_enter Tryd.func95, Tryd.ntmps95
  go_wp2_with fail
  go_ret3
  exact ⟨rfl, rfl⟩
section
variable {ex : Rd → Option (Rd × Int)}
set_option maxRecDepth 100000 in
set_option maxHeartbeats 8000000 in
theorem c94 (hA : Spec 96 (atomF ex)) : Spec 94 (appF ex) := by
  intro B AL cL g S S' r R w h hf
  simp only [appF, appLoopF, Option.bind_eq_bind, Option.bind_eq_some_iff, Prod.exists, ifo, req_some, and2, notf, some2] at hf
  have HA := Lib.hid hA
  have HS0 := Lib.hid h
  have HT0 := Lib.hid (To.refl g R w)
  obtain ⟨bw, hf⟩ := hf
  clear hA
  dsimp only [ptr]
  have HBW := Lib.hid bw
  clear bw
  rcases hf with ⟨c2, S1, t, f1, ⟨b2, S2, a, f2, f3⟩ | ⟨b2, S3, k, f2, hf⟩⟩ | ⟨c2, S3, k, f2, hf⟩
  · obtain ⟨hk, h5, _, rfl⟩ := takeF_some f1
    have hl : S.at_ < S.L.length := (List.getElem?_eq_some_iff.1 hk).1
    have HL := Lib.hid hl
    have HN5 := Lib.hid (show (t.k == 5) = false by rw [h5]; rfl)
    have HK := Lib.hid hk
    have HW64 := Lib.hid (show wrap64 (S.at_ : Int) = (S.at_ : Int) by unfold wrap64; have := h.len; omega)
    clear hl hk h5 h
    have C2 := Lib.hid c2
    have F1 := Lib.hid f1
    have B2 := Lib.hid b2
    have F2 := Lib.hid f2
    have F3 := Lib.hid f3
    clear c2 f1 b2 f2 f3
    go_enter Tryd.func94, Tryd.ntmps94
    go_wp2_with fail
    refine (c48 HS0.out).mono ?_
    rintro e w1 ⟨rfl, hb⟩
    have HS1 := Lib.hid (HS0.out.below hb)
    have HT1 := Lib.hid (HT0.out.below hb)
    clear hb HS0 HT0 
    go_wp2_with fail
    have hl := HL.out
    have i1 : (S.at_ : Int) < (S.L.length : Int) := by omega
    have i0 : (0 : Int) ≤ (S.at_ : Int) := by omega
    clear hl
    obtain ⟨ad, hA0, a0, a1, a2, _⟩ := HS1.out.tok.tokF HK.out
    have g1 := HS1.out.g1
    have g7 := HS1.out.g7
    have g0 := HS1.out.g0
    rw [hA0] at g0
    clear hA0
    have e5 := HN5.out
    go_quiet (fail)
    have HS2 := Lib.hid (HS1.out.drewN nq)
    have HT2 := Lib.hid (HT1.out.drewN nq)
    clear g0 g1 g7 a0 a1 a2 HS1 HT1 
    generalize w1.drewN nq = w2 at HS2 HT2  ⊢
    clear nq
    go_wp2_with fail
    clear i1 i0 e5
    refine (c64 2 sE HS2.out).mono ?_
    rintro e w3 ⟨rfl, hb⟩
    rw [C2.out]
    have HS3 := Lib.hid (HS2.out.below hb)
    have HT3 := Lib.hid (HT2.out.below hb)
    clear hb HS2 HT2 
    go_wp2_with fail
    refine (c65 HS3.out F1.out).mono ?_
    rintro e w4 ⟨rfl, R4, hS, hT⟩
    have HS4 := Lib.hid (hS)
    have HT4 := Lib.hid (HT3.out.trans hT)
    clear hS hT HS3 HT3 
    have hfd := run_text109 t.k t.at_ t.s
    go_wp2_with fail
    refine (c97 HS4.out).mono ?_
    rintro e w5 ⟨rfl, hb⟩
    rw [B2.out]
    have HS5 := Lib.hid (HS4.out.below hb)
    have HT5 := Lib.hid (HT4.out.below hb)
    clear hb HS4 HT4 
    go_wp2_with fail
    clear hfd
    refine (HA.out _ _ _ _ _ _ _ _ _ HS5.out F2.out).mono ?_
    rintro e w6 ⟨rfl, R6, hS, hT⟩
    have HS6 := Lib.hid (hS)
    have HT6 := Lib.hid (HT5.out.trans hT)
    clear hS hT HS5 HT5 
    go_wp2_with fail
    refine (c68 HS6.out F3.out).mono ?_
    rintro e w7 ⟨rfl, R7, hS, hT⟩
    have HS7 := Lib.hid (hS)
    have HT7 := Lib.hid (HT6.out.trans hT)
    clear hS hT HS6 HT6 
    go_wp2_with fail
    go_ret
    exact ⟨rfl, _, HS7.out, HT7.out⟩
  · obtain ⟨hk, h5, _, rfl⟩ := takeF_some f1
    have hl : S.at_ < S.L.length := (List.getElem?_eq_some_iff.1 hk).1
    have HL := Lib.hid hl
    have HN5 := Lib.hid (show (t.k == 5) = false by rw [h5]; rfl)
    have HK := Lib.hid hk
    have HW64 := Lib.hid (show wrap64 (S.at_ : Int) = (S.at_ : Int) by unfold wrap64; have := h.len; omega)
    clear hl hk h5 h
    rcases hf with ⟨b0, S4, b, f3, x, hx, S5, k2, f4, q0, hf⟩ | ⟨b0, rfl, rfl⟩
    · rcases hf with ⟨b1, fx⟩ | ⟨b1, rfl, rfl⟩
      · obtain ⟨_, _, _, _, _, _, _, _, _, hz⟩ := fx
        cases hz
      · obtain ⟨bn, rfl⟩ : ∃ n : Nat, b = (n : Int) := ⟨b.toNat, by have := of_decide_eq_true q0; omega⟩
        rw [Int.toNat_natCast] at hx
        have X := Lib.hid hx
        clear hx q0
        have B0 := Lib.hid b0
        have B1 := Lib.hid b1
        have F3 := Lib.hid f3
        have F4 := Lib.hid f4
        clear b0 b1 f3 f4
        have C2 := Lib.hid c2
        have F1 := Lib.hid f1
        have B2 := Lib.hid b2
        have F2 := Lib.hid f2
        clear c2 f1 b2 f2
        go_enter Tryd.func94, Tryd.ntmps94
        go_wp2_with fail
        refine (c48 HS0.out).mono ?_
        rintro e w1 ⟨rfl, hb⟩
        have HS1 := Lib.hid (HS0.out.below hb)
        have HT1 := Lib.hid (HT0.out.below hb)
        clear hb HS0 HT0 
        go_wp2_with fail
        have hl := HL.out
        have i1 : (S.at_ : Int) < (S.L.length : Int) := by omega
        have i0 : (0 : Int) ≤ (S.at_ : Int) := by omega
        clear hl
        obtain ⟨ad, hA0, a0, a1, a2, _⟩ := HS1.out.tok.tokF HK.out
        have g1 := HS1.out.g1
        have g7 := HS1.out.g7
        have g0 := HS1.out.g0
        rw [hA0] at g0
        clear hA0
        have e5 := HN5.out
        go_quiet (fail)
        have HS2 := Lib.hid (HS1.out.drewN nq)
        have HT2 := Lib.hid (HT1.out.drewN nq)
        clear g0 g1 g7 a0 a1 a2 HS1 HT1 
        generalize w1.drewN nq = w2 at HS2 HT2  ⊢
        clear nq
        go_wp2_with fail
        clear i1 i0 e5
        refine (c64 2 sE HS2.out).mono ?_
        rintro e w3 ⟨rfl, hb⟩
        rw [C2.out]
        have HS3 := Lib.hid (HS2.out.below hb)
        have HT3 := Lib.hid (HT2.out.below hb)
        clear hb HS2 HT2 
        go_wp2_with fail
        refine (c65 HS3.out F1.out).mono ?_
        rintro e w4 ⟨rfl, R4, hS, hT⟩
        have HS4 := Lib.hid (hS)
        have HT4 := Lib.hid (HT3.out.trans hT)
        clear hS hT HS3 HT3 
        have hfd := run_text109 t.k t.at_ t.s
        go_wp2_with fail
        refine (c97 HS4.out).mono ?_
        rintro e w5 ⟨rfl, hb⟩
        rw [B2.out]
        have HS5 := Lib.hid (HS4.out.below hb)
        have HT5 := Lib.hid (HT4.out.below hb)
        clear hb HS4 HT4 
        have g1 : w5.cell? ⟨g, 1, none⟩ = some (.int .i64 ((S.at_ + 1 : Nat) : Int)) := HS5.out.g1
        have z1 := HS5.out.fz 1
        have w64 := HW64.out
        go_wp2_with fail
        clear g1 z1 w64 hfd
        have HS6 := Lib.hid (show RdSt B AL cL g S R4 (w5.setCell ⟨g, 1, none⟩ (.int .i64 (S.at_ : Int))) from HS5.out.setAt S.at_)
        have HT6 := Lib.hid (HT5.out.set (p := ⟨g, 1, none⟩) (.inl rfl) (.int .i64 (S.at_ : Int)))
        clear HS5 HT5
        generalize w5.setCell ⟨g, 1, none⟩ (.int .i64 (S.at_ : Int)) = w6 at HS6 HT6 ⊢
        refine (HA.out _ _ _ _ _ _ _ _ _ HS6.out F2.out).mono ?_
        rintro e w7 ⟨rfl, R7, hS, hT⟩
        have HS7 := Lib.hid (hS)
        have HT7 := Lib.hid (HT6.out.trans hT)
        clear hS hT HS6 HT6 
        go_wp2_with fail
        refine wp_loop_rounds 2 ?_
        rw [rounds_succ]
        go_wp2_with fail
        refine (c97 HS7.out).mono ?_
        rintro e w8 ⟨rfl, hb⟩
        rw [B0.out]
        have HS8 := Lib.hid (HS7.out.below hb)
        have HT8 := Lib.hid (HT7.out.below hb)
        clear hb HS7 HT7 
        go_wp2_with fail
        refine (HA.out _ _ _ _ _ _ _ _ _ HS8.out F3.out).mono ?_
        rintro e w9 ⟨rfl, R9, hS, hT⟩
        have HS9 := Lib.hid (hS)
        have HT9 := Lib.hid (HT8.out.trans hT)
        clear hS hT HS8 HT8 
        go_wp2_with fail
        refine (c98 HS9.out X.out).mono ?_
        rintro e w10 ⟨rfl, hb⟩
        have HS10 := Lib.hid (HS9.out.below hb)
        have HT10 := Lib.hid (HT9.out.below hb)
        clear hb HS9 HT9 
        go_wp2_with fail
        refine (c68 HS10.out F4.out).mono ?_
        rintro e w11 ⟨rfl, R11, hS, hT⟩
        have HS11 := Lib.hid (hS)
        have HT11 := Lib.hid (HT10.out.trans hT)
        clear hS hT HS10 HT10 
        go_wp2_with fail
        rw [rounds_succ]
        go_wp2_with fail
        refine (c97 HS11.out).mono ?_
        rintro e w12 ⟨rfl, hb⟩
        rw [B1.out]
        have HS12 := Lib.hid (HS11.out.below hb)
        have HT12 := Lib.hid (HT11.out.below hb)
        clear hb HS11 HT11 
        go_wp2_with fail
        go_ret
        exact ⟨rfl, _, HS12.out, HT12.out⟩
    · have B0 := Lib.hid b0
      clear b0
      have C2 := Lib.hid c2
      have F1 := Lib.hid f1
      have B2 := Lib.hid b2
      have F2 := Lib.hid f2
      clear c2 f1 b2 f2
      go_enter Tryd.func94, Tryd.ntmps94
      go_wp2_with fail
      refine (c48 HS0.out).mono ?_
      rintro e w1 ⟨rfl, hb⟩
      have HS1 := Lib.hid (HS0.out.below hb)
      have HT1 := Lib.hid (HT0.out.below hb)
      clear hb HS0 HT0 
      go_wp2_with fail
      have hl := HL.out
      have i1 : (S.at_ : Int) < (S.L.length : Int) := by omega
      have i0 : (0 : Int) ≤ (S.at_ : Int) := by omega
      clear hl
      obtain ⟨ad, hA0, a0, a1, a2, _⟩ := HS1.out.tok.tokF HK.out
      have g1 := HS1.out.g1
      have g7 := HS1.out.g7
      have g0 := HS1.out.g0
      rw [hA0] at g0
      clear hA0
      have e5 := HN5.out
      go_quiet (fail)
      have HS2 := Lib.hid (HS1.out.drewN nq)
      have HT2 := Lib.hid (HT1.out.drewN nq)
      clear g0 g1 g7 a0 a1 a2 HS1 HT1 
      generalize w1.drewN nq = w2 at HS2 HT2  ⊢
      clear nq
      go_wp2_with fail
      clear i1 i0 e5
      refine (c64 2 sE HS2.out).mono ?_
      rintro e w3 ⟨rfl, hb⟩
      rw [C2.out]
      have HS3 := Lib.hid (HS2.out.below hb)
      have HT3 := Lib.hid (HT2.out.below hb)
      clear hb HS2 HT2 
      go_wp2_with fail
      refine (c65 HS3.out F1.out).mono ?_
      rintro e w4 ⟨rfl, R4, hS, hT⟩
      have HS4 := Lib.hid (hS)
      have HT4 := Lib.hid (HT3.out.trans hT)
      clear hS hT HS3 HT3 
      have hfd := run_text109 t.k t.at_ t.s
      go_wp2_with fail
      refine (c97 HS4.out).mono ?_
      rintro e w5 ⟨rfl, hb⟩
      rw [B2.out]
      have HS5 := Lib.hid (HS4.out.below hb)
      have HT5 := Lib.hid (HT4.out.below hb)
      clear hb HS4 HT4 
      have g1 : w5.cell? ⟨g, 1, none⟩ = some (.int .i64 ((S.at_ + 1 : Nat) : Int)) := HS5.out.g1
      have z1 := HS5.out.fz 1
      have w64 := HW64.out
      go_wp2_with fail
      clear g1 z1 w64 hfd
      have HS6 := Lib.hid (show RdSt B AL cL g S R4 (w5.setCell ⟨g, 1, none⟩ (.int .i64 (S.at_ : Int))) from HS5.out.setAt S.at_)
      have HT6 := Lib.hid (HT5.out.set (p := ⟨g, 1, none⟩) (.inl rfl) (.int .i64 (S.at_ : Int)))
      clear HS5 HT5
      generalize w5.setCell ⟨g, 1, none⟩ (.int .i64 (S.at_ : Int)) = w6 at HS6 HT6 ⊢
      refine (HA.out _ _ _ _ _ _ _ _ _ HS6.out F2.out).mono ?_
      rintro e w7 ⟨rfl, R7, hS, hT⟩
      have HS7 := Lib.hid (hS)
      have HT7 := Lib.hid (HT6.out.trans hT)
      clear hS hT HS6 HT6 
      go_wp2_with fail
      refine wp_loop_rounds 2 ?_
      rw [rounds_succ]
      go_wp2_with fail
      refine (c97 HS7.out).mono ?_
      rintro e w8 ⟨rfl, hb⟩
      rw [B0.out]
      have HS8 := Lib.hid (HS7.out.below hb)
      have HT8 := Lib.hid (HT7.out.below hb)
      clear hb HS7 HT7 
      go_wp2_with fail
      go_ret
      exact ⟨rfl, _, HS8.out, HT8.out⟩
  · by_cases hl : S.at_ < S.L.length
    · have HL := Lib.hid hl
      have hk : S.L[S.at_]? = some S.L[S.at_] := List.getElem?_eq_getElem hl
      clear hl
      obtain ⟨t, ht⟩ : ∃ t, t = S.L[S.at_] := ⟨_, rfl⟩
      rw [← ht] at hk
      clear ht
      have HK := Lib.hid hk
      have hwk := HBW.out
      unfold wordOk at hwk
      rw [hk] at hwk
      clear hk h
      cases h5 : (t.k == 5) with
      | false =>
        have HN5 := Lib.hid h5
        clear h5 hwk
        rcases hf with ⟨b0, S4, b, f3, x, hx, S5, k2, f4, q0, hf⟩ | ⟨b0, rfl, rfl⟩
        · rcases hf with ⟨b1, fx⟩ | ⟨b1, rfl, rfl⟩
          · obtain ⟨_, _, _, _, _, _, _, _, _, hz⟩ := fx
            cases hz
          · obtain ⟨bn, rfl⟩ : ∃ n : Nat, b = (n : Int) := ⟨b.toNat, by have := of_decide_eq_true q0; omega⟩
            rw [Int.toNat_natCast] at hx
            have X := Lib.hid hx
            clear hx q0
            have B0 := Lib.hid b0
            have B1 := Lib.hid b1
            have F3 := Lib.hid f3
            have F4 := Lib.hid f4
            clear b0 b1 f3 f4
            have C2 := Lib.hid c2
            have F2 := Lib.hid f2
            clear c2 f2
            go_enter Tryd.func94, Tryd.ntmps94
            go_wp2_with fail
            refine (c48 HS0.out).mono ?_
            rintro e w1 ⟨rfl, hb⟩
            have HS1 := Lib.hid (HS0.out.below hb)
            have HT1 := Lib.hid (HT0.out.below hb)
            clear hb HS0 HT0 
            go_wp2_with fail
            have hl := HL.out
            have i1 : (S.at_ : Int) < (S.L.length : Int) := by omega
            have i0 : (0 : Int) ≤ (S.at_ : Int) := by omega
            clear hl
            obtain ⟨ad, hA0, a0, a1, a2, _⟩ := HS1.out.tok.tokF HK.out
            have g1 := HS1.out.g1
            have g7 := HS1.out.g7
            have g0 := HS1.out.g0
            rw [hA0] at g0
            clear hA0
            have e5 := HN5.out
            go_quiet (fail)
            have HS2 := Lib.hid (HS1.out.drewN nq)
            have HT2 := Lib.hid (HT1.out.drewN nq)
            clear g0 g1 g7 a0 a1 a2 HS1 HT1 
            generalize w1.drewN nq = w2 at HS2 HT2  ⊢
            clear nq
            go_wp2_with fail
            clear i1 i0 e5
            refine (c64 2 sE HS2.out).mono ?_
            rintro e w3 ⟨rfl, hb⟩
            rw [C2.out]
            have HS3 := Lib.hid (HS2.out.below hb)
            have HT3 := Lib.hid (HT2.out.below hb)
            clear hb HS2 HT2 
            go_wp2_with fail
            refine (HA.out _ _ _ _ _ _ _ _ _ HS3.out F2.out).mono ?_
            rintro e w4 ⟨rfl, R4, hS, hT⟩
            have HS4 := Lib.hid (hS)
            have HT4 := Lib.hid (HT3.out.trans hT)
            clear hS hT HS3 HT3 
            go_wp2_with fail
            refine wp_loop_rounds 2 ?_
            rw [rounds_succ]
            go_wp2_with fail
            refine (c97 HS4.out).mono ?_
            rintro e w5 ⟨rfl, hb⟩
            rw [B0.out]
            have HS5 := Lib.hid (HS4.out.below hb)
            have HT5 := Lib.hid (HT4.out.below hb)
            clear hb HS4 HT4 
            go_wp2_with fail
            refine (HA.out _ _ _ _ _ _ _ _ _ HS5.out F3.out).mono ?_
            rintro e w6 ⟨rfl, R6, hS, hT⟩
            have HS6 := Lib.hid (hS)
            have HT6 := Lib.hid (HT5.out.trans hT)
            clear hS hT HS5 HT5 
            go_wp2_with fail
            refine (c98 HS6.out X.out).mono ?_
            rintro e w7 ⟨rfl, hb⟩
            have HS7 := Lib.hid (HS6.out.below hb)
            have HT7 := Lib.hid (HT6.out.below hb)
            clear hb HS6 HT6 
            go_wp2_with fail
            refine (c68 HS7.out F4.out).mono ?_
            rintro e w8 ⟨rfl, R8, hS, hT⟩
            have HS8 := Lib.hid (hS)
            have HT8 := Lib.hid (HT7.out.trans hT)
            clear hS hT HS7 HT7 
            go_wp2_with fail
            rw [rounds_succ]
            go_wp2_with fail
            refine (c97 HS8.out).mono ?_
            rintro e w9 ⟨rfl, hb⟩
            rw [B1.out]
            have HS9 := Lib.hid (HS8.out.below hb)
            have HT9 := Lib.hid (HT8.out.below hb)
            clear hb HS8 HT8 
            go_wp2_with fail
            go_ret
            exact ⟨rfl, _, HS9.out, HT9.out⟩
        · have B0 := Lib.hid b0
          clear b0
          have C2 := Lib.hid c2
          have F2 := Lib.hid f2
          clear c2 f2
          go_enter Tryd.func94, Tryd.ntmps94
          go_wp2_with fail
          refine (c48 HS0.out).mono ?_
          rintro e w1 ⟨rfl, hb⟩
          have HS1 := Lib.hid (HS0.out.below hb)
          have HT1 := Lib.hid (HT0.out.below hb)
          clear hb HS0 HT0 
          go_wp2_with fail
          have hl := HL.out
          have i1 : (S.at_ : Int) < (S.L.length : Int) := by omega
          have i0 : (0 : Int) ≤ (S.at_ : Int) := by omega
          clear hl
          obtain ⟨ad, hA0, a0, a1, a2, _⟩ := HS1.out.tok.tokF HK.out
          have g1 := HS1.out.g1
          have g7 := HS1.out.g7
          have g0 := HS1.out.g0
          rw [hA0] at g0
          clear hA0
          have e5 := HN5.out
          go_quiet (fail)
          have HS2 := Lib.hid (HS1.out.drewN nq)
          have HT2 := Lib.hid (HT1.out.drewN nq)
          clear g0 g1 g7 a0 a1 a2 HS1 HT1 
          generalize w1.drewN nq = w2 at HS2 HT2  ⊢
          clear nq
          go_wp2_with fail
          clear i1 i0 e5
          refine (c64 2 sE HS2.out).mono ?_
          rintro e w3 ⟨rfl, hb⟩
          rw [C2.out]
          have HS3 := Lib.hid (HS2.out.below hb)
          have HT3 := Lib.hid (HT2.out.below hb)
          clear hb HS2 HT2 
          go_wp2_with fail
          refine (HA.out _ _ _ _ _ _ _ _ _ HS3.out F2.out).mono ?_
          rintro e w4 ⟨rfl, R4, hS, hT⟩
          have HS4 := Lib.hid (hS)
          have HT4 := Lib.hid (HT3.out.trans hT)
          clear hS hT HS3 HT3 
          go_wp2_with fail
          refine wp_loop_rounds 2 ?_
          rw [rounds_succ]
          go_wp2_with fail
          refine (c97 HS4.out).mono ?_
          rintro e w5 ⟨rfl, hb⟩
          rw [B0.out]
          have HS5 := Lib.hid (HS4.out.below hb)
          have HT5 := Lib.hid (HT4.out.below hb)
          clear hb HS4 HT4 
          go_wp2_with fail
          go_ret
          exact ⟨rfl, _, HS5.out, HT5.out⟩
      | true =>
        obtain ⟨tk, ts, ta⟩ := t
        obtain rfl : tk = 5 := by simpa using h5
        obtain rfl : ts = sMatch := by
          rcases Bool.or_eq_true_iff.1 hwk with h6 | h6
          · exact absurd h6 (by simp)
          · exact beq_bytes.1 h6
        clear h5 hwk
        rcases hf with ⟨b0, S4, b, f3, x, hx, S5, k2, f4, q0, hf⟩ | ⟨b0, rfl, rfl⟩
        · rcases hf with ⟨b1, fx⟩ | ⟨b1, rfl, rfl⟩
          · obtain ⟨_, _, _, _, _, _, _, _, _, hz⟩ := fx
            cases hz
          · obtain ⟨bn, rfl⟩ : ∃ n : Nat, b = (n : Int) := ⟨b.toNat, by have := of_decide_eq_true q0; omega⟩
            rw [Int.toNat_natCast] at hx
            have X := Lib.hid hx
            clear hx q0
            have B0 := Lib.hid b0
            have B1 := Lib.hid b1
            have F3 := Lib.hid f3
            have F4 := Lib.hid f4
            clear b0 b1 f3 f4
            have C2 := Lib.hid c2
            have F2 := Lib.hid f2
            clear c2 f2
            go_enter Tryd.func94, Tryd.ntmps94
            go_wp2_with fail
            refine (c48 HS0.out).mono ?_
            rintro e w1 ⟨rfl, hb⟩
            have HS1 := Lib.hid (HS0.out.below hb)
            have HT1 := Lib.hid (HT0.out.below hb)
            clear hb HS0 HT0 
            go_wp2_with fail
            have hl := HL.out
            have i1 : (S.at_ : Int) < (S.L.length : Int) := by omega
            have i0 : (0 : Int) ≤ (S.at_ : Int) := by omega
            clear hl
            obtain ⟨ad, hA0, a0, a1, a2, _⟩ := HS1.out.tok.tokF HK.out
            have g1 := HS1.out.g1
            have g7 := HS1.out.g7
            have g0 := HS1.out.g0
            rw [hA0] at g0
            clear hA0
            go_quiet (fail)
            have HS2 := Lib.hid (HS1.out.drewN nq)
            have HT2 := Lib.hid (HT1.out.drewN nq)
            clear g0 g1 g7 a0 a1 a2 HS1 HT1 
            generalize w1.drewN nq = w2 at HS2 HT2  ⊢
            clear nq
            go_wp2_with fail
            obtain ⟨ad, hA0, a0, a1, a2, _⟩ := HS2.out.tok.tokF HK.out
            have g1 := HS2.out.g1
            have g0 := HS2.out.g0
            rw [hA0] at g0
            clear hA0
            go_quiet (fail)
            have HS3 := Lib.hid (HS2.out.drewN nq)
            have HT3 := Lib.hid (HT2.out.drewN nq)
            clear g0 g1 a0 a1 a2 HS2 HT2 
            generalize w2.drewN nq = w3 at HS3 HT3  ⊢
            clear nq
            go_wp2_with fail
            refine (c95m w3).mono ?_
            rintro e _ ⟨rfl, rfl⟩
            go_wp2_with fail
            clear i1 i0
            refine (c64 2 sE HS3.out).mono ?_
            rintro e w4 ⟨rfl, hb⟩
            rw [C2.out]
            have HS4 := Lib.hid (HS3.out.below hb)
            have HT4 := Lib.hid (HT3.out.below hb)
            clear hb HS3 HT3 
            go_wp2_with fail
            refine (HA.out _ _ _ _ _ _ _ _ _ HS4.out F2.out).mono ?_
            rintro e w5 ⟨rfl, R5, hS, hT⟩
            have HS5 := Lib.hid (hS)
            have HT5 := Lib.hid (HT4.out.trans hT)
            clear hS hT HS4 HT4 
            go_wp2_with fail
            refine wp_loop_rounds 2 ?_
            rw [rounds_succ]
            go_wp2_with fail
            refine (c97 HS5.out).mono ?_
            rintro e w6 ⟨rfl, hb⟩
            rw [B0.out]
            have HS6 := Lib.hid (HS5.out.below hb)
            have HT6 := Lib.hid (HT5.out.below hb)
            clear hb HS5 HT5 
            go_wp2_with fail
            refine (HA.out _ _ _ _ _ _ _ _ _ HS6.out F3.out).mono ?_
            rintro e w7 ⟨rfl, R7, hS, hT⟩
            have HS7 := Lib.hid (hS)
            have HT7 := Lib.hid (HT6.out.trans hT)
            clear hS hT HS6 HT6 
            go_wp2_with fail
            refine (c98 HS7.out X.out).mono ?_
            rintro e w8 ⟨rfl, hb⟩
            have HS8 := Lib.hid (HS7.out.below hb)
            have HT8 := Lib.hid (HT7.out.below hb)
            clear hb HS7 HT7 
            go_wp2_with fail
            refine (c68 HS8.out F4.out).mono ?_
            rintro e w9 ⟨rfl, R9, hS, hT⟩
            have HS9 := Lib.hid (hS)
            have HT9 := Lib.hid (HT8.out.trans hT)
            clear hS hT HS8 HT8 
            go_wp2_with fail
            rw [rounds_succ]
            go_wp2_with fail
            refine (c97 HS9.out).mono ?_
            rintro e w10 ⟨rfl, hb⟩
            rw [B1.out]
            have HS10 := Lib.hid (HS9.out.below hb)
            have HT10 := Lib.hid (HT9.out.below hb)
            clear hb HS9 HT9 
            go_wp2_with fail
            go_ret
            exact ⟨rfl, _, HS10.out, HT10.out⟩
        · have B0 := Lib.hid b0
          clear b0
          have C2 := Lib.hid c2
          have F2 := Lib.hid f2
          clear c2 f2
          go_enter Tryd.func94, Tryd.ntmps94
          go_wp2_with fail
          refine (c48 HS0.out).mono ?_
          rintro e w1 ⟨rfl, hb⟩
          have HS1 := Lib.hid (HS0.out.below hb)
          have HT1 := Lib.hid (HT0.out.below hb)
          clear hb HS0 HT0 
          go_wp2_with fail
          have hl := HL.out
          have i1 : (S.at_ : Int) < (S.L.length : Int) := by omega
          have i0 : (0 : Int) ≤ (S.at_ : Int) := by omega
          clear hl
          obtain ⟨ad, hA0, a0, a1, a2, _⟩ := HS1.out.tok.tokF HK.out
          have g1 := HS1.out.g1
          have g7 := HS1.out.g7
          have g0 := HS1.out.g0
          rw [hA0] at g0
          clear hA0
          go_quiet (fail)
          have HS2 := Lib.hid (HS1.out.drewN nq)
          have HT2 := Lib.hid (HT1.out.drewN nq)
          clear g0 g1 g7 a0 a1 a2 HS1 HT1 
          generalize w1.drewN nq = w2 at HS2 HT2  ⊢
          clear nq
          go_wp2_with fail
          obtain ⟨ad, hA0, a0, a1, a2, _⟩ := HS2.out.tok.tokF HK.out
          have g1 := HS2.out.g1
          have g0 := HS2.out.g0
          rw [hA0] at g0
          clear hA0
          go_quiet (fail)
          have HS3 := Lib.hid (HS2.out.drewN nq)
          have HT3 := Lib.hid (HT2.out.drewN nq)
          clear g0 g1 a0 a1 a2 HS2 HT2 
          generalize w2.drewN nq = w3 at HS3 HT3  ⊢
          clear nq
          go_wp2_with fail
          refine (c95m w3).mono ?_
          rintro e _ ⟨rfl, rfl⟩
          go_wp2_with fail
          clear i1 i0
          refine (c64 2 sE HS3.out).mono ?_
          rintro e w4 ⟨rfl, hb⟩
          rw [C2.out]
          have HS4 := Lib.hid (HS3.out.below hb)
          have HT4 := Lib.hid (HT3.out.below hb)
          clear hb HS3 HT3 
          go_wp2_with fail
          refine (HA.out _ _ _ _ _ _ _ _ _ HS4.out F2.out).mono ?_
          rintro e w5 ⟨rfl, R5, hS, hT⟩
          have HS5 := Lib.hid (hS)
          have HT5 := Lib.hid (HT4.out.trans hT)
          clear hS hT HS4 HT4 
          go_wp2_with fail
          refine wp_loop_rounds 2 ?_
          rw [rounds_succ]
          go_wp2_with fail
          refine (c97 HS5.out).mono ?_
          rintro e w6 ⟨rfl, hb⟩
          rw [B0.out]
          have HS6 := Lib.hid (HS5.out.below hb)
          have HT6 := Lib.hid (HT5.out.below hb)
          clear hb HS5 HT5 
          go_wp2_with fail
          go_ret
          exact ⟨rfl, _, HS6.out, HT6.out⟩
    · have HL := Lib.hid hl
      clear hl h
      rcases hf with ⟨b0, S4, b, f3, x, hx, S5, k2, f4, q0, hf⟩ | ⟨b0, rfl, rfl⟩
      · rcases hf with ⟨b1, fx⟩ | ⟨b1, rfl, rfl⟩
        · obtain ⟨_, _, _, _, _, _, _, _, _, hz⟩ := fx
          cases hz
        · obtain ⟨bn, rfl⟩ : ∃ n : Nat, b = (n : Int) := ⟨b.toNat, by have := of_decide_eq_true q0; omega⟩
          rw [Int.toNat_natCast] at hx
          have X := Lib.hid hx
          clear hx q0
          have B0 := Lib.hid b0
          have B1 := Lib.hid b1
          have F3 := Lib.hid f3
          have F4 := Lib.hid f4
          clear b0 b1 f3 f4
          have C2 := Lib.hid c2
          have F2 := Lib.hid f2
          clear c2 f2
          go_enter Tryd.func94, Tryd.ntmps94
          go_wp2_with fail
          refine (c48 HS0.out).mono ?_
          rintro e w1 ⟨rfl, hb⟩
          have HS1 := Lib.hid (HS0.out.below hb)
          have HT1 := Lib.hid (HT0.out.below hb)
          clear hb HS0 HT0 
          go_wp2_with fail
          have hl := HL.out
          have g0 := HS1.out.g0
          have g1 := HS1.out.g1
          have g7 := HS1.out.g7
          have i1 : ¬ (S.at_ : Int) < (S.L.length : Int) := by omega
          clear hl
          go_quiet (fail)
          have HS2 := Lib.hid (HS1.out.drewN nq)
          have HT2 := Lib.hid (HT1.out.drewN nq)
          clear g0 g1 g7 HS1 HT1 
          generalize w1.drewN nq = w2 at HS2 HT2  ⊢
          clear nq
          go_wp2_with fail
          clear i1
          refine (c64 2 sE HS2.out).mono ?_
          rintro e w3 ⟨rfl, hb⟩
          rw [C2.out]
          have HS3 := Lib.hid (HS2.out.below hb)
          have HT3 := Lib.hid (HT2.out.below hb)
          clear hb HS2 HT2 
          go_wp2_with fail
          refine (HA.out _ _ _ _ _ _ _ _ _ HS3.out F2.out).mono ?_
          rintro e w4 ⟨rfl, R4, hS, hT⟩
          have HS4 := Lib.hid (hS)
          have HT4 := Lib.hid (HT3.out.trans hT)
          clear hS hT HS3 HT3 
          go_wp2_with fail
          refine wp_loop_rounds 2 ?_
          rw [rounds_succ]
          go_wp2_with fail
          refine (c97 HS4.out).mono ?_
          rintro e w5 ⟨rfl, hb⟩
          rw [B0.out]
          have HS5 := Lib.hid (HS4.out.below hb)
          have HT5 := Lib.hid (HT4.out.below hb)
          clear hb HS4 HT4 
          go_wp2_with fail
          refine (HA.out _ _ _ _ _ _ _ _ _ HS5.out F3.out).mono ?_
          rintro e w6 ⟨rfl, R6, hS, hT⟩
          have HS6 := Lib.hid (hS)
          have HT6 := Lib.hid (HT5.out.trans hT)
          clear hS hT HS5 HT5 
          go_wp2_with fail
          refine (c98 HS6.out X.out).mono ?_
          rintro e w7 ⟨rfl, hb⟩
          have HS7 := Lib.hid (HS6.out.below hb)
          have HT7 := Lib.hid (HT6.out.below hb)
          clear hb HS6 HT6 
          go_wp2_with fail
          refine (c68 HS7.out F4.out).mono ?_
          rintro e w8 ⟨rfl, R8, hS, hT⟩
          have HS8 := Lib.hid (hS)
          have HT8 := Lib.hid (HT7.out.trans hT)
          clear hS hT HS7 HT7 
          go_wp2_with fail
          rw [rounds_succ]
          go_wp2_with fail
          refine (c97 HS8.out).mono ?_
          rintro e w9 ⟨rfl, hb⟩
          rw [B1.out]
          have HS9 := Lib.hid (HS8.out.below hb)
          have HT9 := Lib.hid (HT8.out.below hb)
          clear hb HS8 HT8 
          go_wp2_with fail
          go_ret
          exact ⟨rfl, _, HS9.out, HT9.out⟩
      · have B0 := Lib.hid b0
        clear b0
        have C2 := Lib.hid c2
        have F2 := Lib.hid f2
        clear c2 f2
        go_enter Tryd.func94, Tryd.ntmps94
        go_wp2_with fail
        refine (c48 HS0.out).mono ?_
        rintro e w1 ⟨rfl, hb⟩
        have HS1 := Lib.hid (HS0.out.below hb)
        have HT1 := Lib.hid (HT0.out.below hb)
        clear hb HS0 HT0 
        go_wp2_with fail
        have hl := HL.out
        have g0 := HS1.out.g0
        have g1 := HS1.out.g1
        have g7 := HS1.out.g7
        have i1 : ¬ (S.at_ : Int) < (S.L.length : Int) := by omega
        clear hl
        go_quiet (fail)
        have HS2 := Lib.hid (HS1.out.drewN nq)
        have HT2 := Lib.hid (HT1.out.drewN nq)
        clear g0 g1 g7 HS1 HT1 
        generalize w1.drewN nq = w2 at HS2 HT2  ⊢
        clear nq
        go_wp2_with fail
        clear i1
        refine (c64 2 sE HS2.out).mono ?_
        rintro e w3 ⟨rfl, hb⟩
        rw [C2.out]
        have HS3 := Lib.hid (HS2.out.below hb)
        have HT3 := Lib.hid (HT2.out.below hb)
        clear hb HS2 HT2 
        go_wp2_with fail
        refine (HA.out _ _ _ _ _ _ _ _ _ HS3.out F2.out).mono ?_
        rintro e w4 ⟨rfl, R4, hS, hT⟩
        have HS4 := Lib.hid (hS)
        have HT4 := Lib.hid (HT3.out.trans hT)
        clear hS hT HS3 HT3 
        go_wp2_with fail
        refine wp_loop_rounds 2 ?_
        rw [rounds_succ]
        go_wp2_with fail
        refine (c97 HS4.out).mono ?_
        rintro e w5 ⟨rfl, hb⟩
        rw [B0.out]
        have HS5 := Lib.hid (HS4.out.below hb)
        have HT5 := Lib.hid (HT4.out.below hb)
        clear hb HS4 HT4 
        go_wp2_with fail
        go_ret
        exact ⟨rfl, _, HS5.out, HT5.out⟩
end
end Go.Proofs.YtphojigdapaaiaaDoor
