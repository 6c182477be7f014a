/- The document's Good, walked. -/
import Derived.Test.YtcilodgpbdafeaaDoorTRefG
namespace Go.Proofs.YtcilodgpbdafeaaDoor
open Go.ChangeShapes Go.WideShapes Go.ChangeAt Go.RowKit
set_option linter.unusedVariables false
set_option linter.unusedSimpArgs false
section
variable {k a b n : Int} {t : List UInt8} {F : List Nat}
theorem rbeg_k (h : kids k = -1) : rbeg ⟨k, a, b, n, t⟩ F = none := by
  unfold rbeg
  rw [if_pos (by simp only [h]; omega)]
theorem txt_ne (h : ¬ (t.isEmpty = !k == 10)) : (decide (t ≠ [])) ≠ (decide (k = 10)) := fun e => h (by
  cases t with
  | nil => simp at e; simp [e]
  | cons x y => simp at e; simp [e])
theorem txt_eq (h : t.isEmpty = !k == 10) : ¬ ((decide (t ≠ [])) ≠ (decide (k = 10))) := fun e => e (by
  cases t with
  | nil => simp at h; simp [h]
  | cons x y => simp at h; simp [h])
theorem rbeg_t (h : ¬ (t.isEmpty = !k == 10)) : rbeg ⟨k, a, b, n, t⟩ F = none := by
  unfold rbeg
  split
  · rfl
  · rw [if_pos (txt_ne h)]
theorem rbeg_n (h : n < 0) : rbeg ⟨k, a, b, n, t⟩ F = none := by
  unfold rbeg
  by_cases h1 : kids k < 0
  · rw [if_pos h1]
  · rw [if_neg h1]
    by_cases h2 : (decide (t ≠ [])) ≠ (decide (k = 10))
    · rw [if_pos h2]
    · rw [if_neg h2, if_pos h]
theorem rbeg_v (h : n ≠ 0) (h' : k ≠ 11) : rbeg ⟨k, a, b, n, t⟩ F = none := by
  unfold rbeg
  by_cases h1 : kids k < 0
  · rw [if_pos h1]
  · rw [if_neg h1]
    by_cases h2 : (decide (t ≠ [])) ≠ (decide (k = 10))
    · rw [if_pos h2]
    · rw [if_neg h2]
      by_cases h3 : n < 0
      · rw [if_pos h3]
      · rw [if_neg h3, if_pos ⟨h, h'⟩]
theorem rbeg_2 (hk : kids k = 2) (h : t.isEmpty = !k == 10) : rbeg ⟨k, a, b, 0, t⟩ F =
    (if b ≠ (F.length : Int) - 1 then none else if F.length < 1 then none else if a ≠ (F.getD (F.length - 1) 0 : Int) - 1 then none else if a < 0 then none else F[a.toNat]?) := by
  unfold rbeg
  rw [if_neg (by simp only [hk]; omega), if_neg (txt_eq h), if_neg (by simp only; omega), if_neg (fun e => e.1 rfl), if_pos hk]
theorem rbeg_1 (hk : kids k = 1) (h : t.isEmpty = !k == 10) : rbeg ⟨k, a, b, 0, t⟩ F =
    (if a ≠ (F.length : Int) - 1 then none else if F.length < 1 then none else if b ≠ 0 then none else F[a.toNat]?) := by
  unfold rbeg
  rw [if_neg (by simp only [hk]; omega), if_neg (txt_eq h), if_neg (by simp only; omega), if_neg (fun e => e.1 rfl), if_neg (by simp only [hk]; omega), if_pos hk]
theorem rbeg_0 (hk : kids k = 0) (h : t.isEmpty = !k == 10) (hn : 0 ≤ n) (hv : n = 0 ∨ k = 11) : rbeg ⟨k, a, b, n, t⟩ F =
    (if a ≠ 0 then none else if b ≠ 0 then none else some F.length) := by
  unfold rbeg
  rw [if_neg (by simp only [hk]; omega), if_neg (txt_eq h), if_neg (by simp only; omega), if_neg (by simp only; omega), if_neg (by simp only [hk]; omega), if_neg (by simp only [hk]; omega)]
end
set_option maxRecDepth 100000 in
set_option maxHeartbeats 8000000 in
theorem c9 (l : List Part) (A : Option Addr) (c B : Nat) (w : World) (hr : Reads w B 5 A l.length (l.flatMap partC)) (hB : B ≤ w.heap.size) :
    Calls Tryd.prog 9 #[.slice A l.length c] w fun e w' => e = .returned (.bool (gTy l)) ∧ Below w.heap.size w w' := by
  have HR := Lib.hid hr
  have HB := Lib.hid hB
  clear hr hB
  obtain ⟨i3, fi3, hz0, hz1, hz2⟩ := info_parts int_info
  by_cases h1 : l.length < 1
  · have hl : (l.length : Int) < 1 := by omega
    have hg : gTy l = false := by
      unfold gTy
      rw [decide_eq_false (by omega : ¬ 1 ≤ l.length)]
      rfl
    have HG := Lib.hid hg
    clear hg h1
    go_enter Tryd.func9, Tryd.ntmps9
    go_wp2_with fail
    go_ret
    exact ⟨by rw [HG.out]; rfl, Below.refl _ _⟩
  · have hl : ¬ ((l.length : Int) < 1) := by omega
    by_cases h2 : 200 < l.length
    · have hl2 : (200 : Int) < (l.length : Int) := by omega
      have hg : gTy l = false := by
        unfold gTy
        rw [decide_eq_false (by omega : ¬ l.length ≤ 200), Bool.and_false]
        rfl
      have HG := Lib.hid hg
      clear hg h1 h2
      go_enter Tryd.func9, Tryd.ntmps9
      go_wp2_with fail
      go_ret
      exact ⟨by rw [HG.out]; rfl, Below.refl _ _⟩
    · have hl2 : ¬ ((200 : Int) < (l.length : Int)) := by omega
      have hg : gTy l = match begs l [] with | some F => F.getD (l.length - 1) 1 == 0 | none => false := by
        unfold gTy
        rw [decide_eq_true (by omega : 1 ≤ l.length), decide_eq_true (by omega : l.length ≤ 200)]
        rfl
      have HG := Lib.hid hg
      clear hg
      go_enter Tryd.func9, Tryd.ntmps9
      go_wp2_with fail
      go_loopw [3, 4] (fun v i wr => ∃ (k : Nat) (F : List Nat), k ≤ l.length ∧ i = .int .i64 k ∧ F.length = k ∧ begs (l.take k) [] = some F ∧ wr.ownsRow w.heap.size 3 1 v k (F.map natV) ∧ Below w.heap.size w wr) (fun _ i _ => l.length - (intOf i).toNat)
      case atStart => exact ⟨0, [], by omega, rfl, rfl, rfl, ⟨rfl, .inl ⟨rfl, rfl⟩⟩, Below.refl _ _⟩
      case round =>
        obtain ⟨k, F, hk, rfl, hFl, hF, ho, hb⟩ := hrel
        obtain ⟨AF, cF, rfl⟩ := own_form ho
        have HO := Lib.hid ho
        have HBl := Lib.hid hb
        have HF := Lib.hid hF
        have HFL := Lib.hid hFl
        have HT := Lib.hid (told_nil.begs hF)
        clear ho hb hF hFl
        by_cases hlt : k < l.length
        · have hlk : (k : Int) < (l.length : Int) := by omega
          have hk0 : (0 : Int) ≤ (k : Int) := by omega
          obtain ⟨ad, rfl, _, hcs⟩ := ((HR.out.below (HBl.out.mono HB.out)).partAt (List.getElem?_eq_getElem hlt))
          have htk : l.take (k + 1) = l.take k ++ [l[k]] := by rw [List.take_add_one, List.getElem?_eq_getElem hlt]; rfl
          generalize l[k] = p at hcs htk
          obtain ⟨pk, pa, pb, pn, pt⟩ := p
          have HCS := Lib.hid hcs
          have HTK := Lib.hid htk
          have HLE := Lib.hid (show ∀ i b : Nat, F[i]? = some b → b ≤ i by have := HT.out; rw [List.nil_append] at this; exact this.le)
          have HNO := Lib.hid (show rbeg ⟨pk, pa, pb, pn, pt⟩ F = none → gTy l = false from fun h => by
            rw [rbeg_eq _ F HLE.out] at h
            rw [HG.out, begs_cut (k := k + 1) (by rw [HTK.out, begs_snoc HF.out, h]; rfl)])
          have HYES := Lib.hid (show ∀ b : Nat, rbeg ⟨pk, pa, pb, pn, pt⟩ F = some b → begs (l.take (k + 1)) [] = some (F ++ [b]) from fun b h => by
            rw [rbeg_eq _ F HLE.out] at h
            rw [HTK.out, begs_snoc HF.out, h]; rfl)
          clear hcs htk
          go_wp2_with (first | (refine wpList_load_at rfl 29 (.tmp 24) rfl (ad.add (k * 5)) rfl [.int .i64 pk, .int .i64 pa, .int .i64 pb, .int .i64 pn, strV pt] _ HCS.out Tryd.underlying29 rfl (by kernel_rfl) ?_))
          refine (c27 pk _).mono ?_
          rintro e w2 ⟨rfl, rfl⟩
          have HBA := Lib.hid (HBl.out.alloc HBl.out.size (.cells #[.int .i64 pk, .int .i64 pa, .int .i64 pb, .int .i64 pn, strV pt] 29))
          have HNX := Lib.hid (below_new wr (.cells #[.int .i64 pk, .int .i64 pa, .int .i64 pb, .int .i64 pn, strV pt] 29))
          rcases kids_cases pk with ⟨hkc, hkk⟩ | ⟨hkc, hkk⟩ | ⟨hkc, hkk⟩ | ⟨hkc, hkk⟩
          · have HK := Lib.hid hkk
            rw [hkk]
            clear hkk
            by_cases ht : pt.isEmpty = !pk == 10
            · by_cases hn : pn < 0
              · have HG0 := Lib.hid (HNO.out (rbeg_n hn))
                go_wp2_with fail
                go_ret
                exact ⟨by rw [HG0.out]; rfl, HBA.out⟩
              · have hn' : 0 ≤ pn := by omega
                by_cases hn0 : pn = 0
                · subst hn0
                  have HV := Lib.hid (show (0 : Int) = 0 ∨ pk = 11 from .inl rfl)
                  by_cases ha : pa = 0
                  · subst ha
                    by_cases hb : pb = 0
                    · subst hb
                      have HRB := Lib.hid (show rbeg ⟨pk, 0, 0, 0, pt⟩ F = some k by rw [rbeg_0 HK.out ht (by omega) HV.out, if_neg (by omega), if_neg (by omega), HFL.out])
                      clear hn
                      go_wp2_with (at_builtin; refine wpList_append_any _ rfl (.tmp 121) (.tmp 123) 39 rfl w.heap.size 3 i3 _ 1 8 Tryd.underlying39 fi3 hz0 hz1 hz2 rfl (by omega) (.slice AF k cF) k (F.map natV) rfl (own_next HO.out (next_ HNX.out (below_new _ _))) _ (some ⟨_, 0, none⟩) 1 1 [natV k] rfl (reads_newI _ (natV k) 3 _ (by simp only [World.size_alloc, World.heap_drewN])) (by simp [Value.oneCell', natV]) (by unfold maxLen; omega) (by omega) (by have h1 := HBl.out.size; have h2 := HNX.out.size; simp only [World.size_alloc, World.heap_drewN]; omega) ?_; intro v1 w7 oA gA _)
                      have HA := Lib.hid oA
                      have HGw := Lib.hid gA
                      clear oA gA
                      go_roundw
                      case rel =>
                        refine ⟨k + 1, F ++ [k], by omega, by go_num, by rw [List.length_append, HFL.out]; rfl, HYES.out _ HRB.out, by rw [List.map_append]; exact HA.out, ?_⟩
                        exact ((next_ HBl.out (next_ HNX.out (below_new _ _))).grown HGw.out (by have h1 := HBl.out.size; have h2 := HNX.out.size; simp only [World.size_alloc, World.heap_drewN]; omega) (fun j e => own_base HO.out j e))
                      case measure => simp [intOf]; omega
                    · have HG0 := Lib.hid (HNO.out (by rw [rbeg_0 HK.out ht (by omega) HV.out, if_neg (by omega), if_pos hb]))
                      have f0 : (pb != 0) = true := bne_iff_ne.2 hb
                      have f1 : (pb == 0) = false := beq_false_of_ne hb
                      clear hb
                      go_wp2_with fail
                      go_ret
                      exact ⟨by rw [HG0.out]; rfl, HBA.out⟩
                  · have HG0 := Lib.hid (HNO.out (by rw [rbeg_0 HK.out ht (by omega) HV.out, if_pos ha]))
                    have f0 : (pa != 0) = true := bne_iff_ne.2 ha
                    have f1 : (pa == 0) = false := beq_false_of_ne ha
                    clear ha
                    go_wp2_with fail
                    go_ret
                    exact ⟨by rw [HG0.out]; rfl, HBA.out⟩
                · by_cases hk11 : pk = 11
                  · subst hk11
                    have HV := Lib.hid (show pn = 0 ∨ (11 : Int) = 11 from .inr rfl)
                    have f1 : (pn != 0) = true := bne_iff_ne.2 hn0
                    have f3 : (pn == 0) = false := beq_false_of_ne hn0
                    clear hn0
                    by_cases ha : pa = 0
                    · subst ha
                      by_cases hb : pb = 0
                      · subst hb
                        have HRB := Lib.hid (show rbeg ⟨11, 0, 0, pn, pt⟩ F = some k by rw [rbeg_0 HK.out ht (by omega) HV.out, if_neg (by omega), if_neg (by omega), HFL.out])
                        clear hn
                        go_wp2_with (at_builtin; refine wpList_append_any _ rfl (.tmp 121) (.tmp 123) 39 rfl w.heap.size 3 i3 _ 1 8 Tryd.underlying39 fi3 hz0 hz1 hz2 rfl (by omega) (.slice AF k cF) k (F.map natV) rfl (own_next HO.out (next_ HNX.out (below_new _ _))) _ (some ⟨_, 0, none⟩) 1 1 [natV k] rfl (reads_newI _ (natV k) 3 _ (by simp only [World.size_alloc, World.heap_drewN])) (by simp [Value.oneCell', natV]) (by unfold maxLen; omega) (by omega) (by have h1 := HBl.out.size; have h2 := HNX.out.size; simp only [World.size_alloc, World.heap_drewN]; omega) ?_; intro v1 w7 oA gA _)
                        have HA := Lib.hid oA
                        have HGw := Lib.hid gA
                        clear oA gA
                        go_roundw
                        case rel =>
                          refine ⟨k + 1, F ++ [k], by omega, by go_num, by rw [List.length_append, HFL.out]; rfl, HYES.out _ HRB.out, by rw [List.map_append]; exact HA.out, ?_⟩
                          exact ((next_ HBl.out (next_ HNX.out (below_new _ _))).grown HGw.out (by have h1 := HBl.out.size; have h2 := HNX.out.size; simp only [World.size_alloc, World.heap_drewN]; omega) (fun j e => own_base HO.out j e))
                        case measure => simp [intOf]; omega
                      · have HG0 := Lib.hid (HNO.out (by rw [rbeg_0 HK.out ht (by omega) HV.out, if_neg (by omega), if_pos hb]))
                        have f0 : (pb != 0) = true := bne_iff_ne.2 hb
                        have f1 : (pb == 0) = false := beq_false_of_ne hb
                        clear hb
                        go_wp2_with fail
                        go_ret
                        exact ⟨by rw [HG0.out]; rfl, HBA.out⟩
                    · have HG0 := Lib.hid (HNO.out (by rw [rbeg_0 HK.out ht (by omega) HV.out, if_pos ha]))
                      have f0 : (pa != 0) = true := bne_iff_ne.2 ha
                      have f1 : (pa == 0) = false := beq_false_of_ne ha
                      clear ha
                      go_wp2_with fail
                      go_ret
                      exact ⟨by rw [HG0.out]; rfl, HBA.out⟩
                  · have HG0 := Lib.hid (HNO.out (rbeg_v hn0 hk11))
                    have f1 : (pn != 0) = true := bne_iff_ne.2 hn0
                    have f2 : (pk != 11) = true := bne_iff_ne.2 hk11
                    have f3 : (pn == 0) = false := beq_false_of_ne hn0
                    have f4 : (pk == 11) = false := beq_false_of_ne hk11
                    clear hn0 hk11
                    go_wp2_with fail
                    go_ret
                    exact ⟨by rw [HG0.out]; rfl, HBA.out⟩
            · have HG0 := Lib.hid (HNO.out (rbeg_t ht))
              go_wp2_with fail
              go_ret
              exact ⟨by rw [HG0.out]; rfl, HBA.out⟩
          · have HK := Lib.hid hkk
            rw [hkk]
            clear hkk
            by_cases ht : pt.isEmpty = !pk == 10
            · by_cases hn : pn < 0
              · have HG0 := Lib.hid (HNO.out (rbeg_n hn))
                go_wp2_with fail
                go_ret
                exact ⟨by rw [HG0.out]; rfl, HBA.out⟩
              · have hn' : 0 ≤ pn := by omega
                by_cases hn0 : pn = 0
                · subst hn0
                  by_cases ha : pa = (k : Int) - 1
                  · by_cases hk1 : k < 1
                    · have HG0 := Lib.hid (HNO.out (by rw [rbeg_1 HK.out ht, if_neg (by rw [HFL.out]; exact fun e => e ha), if_pos (by rw [HFL.out]; exact hk1)]))
                      obtain rfl : k = 0 := by omega
                      subst ha
                      go_wp2_with fail
                      go_ret
                      exact ⟨by rw [HG0.out]; rfl, HBA.out⟩
                    · have hk1' : 1 ≤ k := by omega
                      by_cases hb : pb = 0
                      · subst hb
                        obtain ⟨j, hkj⟩ : ∃ j, k = j + 1 := ⟨k - 1, by omega⟩
                        obtain rfl : pa = (j : Int) := by omega
                        obtain ⟨x, hx⟩ : ∃ x, F[j]? = some x := ⟨_, List.getElem?_eq_getElem (by rw [HFL.out]; omega)⟩
                        obtain ⟨adF, u, rfl, _, hu, a0⟩ := ((Reads.of_own HO.out).alloc (Nat.le_refl _) (.cells #[.int .i64 pk, .int .i64 (j : Int), .int .i64 0, .int .i64 0, strV pt] 29)).at_ (k := j) (by omega)
                        rw [List.getElem?_map, hx] at hu
                        obtain rfl := Option.some.inj hu
                        replace a0 : (wr.alloc (.cells #[.int .i64 pk, .int .i64 (j : Int), .int .i64 0, .int .i64 0, strV pt] 29)).cell? (adF.add j) = some (.int .i64 (x : Int)) := a0
                        have HX := Lib.hid hx
                        have hj1 : (j : Int) < (k : Int) := by omega
                        have hj0 : (0 : Int) ≤ (j : Int) := by omega
                        have hlj : (k : Int) - 1 = (j : Int) := by omega
                        clear hx hu ha
                        have HRB := Lib.hid (show rbeg ⟨pk, (j : Int), 0, 0, pt⟩ F = some x by rw [rbeg_1 HK.out ht, if_neg (by rw [HFL.out]; omega), if_neg (by rw [HFL.out]; omega), if_neg (by omega)]; exact HX.out)
                        clear hkj hk1 hk1' hn hn'
                        go_wp2_with (at_builtin; refine wpList_append_any _ rfl (.tmp 121) (.tmp 123) 39 rfl w.heap.size 3 i3 _ 1 8 Tryd.underlying39 fi3 hz0 hz1 hz2 rfl (by omega) (.slice (some adF) k cF) k (F.map natV) rfl (own_next HO.out (next_ HNX.out (below_new _ _))) _ (some ⟨_, 0, none⟩) 1 1 [natV x] rfl (reads_newI _ (natV x) 3 _ (by simp only [World.size_alloc, World.heap_drewN])) (by simp [Value.oneCell', natV]) (by unfold maxLen; omega) (by omega) (by have h1 := HBl.out.size; have h2 := HNX.out.size; simp only [World.size_alloc, World.heap_drewN]; omega) ?_; intro v1 w7 oA gA _)
                        have HA := Lib.hid oA
                        have HGw := Lib.hid gA
                        clear oA gA
                        go_roundw
                        case rel =>
                          refine ⟨k + 1, F ++ [x], by omega, by go_num, by rw [List.length_append, HFL.out]; rfl, HYES.out _ HRB.out, by rw [List.map_append]; exact HA.out, ?_⟩
                          exact ((next_ HBl.out (next_ HNX.out (below_new _ _))).grown HGw.out (by have h1 := HBl.out.size; have h2 := HNX.out.size; simp only [World.size_alloc, World.heap_drewN]; omega) (fun j e => own_base HO.out j e))
                        case measure => simp [intOf]; omega
                      · have HG0 := Lib.hid (HNO.out (by rw [rbeg_1 HK.out ht, if_neg (by rw [HFL.out]; exact fun e => e ha), if_neg (by rw [HFL.out]; exact hk1), if_pos hb]))
                        have f0 : (pb != 0) = true := bne_iff_ne.2 hb
                        have f1 : (pb == 0) = false := beq_false_of_ne hb
                        clear hb
                        subst ha
                        go_wp2_with fail
                        go_ret
                        exact ⟨by rw [HG0.out]; rfl, HBA.out⟩
                  · have HG0 := Lib.hid (HNO.out (by rw [rbeg_1 HK.out ht, if_pos (by rw [HFL.out]; exact ha)]))
                    have f0 : (pa != (k : Int) - 1) = true := bne_iff_ne.2 ha
                    have f1 : (pa == (k : Int) - 1) = false := beq_false_of_ne ha
                    clear ha
                    go_wp2_with fail
                    go_ret
                    exact ⟨by rw [HG0.out]; rfl, HBA.out⟩
                · have hk11 : pk ≠ 11 := by omega
                  have HG0 := Lib.hid (HNO.out (rbeg_v hn0 hk11))
                  have f1 : (pn != 0) = true := bne_iff_ne.2 hn0
                  have f2 : (pk != 11) = true := bne_iff_ne.2 hk11
                  have f3 : (pn == 0) = false := beq_false_of_ne hn0
                  have f4 : (pk == 11) = false := beq_false_of_ne hk11
                  clear hn0 hk11
                  go_wp2_with fail
                  go_ret
                  exact ⟨by rw [HG0.out]; rfl, HBA.out⟩
            · have HG0 := Lib.hid (HNO.out (rbeg_t ht))
              go_wp2_with fail
              go_ret
              exact ⟨by rw [HG0.out]; rfl, HBA.out⟩
          · have HK := Lib.hid hkk
            rw [hkk]
            clear hkk
            by_cases ht : pt.isEmpty = !pk == 10
            · by_cases hn : pn < 0
              · have HG0 := Lib.hid (HNO.out (rbeg_n hn))
                go_wp2_with fail
                go_ret
                exact ⟨by rw [HG0.out]; rfl, HBA.out⟩
              · have hn' : 0 ≤ pn := by omega
                by_cases hn0 : pn = 0
                · subst hn0
                  by_cases hb : pb = (k : Int) - 1
                  · by_cases hk1 : k < 1
                    · have HG0 := Lib.hid (HNO.out (by rw [rbeg_2 HK.out ht, if_neg (by rw [HFL.out]; exact fun e => e hb), if_pos (by rw [HFL.out]; exact hk1)]))
                      obtain rfl : k = 0 := by omega
                      subst hb
                      go_wp2_with fail
                      go_quiet (fail)
                      go_wp2_with fail
                      go_ret
                      exact ⟨by rw [HG0.out]; rfl, below_drewN HBA.out _⟩
                    · have hk1' : 1 ≤ k := by omega
                      obtain ⟨j, hkj⟩ : ∃ j, k = j + 1 := ⟨k - 1, by omega⟩
                      obtain rfl : pb = (j : Int) := by omega
                      obtain ⟨x, hx⟩ : ∃ x, F[j]? = some x := ⟨_, List.getElem?_eq_getElem (by rw [HFL.out]; omega)⟩
                      have hxj := HLE.out j x hx
                      have hgx : F.getD (F.length - 1) 0 = x := by rw [HFL.out, show k - 1 = j by omega, List.getD_eq_getElem?_getD, hx]; rfl
                      obtain ⟨adF, u, rfl, _, hu, a0⟩ := ((Reads.of_own HO.out).alloc (Nat.le_refl _) (.cells #[.int .i64 pk, .int .i64 pa, .int .i64 (j : Int), .int .i64 0, strV pt] 29)).at_ (k := j) (by omega)
                      rw [List.getElem?_map, hx] at hu
                      obtain rfl := Option.some.inj hu
                      replace a0 : (wr.alloc (.cells #[.int .i64 pk, .int .i64 pa, .int .i64 (j : Int), .int .i64 0, strV pt] 29)).cell? (adF.add j) = some (.int .i64 (x : Int)) := a0
                      have HGX := Lib.hid hgx
                      have hj1 : (j : Int) < (k : Int) := by omega
                      have hj0 : (0 : Int) ≤ (j : Int) := by omega
                      have hlj : (k : Int) - 1 = (j : Int) := by omega
                      have hk1i : ¬ (k : Int) < 1 := by omega
                      have W1 : IntKind.i64.wrap ((k : Int) - 1) = (j : Int) := (IntWalk.i64_in _ (by omega)).trans (by omega)
                      have W2 : IntKind.i64.wrap (j : Int) = (j : Int) := IntWalk.i64_in _ (by omega)
                      clear hx hu hb hgx
                      by_cases ha : pa = (x : Int) - 1
                      · by_cases ha0 : pa < 0
                        · have HG0 := Lib.hid (HNO.out (by rw [rbeg_2 HK.out ht, if_neg (by rw [HFL.out]; omega), if_neg (by rw [HFL.out]; exact hk1), if_neg (by rw [HGX.out]; exact fun e => e ha), if_pos ha0]))
                          obtain rfl : x = 0 := by omega
                          obtain rfl : pa = -1 := by omega
                          clear ha ha0 hkj
                          go_wp2_with fail
                          go_quiet (fail)
                          go_wp2_with fail
                          go_ret
                          exact ⟨by rw [HG0.out]; rfl, below_drewN HBA.out _⟩
                        · obtain ⟨y, hxy⟩ : ∃ y, x = y + 1 := ⟨x - 1, by omega⟩
                          obtain rfl : pa = (y : Int) := by omega
                          have hy1 : (y : Int) < (k : Int) := by omega
                          have hy0 : (0 : Int) ≤ (y : Int) := by omega
                          have hyn : ¬ (y : Int) < 0 := by omega
                          have hxl : (x : Int) - 1 = (y : Int) := by omega
                          have W3 : IntKind.i64.wrap ((x : Int) - 1) = (y : Int) := (IntWalk.i64_in _ (by omega)).trans (by omega)
                          have W4 : IntKind.i64.wrap (y : Int) = (y : Int) := IntWalk.i64_in _ (by omega)
                          obtain ⟨z, hz⟩ : ∃ z, F[y]? = some z := ⟨_, List.getElem?_eq_getElem (by rw [HFL.out]; omega)⟩
                          obtain ⟨adG, u2, hae, _, hu2, a2⟩ := ((Reads.of_own HO.out).alloc (Nat.le_refl _) (.cells #[.int .i64 pk, .int .i64 (y : Int), .int .i64 (j : Int), .int .i64 0, strV pt] 29)).at_ (k := y) (by omega)
                          obtain rfl := Option.some.inj hae
                          rw [List.getElem?_map, hz] at hu2
                          obtain rfl := Option.some.inj hu2
                          replace a2 : (wr.alloc (.cells #[.int .i64 pk, .int .i64 (y : Int), .int .i64 (j : Int), .int .i64 0, strV pt] 29)).cell? (adF.add y) = some (.int .i64 (z : Int)) := a2
                          have HRB := Lib.hid (show rbeg ⟨pk, (y : Int), (j : Int), 0, pt⟩ F = some z by rw [rbeg_2 HK.out ht, if_neg (by rw [HFL.out]; omega), if_neg (by rw [HFL.out]; omega), if_neg (by rw [HGX.out]; omega), if_neg (by omega)]; exact hz)
                          clear hae hu2 hz hkj hk1 hk1' hn hn' ha ha0 hxy
                          go_wp2_with fail
                          go_quiet (fail)
                          go_wp2_with (at_builtin; refine wpList_append_any _ rfl (.tmp 121) (.tmp 123) 39 rfl w.heap.size 3 i3 _ 1 8 Tryd.underlying39 fi3 hz0 hz1 hz2 rfl (by omega) (.slice (some adF) k cF) k (F.map natV) rfl (own_next HO.out (next_ (below_drewN HNX.out _) (below_new _ _))) _ (some ⟨_, 0, none⟩) 1 1 [natV z] rfl (reads_newI _ (natV z) 3 _ (by simp only [World.size_alloc, World.heap_drewN])) (by simp [Value.oneCell', natV]) (by unfold maxLen; omega) (by omega) (by have h1 := HBl.out.size; have h2 := HNX.out.size; simp only [World.size_alloc, World.heap_drewN]; omega) ?_; intro v1 w7 oA gA _)
                          have HA := Lib.hid oA
                          have HGw := Lib.hid gA
                          clear oA gA
                          go_roundw
                          case rel =>
                            refine ⟨k + 1, F ++ [z], by omega, by go_num, by rw [List.length_append, HFL.out]; rfl, HYES.out _ HRB.out, by rw [List.map_append]; exact HA.out, ?_⟩
                            exact ((next_ HBl.out (next_ (below_drewN HNX.out _) (below_new _ _))).grown HGw.out (by have h1 := HBl.out.size; have h2 := HNX.out.size; simp only [World.size_alloc, World.heap_drewN]; omega) (fun j e => own_base HO.out j e))
                          case measure => simp [intOf]; omega
                      · have HG0 := Lib.hid (HNO.out (by rw [rbeg_2 HK.out ht, if_neg (by rw [HFL.out]; omega), if_neg (by rw [HFL.out]; exact hk1), if_pos (by rw [HGX.out]; exact ha)]))
                        have W3 : IntKind.i64.wrap ((x : Int) - 1) = (x : Int) - 1 := IntWalk.i64_in _ (by omega)
                        have f0 : (pa != (x : Int) - 1) = true := bne_iff_ne.2 ha
                        have f1 : (pa == (x : Int) - 1) = false := beq_false_of_ne ha
                        clear ha hkj
                        go_wp2_with fail
                        go_quiet (fail)
                        go_wp2_with fail
                        go_ret
                        exact ⟨by rw [HG0.out]; rfl, below_drewN HBA.out _⟩
                  · have HG0 := Lib.hid (HNO.out (by rw [rbeg_2 HK.out ht, if_pos (by rw [HFL.out]; exact hb)]))
                    have W1 : IntKind.i64.wrap ((k : Int) - 1) = (k : Int) - 1 := IntWalk.i64_in _ (by omega)
                    have f0 : (pb != (k : Int) - 1) = true := bne_iff_ne.2 hb
                    have f1 : (pb == (k : Int) - 1) = false := beq_false_of_ne hb
                    clear hb
                    go_wp2_with fail
                    go_quiet (fail)
                    go_wp2_with fail
                    go_ret
                    exact ⟨by rw [HG0.out]; rfl, below_drewN HBA.out _⟩
                · have hk11 : pk ≠ 11 := by omega
                  have HG0 := Lib.hid (HNO.out (rbeg_v hn0 hk11))
                  have f1 : (pn != 0) = true := bne_iff_ne.2 hn0
                  have f2 : (pk != 11) = true := bne_iff_ne.2 hk11
                  have f3 : (pn == 0) = false := beq_false_of_ne hn0
                  have f4 : (pk == 11) = false := beq_false_of_ne hk11
                  clear hn0 hk11
                  go_wp2_with fail
                  go_ret
                  exact ⟨by rw [HG0.out]; rfl, HBA.out⟩
            · have HG0 := Lib.hid (HNO.out (rbeg_t ht))
              go_wp2_with fail
              go_ret
              exact ⟨by rw [HG0.out]; rfl, HBA.out⟩
          · rw [hkk]
            have HG0 := Lib.hid (HNO.out (rbeg_k hkk))
            clear hkc hkk
            go_wp2_with fail
            go_ret
            exact ⟨by rw [HG0.out]; rfl, HBA.out⟩
        · have hkl : k = l.length := by omega
          subst hkl
          have hlk : ¬ ((l.length : Int) < (l.length : Int)) := by omega
          obtain ⟨j, hj⟩ : ∃ j, l.length = j + 1 := ⟨l.length - 1, by omega⟩
          obtain ⟨x, hx⟩ : ∃ x, F[j]? = some x := ⟨_, List.getElem?_eq_getElem (by rw [HFL.out]; omega)⟩
          obtain ⟨ad, u, rfl, _, hu, a0⟩ := (Reads.of_own HO.out).at_ (k := j) (by omega)
          rw [List.getElem?_map, hx] at hu
          obtain rfl := Option.some.inj hu
          replace a0 : wr.cell? (ad.add j) = some (.int .i64 (x : Int)) := a0
          have hgF : gTy l = (x == 0) := by
            have h := HF.out
            rw [List.take_length] at h
            rw [HG.out, h]
            show (F.getD (l.length - 1) 1 == 0) = _
            rw [show l.length - 1 = j by omega, List.getD_eq_getElem?_getD, hx]
            rfl
          have HGF := Lib.hid hgF
          have hj1 : (j : Int) < (l.length : Int) := by omega
          have hj0 : (0 : Int) ≤ (j : Int) := by omega
          have hlj : (l.length : Int) - 1 = (j : Int) := by omega
          clear hgF hx hu hlt hk hj
          by_cases h0 : x = 0
          · subst h0
            go_wp2_with fail
            go_ret
            exact ⟨by rw [HGF.out]; rfl, HBl.out⟩
          · have f0 : ((x : Int) == 0) = false := beq_false_of_ne (by omega)
            have HX := Lib.hid (show (x == 0) = false from beq_false_of_ne h0)
            clear h0
            go_wp2_with fail
            go_ret
            exact ⟨by rw [HGF.out, HX.out]; rfl, HBl.out⟩
end Go.Proofs.YtcilodgpbdafeaaDoor
