/- types.Good: may a type be. -/
import Derived.Test.YtcilodgpbdafeaaDoorTGd
import Derived.Test.YtcilodgpbdafeaaDoorTOf
namespace Go.Proofs.YtcilodgpbdafeaaDoor
open Go.ChangeShapes Go.WideShapes Go.ChangeAt Go.RowKit
set_option linter.unusedVariables false
set_option linter.unusedSimpArgs false
theorem int_info : (Tryd.prog.info? 3).map (fun i => (i.zero, i.size, i.bytes)) = some (some (.int .i64 0), 1, 8) := by kernel_rfl
theorem reads_newI (w : World) (u : Value) (t : TypeId) (b : Nat) (hb : w.heap.size = b) : Reads (w.alloc (.cells #[u] t)) (b + 1) 1 (some ⟨b, 0, none⟩) 1 [u] := by
  subst hb
  exact reads_blkN (vs := [u]) (Blk.new w t #[u]) rfl
theorem told_nil : Told [] [] := ⟨rfl, fun i b h => by simp at h⟩
theorem Told.le {l : List Part} {F : List Nat} (h : Told l F) : ∀ i b : Nat, F[i]? = some b → b ≤ i := fun i b hb => by
  obtain ⟨T, _, _, e⟩ := h.2 i b hb
  have := T.size_pos
  omega
theorem begs_snoc {l : List Part} {F : List Nat} {p : Part} (h : begs l [] = some F) : begs (l ++ [p]) [] = (beg p F).map fun b => F ++ [b] := by
  rw [begs_append, h]
  show begs [p] F = _
  unfold begs
  cases beg p F <;> rfl
theorem begs_cut {l : List Part} {k : Nat} (h : begs (l.take k) [] = none) : begs l [] = none := by
  rw [← List.take_append_drop k l, begs_append, h]
  rfl
set_option maxRecDepth 100000 in
set_option maxHeartbeats 4000000 in
theorem c13 (l : List Part) (A : Option Addr) (c B : Nat) (w : World) (hr : Reads w B 5 A l.length (l.flatMap partC)) (hB : B ≤ w.heap.size) :
    Calls Tryd.prog 13 #[.slice A l.length c] w fun e w' => e = .returned (.bool (gTy l)) ∧ Below w.heap.size w w' := by
  have HR := Lib.hid hr
  have HB := Lib.hid hB
  clear hr hB
  obtain ⟨i3, fi3, hz0, hz1, hz2⟩ := info_parts int_info
  by_cases h1 : l.length < 1
  · have hl : (l.length : Int) < 1 := by omega
    have hg : gTy l = false := by
      unfold gTy
      rw [decide_eq_false (by omega : ¬ 1 ≤ l.length)]
      rfl
    have HG := Lib.hid hg
    clear hg h1
    go_enter Tryd.func13, Tryd.ntmps13
    go_wp2_with fail
    go_ret
    exact ⟨by rw [HG.out]; rfl, Below.refl _ _⟩
  · have hl : ¬ ((l.length : Int) < 1) := by omega
    by_cases h2 : 200 < l.length
    · have hl2 : (200 : Int) < (l.length : Int) := by omega
      have hg : gTy l = false := by
        unfold gTy
        rw [decide_eq_false (by omega : ¬ l.length ≤ 200), Bool.and_false]
        rfl
      have HG := Lib.hid hg
      clear hg h1 h2
      go_enter Tryd.func13, Tryd.ntmps13
      go_wp2_with fail
      go_ret
      exact ⟨by rw [HG.out]; rfl, Below.refl _ _⟩
    · have hl2 : ¬ ((200 : Int) < (l.length : Int)) := by omega
      have hg : gTy l = match begs l [] with | some F => F.getD (l.length - 1) 1 == 0 | none => false := by
        unfold gTy
        rw [decide_eq_true (by omega : 1 ≤ l.length), decide_eq_true (by omega : l.length ≤ 200)]
        rfl
      have HG := Lib.hid hg
      clear hg
      go_enter Tryd.func13, Tryd.ntmps13
      go_wp2_with fail
      go_loopw [3, 18] (fun v i wr => ∃ (k : Nat) (F : List Nat), k ≤ l.length ∧ i = .int .i64 k ∧ F.length = k ∧ begs (l.take k) [] = some F ∧ wr.ownsRow w.heap.size 3 1 v k (F.map natV) ∧ Below w.heap.size w wr) (fun _ i _ => l.length - (intOf i).toNat)
      case atStart => exact ⟨0, [], by omega, rfl, rfl, rfl, ⟨rfl, .inl ⟨rfl, rfl⟩⟩, Below.refl _ _⟩
      case round =>
        obtain ⟨k, F, hk, rfl, hFl, hF, ho, hb⟩ := hrel
        obtain ⟨AF, cF, rfl⟩ := own_form ho
        have HO := Lib.hid ho
        have HBl := Lib.hid hb
        have HF := Lib.hid hF
        have HFL := Lib.hid hFl
        have HT := Lib.hid (told_nil.begs hF)
        clear ho hb hF hFl
        by_cases hlt : k < l.length
        · have hlk : (k : Int) < (l.length : Int) := by omega
          have hk0 : (0 : Int) ≤ (k : Int) := by omega
          obtain ⟨ad, rfl, _, hcs⟩ := ((HR.out.below (HBl.out.mono HB.out)).partAt (List.getElem?_eq_getElem hlt))
          have htk : l.take (k + 1) = l.take k ++ [l[k]] := by rw [List.take_add_one, List.getElem?_eq_getElem hlt]; rfl
          generalize l[k] = p at hcs htk
          have HCS := Lib.hid hcs
          have HTK := Lib.hid htk
          clear hcs htk
          have hw1 := HO.out.1
          have hc28 := c28 p F AF cF wr.heap.size (wr.alloc (.cells #[.int .i64 p.k, .int .i64 p.a, .int .i64 p.b, .int .i64 p.n, strV p.t] 29)) (by have := HT.out; rw [List.nil_append] at this; exact this.le) (by have h := Reads.of_own HO.out; rw [HFL.out]; exact h.alloc (Nat.le_refl _) _) (by rw [World.size_alloc]; omega) (by rw [HFL.out]; omega)
          rw [HFL.out] at hc28
          have HC := Lib.hid hc28
          clear hc28 hw1
          go_wp2_with (first | (refine wpList_load_at rfl 29 (.tmp 20) rfl (ad.add (k * 5)) rfl [.int .i64 p.k, .int .i64 p.a, .int .i64 p.b, .int .i64 p.n, strV p.t] _ HCS.out Tryd.underlying29 rfl (by kernel_rfl) ?_))
          refine HC.out.mono ?_
          rintro e w2 ⟨b, ok, rfl, hy, hn, hb2⟩
          have HY := Lib.hid hy
          have HN := Lib.hid hn
          have HB2 := Lib.hid (next_ HBl.out ((below_new wr _).trans (hb2.mono (by rw [World.size_alloc]; omega))))
          have HO2 := Lib.hid (own_next HO.out ((below_new wr _).trans (hb2.mono (by rw [World.size_alloc]; omega))))
          clear hy hn hb2 HC
          cases ok with
          | false =>
            have hbn := HN.out rfl
            have HGF := Lib.hid (show gTy l = false by
              rw [HG.out, begs_cut (k := k + 1) (by rw [HTK.out, begs_snoc HF.out, hbn]; rfl)])
            clear hbn
            go_wp2_with fail
            go_ret
            exact ⟨by rw [HGF.out]; rfl, HB2.out⟩
          | true =>
            have hby := HY.out rfl
            have HBY := Lib.hid hby
            clear hby
            have HNB := Lib.hid (reads_newI w2 (natV b) 3 w2.heap.size rfl)
            go_wp2_with (at_builtin; refine wpList_append_any _ rfl (.tmp 30) (.tmp 32) 39 rfl w.heap.size 3 i3 _ 1 8 Tryd.underlying39 fi3 hz0 hz1 hz2 rfl (by omega) (.slice AF k cF) k (F.map natV) rfl (own_next HO2.out (below_new _ _)) _ (some ⟨_, 0, none⟩) 1 1 [natV b] rfl HNB.out (by simp [Value.oneCell', natV]) (by unfold maxLen; omega) (by omega) (by rw [World.size_alloc]; have := HB2.out.size; omega) ?_; intro v1 w7 oA gA _)
            have HA := Lib.hid oA
            have HGw := Lib.hid gA
            clear oA gA
            go_roundw
            case rel =>
              refine ⟨k + 1, F ++ [b], by omega, by go_num, by rw [List.length_append, HFL.out]; rfl, by rw [HTK.out, begs_snoc HF.out, HBY.out]; rfl, by rw [List.map_append]; exact HA.out, ?_⟩
              exact ((HB2.out.alloc HB2.out.size _).grown HGw.out (by rw [World.size_alloc]; have := HB2.out.size; omega) (fun j e => own_base HO2.out j e))
            case measure => simp [intOf]; omega
        · have hkl : k = l.length := by omega
          subst hkl
          have hlk : ¬ ((l.length : Int) < (l.length : Int)) := by omega
          obtain ⟨j, hj⟩ : ∃ j, l.length = j + 1 := ⟨l.length - 1, by omega⟩
          obtain ⟨x, hx⟩ : ∃ x, F[j]? = some x := ⟨_, List.getElem?_eq_getElem (by rw [HFL.out]; omega)⟩
          obtain ⟨ad, u, rfl, _, hu, a0⟩ := (Reads.of_own HO.out).at_ (k := j) (by omega)
          rw [List.getElem?_map, hx] at hu
          obtain rfl := Option.some.inj hu
          replace a0 : wr.cell? (ad.add j) = some (.int .i64 (x : Int)) := a0
          have hgF : gTy l = (x == 0) := by
            have h := HF.out
            rw [List.take_length] at h
            rw [HG.out, h]
            show (F.getD (l.length - 1) 1 == 0) = _
            rw [show l.length - 1 = j by omega, List.getD_eq_getElem?_getD, hx]
            rfl
          have HGF := Lib.hid hgF
          have hj1 : (j : Int) < (l.length : Int) := by omega
          have hj0 : (0 : Int) ≤ (j : Int) := by omega
          have hlj : (l.length : Int) - 1 = (j : Int) := by omega
          clear hgF hx hu hlt hk hj
          by_cases h0 : x = 0
          · subst h0
            go_wp2_with fail
            go_ret
            exact ⟨by rw [HGF.out]; rfl, HBl.out⟩
          · have f0 : ((x : Int) == 0) = false := beq_false_of_ne (by omega)
            have HX := Lib.hid (show (x == 0) = false from beq_false_of_ne h0)
            clear h0
            go_wp2_with fail
            go_ret
            exact ⟨by rw [HGF.out, HX.out]; rfl, HBl.out⟩
end Go.Proofs.YtcilodgpbdafeaaDoor
