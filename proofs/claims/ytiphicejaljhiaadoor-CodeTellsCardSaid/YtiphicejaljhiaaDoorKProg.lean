/- keep.Program: are two programs alike. -/
import Derived.Test.YtiphicejaljhiaaDoorKLists
import Derived.StillTailTactics
import Derived.Deep.QuietTactic
import Derived.BigQuiet
import Derived.Deep.RegionHeld3
namespace Go.Proofs.YtiphicejaljhiaaDoor
open Go.ChangeShapes Go.WideShapes Go.ChangeAt Go.RowKit
theorem take_more {α : Type} {l l' : List α} {k : Nat} (h : k < l.length) (h' : k < l'.length) (ht : l.take k = l'.take k) (e : l[k] = l'[k]) : l.take (k + 1) = l'.take (k + 1) := by
  rw [List.take_add_one, List.take_add_one, List.getElem?_eq_getElem h, List.getElem?_eq_getElem h', ht, e]
theorem low2 {w wr W : World} {R : Prop} (h : Below w.heap.size w wr) (s : Below wr.heap.size wr W ∧ R) : Below w.heap.size w W := h.trans (s.1.mono h.size)
theorem blk2 {wr W : World} {R : Prop} {g : Nat} {t : TypeId} {cs : Array Value} (h : Blk wr g t cs) (s : Below wr.heap.size wr W ∧ R) : Blk W g t cs := h.next s.1
theorem d_false {d : Bool} {p : Prop} (h : d = true ↔ p) (hn : ¬p) : d = false := by
  cases d with
  | false => rfl
  | true => exact absurd (h.1 rfl) hn
theorem pr_ne {F F' : List Fn} {S S' : List (List UInt8)} {G G' : List Fm} (h : F ≠ F' ∨ S ≠ S' ∨ G ≠ G') : (⟨F, S, G⟩ : Pr) ≠ ⟨F', S', G'⟩ := by
  intro e
  injection e with e1 e2 e3
  rcases h with h | h | h
  · exact h e1
  · exact h e2
  · exact h e3
set_option maxRecDepth 100000 in
set_option maxHeartbeats 20000000 in
theorem c35 (q q' : PrMem) (d : Bool) (hd : d = true ↔ q.pr = q'.pr) (w : World) (hq : PrOk w w.heap.size q) (hq' : PrOk w w.heap.size q') :
    Calls Tryd.prog 35 #[q.val, q'.val] w fun e w' => e = .returned (.bool d) ∧ Below w.heap.size w w' := by
  have HQ := Lib.hid hq
  have HQ' := Lib.hid hq'
  clear hq hq'
  obtain ⟨AF, cF, L, AS, cS, S, AM, cM, M⟩ := q
  obtain ⟨AF', cF', L', AS', cS', S', AM', cM', M'⟩ := q'
  simp only [PrMem.val]
  simp only [PrMem.pr] at hd
  generalize hF : L.map (·.fn) = F at hd
  generalize hF' : L'.map (·.fn) = F' at hd
  generalize hG : M.map (·.fm) = G at hd
  generalize hG' : M'.map (·.fm) = G' at hd
  have HD := Lib.hid hd
  clear hd
  have HF := Lib.hid hF
  have HF' := Lib.hid hF'
  have HG := Lib.hid hG
  have HG' := Lib.hid hG'
  clear hF hF' hG hG'
  have HLF := Lib.hid (show F.length = L.length by rw [← HF.out]; simp)
  have HLF' := Lib.hid (show F'.length = L'.length by rw [← HF'.out]; simp)
  have HLG := Lib.hid (show G.length = M.length by rw [← HG.out]; simp)
  have HLG' := Lib.hid (show G'.length = M'.length by rw [← HG'.out]; simp)
  have lF := HQ.out.lF
  have lM := HQ.out.lM
  simp only at lF lM
  unfold maxLen at lF lM
  have P1 := (Blk.new w 42 #[.slice AF L.length cF, .slice AS S.length cS, .slice AM M.length cM]).alloc (.cells #[.slice AF' L'.length cF', .slice AS' S'.length cS', .slice AM' M'.length cM'] 42)
  have P2 := Blk.new (w.alloc (.cells #[.slice AF L.length cF, .slice AS S.length cS, .slice AM M.length cM] 42)) 42 #[.slice AF' L'.length cF', .slice AS' S'.length cS', .slice AM' M'.length cM']
  rw [World.size_alloc] at P2
  have b1 := next_ (below_new w (.cells #[.slice AF L.length cF, .slice AS S.length cS, .slice AM M.length cM] 42)) (below_new (w.alloc (.cells #[.slice AF L.length cF, .slice AS S.length cS, .slice AM M.length cM] 42)) (.cells #[.slice AF' L'.length cF', .slice AS' S'.length cS', .slice AM' M'.length cM'] 42))
  have BB := Lib.hid b1
  have HS := Lib.hid (HQ.out.strs.below b1)
  have HS' := Lib.hid (HQ'.out.strs.below b1)
  clear b1
  by_cases hnF : L.length = L'.length
  case neg =>
    have fF : ((L.length : Int) != (L'.length : Int)) = true := bne_iff_ne.2 (by omega)
    have HNE := Lib.hid (pr_ne (F := F) (F' := F') (S := S) (S' := S') (G := G) (G' := G') (.inl (fun e => hnF (by rw [← HLF.out, ← HLF'.out, e]))))
    clear hnF
    go_enter Tryd.func35, Tryd.ntmps35
    go_wp2_with fail
    go_ret
    refine ⟨?_, BB.out⟩
    rw [d_false HD.out HNE.out]
    rfl
  have fF : ((L.length : Int) != (L'.length : Int)) = false := bne_eq_false_iff_eq.2 (by omega)
  have HNF := Lib.hid hnF
  clear hnF
  go_enter Tryd.func35, Tryd.ntmps35
  go_wp2_with fail
  refine (c65 S S' AS AS' cS cS' _ _ _ HS.out HS'.out HQ.out.lS).mono ?_
  rintro e w3 ⟨rfl, b3⟩
  have B3 := Lib.hid (next_ BB.out b3)
  have P3 := P1.next b3
  have P3' := P2.next b3
  clear b3 P1 P2
  by_cases hSS : S = S'
  case neg =>
    rw [decide_eq_false hSS]
    have HNE := Lib.hid (pr_ne (F := F) (F' := F') (S := S) (S' := S') (G := G) (G' := G') (.inr (.inl hSS)))
    clear hSS
    go_wp2_with fail
    go_ret
    refine ⟨?_, B3.out⟩
    rw [d_false HD.out HNE.out]
    rfl
  rw [decide_eq_true hSS]
  have HSS := Lib.hid hSS
  clear hSS
  have n2 := P3.cell 2
  have n2' := P3'.cell 2
  by_cases hnM : M.length = M'.length
  case neg =>
    have fM : ((M.length : Int) != (M'.length : Int)) = true := bne_iff_ne.2 (by omega)
    have HNE := Lib.hid (pr_ne (F := F) (F' := F') (S := S) (S' := S') (G := G) (G' := G') (.inr (.inr (fun e => hnM (by rw [← HLG.out, ← HLG'.out, e])))))
    clear hnM
    go_wp2_with fail
    go_ret
    refine ⟨?_, B3.out⟩
    rw [d_false HD.out HNE.out]
    rfl
  have fM : ((M.length : Int) != (M'.length : Int)) = false := bne_eq_false_iff_eq.2 (by omega)
  have HNM := Lib.hid hnM
  clear hnM
  go_wp2_with fail
  clear n2 n2'
  go_loopw [5] (fun i wr => ∃ k : Nat, k ≤ L.length ∧ i = .int .i64 k ∧ F.take k = F'.take k ∧ Hid (Below w.heap.size w wr) ∧ Blk wr w.heap.size 42 #[.slice AF L.length cF, .slice AS S.length cS, .slice AM M.length cM] ∧ Blk wr (w.heap.size + 1) 42 #[.slice AF' L'.length cF', .slice AS' S'.length cS', .slice AM' M'.length cM']) (fun i _ => L.length - (intOf i).toNat)
  case atStart => exact ⟨0, by omega, rfl, rfl, B3, P3, P3'⟩
  clear P3 P3'
  case round =>
    obtain ⟨k, hk, rfl, he, HB, hP, hP'⟩ := hrel
    have HE := Lib.hid he
    clear he
    have n0 := hP.cell 0
    have n0' := hP'.cell 0
    by_cases hlt : k < L.length
    · have hl : (k : Int) < (L.length : Int) := by omega
      have hlt' : k < L'.length := by have := HNF.out; omega
      have hl' : (k : Int) < (L'.length : Int) := by omega
      have kl : k < F.length := by have := HLF.out; omega
      have kl' : k < F'.length := by have := HLF'.out; omega
      have hk0 : (0 : Int) ≤ (k : Int) := by omega
      obtain ⟨ad, e, _, hcs⟩ := Reads.rowAt (f := Fnv.cells) (m := 3) (fun _ => rfl) (HQ.out.fns.below HB.out) (by decide) (List.getElem?_eq_getElem hlt)
      obtain ⟨ad', e', _, hcs'⟩ := Reads.rowAt (f := Fnv.cells) (m := 3) (fun _ => rfl) (HQ'.out.fns.below HB.out) (by decide) (List.getElem?_eq_getElem hlt')
      simp only at e e'
      have hx := HQ.out.fn _ (List.getElem_mem hlt)
      have hx' := HQ'.out.fn _ (List.getElem_mem hlt')
      have hv : F[k] = (L[k]'hlt).fn := by have h := HF.out; subst h; simp
      have hv' : F'[k] = (L'[k]'hlt').fn := by have h := HF'.out; subst h; simp
      have a0 := hcs 0 _ rfl
      have a1 : wr.cell? ⟨(ad.add (k * 3)).block, (ad.add (k * 3)).off + 1, none⟩ = _ := hcs 1 _ rfl
      have a2 : wr.cell? ⟨(ad.add (k * 3)).block, (ad.add (k * 3)).off + 2, none⟩ = _ := hcs 2 _ rfl
      have b0 := hcs' 0 _ rfl
      have b1 : wr.cell? ⟨(ad'.add (k * 3)).block, (ad'.add (k * 3)).off + 1, none⟩ = _ := hcs' 1 _ rfl
      have b2 : wr.cell? ⟨(ad'.add (k * 3)).block, (ad'.add (k * 3)).off + 2, none⟩ = _ := hcs' 2 _ rfl
      have hz : ∀ a : Addr, a.add 0 = a := fun _ => rfl
      rw [hz] at a0 b0
      clear hcs hcs' hz
      generalize (L[k]'hlt : Fnv) = x at hx hv a0 a1 a2
      generalize (L'[k]'hlt' : Fnv) = y at hx' hv' b0 b1 b2
      obtain ⟨⟨lo, fr, cd⟩, xa, xc⟩ := x
      obtain ⟨⟨lo', fr', cd'⟩, ya, yc⟩ := y
      simp only at hx hx' hv hv' a0 a1 a2 b0 b1 b2
      have HX := Lib.hid hx
      have HX' := Lib.hid hx'
      have HNF2 := Lib.hid (show (⟨lo, fr, cd⟩ : Fn) ≠ ⟨lo', fr', cd'⟩ → F ≠ F' from fun h e => h (by rw [← hv, ← hv']; subst e; rfl))
      have HEQ := Lib.hid (show (⟨lo, fr, cd⟩ : Fn) = ⟨lo', fr', cd'⟩ → F.take (k + 1) = F'.take (k + 1) from fun h => take_more kl kl' HE.out (by rw [hv, hv', h]))
      clear hx hx' hv hv'
      subst e
      subst e'
      by_cases h1 : lo = lo'
      case neg =>
        have f1 : (lo != lo') = true := bne_iff_ne.2 h1
        have HNE := Lib.hid (pr_ne (F := F) (F' := F') (S := S) (S' := S') (G := G) (G' := G') (.inl (HNF2.out (fun e => h1 (by injection e)))))
        clear h1
        go_wp2_with fail
        go_quiet (fail)
        go_wp2_with fail
        go_ret
        refine ⟨?_, below_drewN HB.out _⟩
        rw [d_false HD.out HNE.out]
        rfl
      have f1 : (lo != lo') = false := bne_eq_false_iff_eq.2 h1
      have H1 := Lib.hid h1
      clear h1
      by_cases h2 : fr = fr'
      case neg =>
        have f2 : (fr != fr') = true := bne_iff_ne.2 h2
        have HNE := Lib.hid (pr_ne (F := F) (F' := F') (S := S) (S' := S') (G := G) (G' := G') (.inl (HNF2.out (fun e => h2 (by injection e)))))
        clear h2
        go_wp2_with fail
        go_quiet (fail)
        go_wp2_with fail
        go_ret
        refine ⟨?_, below_drewN HB.out _⟩
        rw [d_false HD.out HNE.out]
        rfl
      have f2 : (fr != fr') = false := bne_eq_false_iff_eq.2 h2
      have H2 := Lib.hid h2
      clear h2
      go_wp2_with fail
      go_still_tail 41, (by kernel_rfl)
      change wpList _ _ _ _ _ wr.drew
      go_wp2_with fail
      refine (c47 cd cd' xa ya xc yc w.heap.size w.heap.size wr.drew (HX.out.1.below HB.out.drew) (HX'.out.1.below HB.out.drew) HX.out.2).mono ?_
      rintro e w5 ⟨rfl, b5⟩
      have B5 := Lib.hid (HB.out.drew.trans (b5.mono HB.out.size))
      have P5 := hP.drew.next b5
      have P5' := hP'.drew.next b5
      clear b5
      by_cases h3 : cd = cd'
      case neg =>
        rw [decide_eq_false h3]
        have HNE := Lib.hid (pr_ne (F := F) (F' := F') (S := S) (S' := S') (G := G) (G' := G') (.inl (HNF2.out (fun e => h3 (by injection e)))))
        clear h3
        go_wp2_with fail
        go_ret
        refine ⟨?_, B5.out⟩
        rw [d_false HD.out HNE.out]
        rfl
      rw [decide_eq_true h3]
      have H3 := Lib.hid h3
      clear h3
      go_wp2_with fail
      go_roundw
      case rel => exact ⟨k + 1, by omega, by go_num, HEQ.out (by rw [H1.out, H2.out, H3.out]), B5, P5, P5'⟩
      case measure => simp [intOf]; omega
    · have hl : ¬ (k : Int) < (L.length : Int) := by omega
      have HFE := Lib.hid (show F = F' by
        have h := HE.out
        rw [List.take_of_length_le (by have := HLF.out; omega), List.take_of_length_le (by have := HLF'.out; have := HNF.out; omega)] at h
        exact h)
      clear HE
      go_wp2_with fail
      have lM2 := lM
      go_loopw [6] (fun i wr => ∃ k : Nat, k ≤ M.length ∧ i = .int .i64 k ∧ G.take k = G'.take k ∧ Hid (Below w.heap.size w wr) ∧ Blk wr w.heap.size 42 #[.slice AF L.length cF, .slice AS S.length cS, .slice AM M.length cM] ∧ Blk wr (w.heap.size + 1) 42 #[.slice AF' L'.length cF', .slice AS' S'.length cS', .slice AM' M'.length cM']) (fun i _ => M.length - (intOf i).toNat)
      case atStart => exact ⟨0, by omega, rfl, rfl, HB, hP, hP'⟩
      clear HB hP hP'
      case round =>
        obtain ⟨k, hk, rfl, he, HB, hP, hP'⟩ := hrel
        have HE := Lib.hid he
        clear he
        have n2 := hP.cell 2
        have n2' := hP'.cell 2
        by_cases hlt : k < M.length
        · have hl : (k : Int) < (M.length : Int) := by omega
          have hlt' : k < M'.length := by have := HNM.out; omega
          have hl' : (k : Int) < (M'.length : Int) := by omega
          have kl : k < G.length := by have := HLG.out; omega
          have kl' : k < G'.length := by have := HLG'.out; omega
          have hk0 : (0 : Int) ≤ (k : Int) := by omega
          obtain ⟨ad, e, adb, hcs⟩ := Reads.rowAt (f := Fmv.cells) (m := 4) (fun _ => rfl) (HQ.out.fms.below HB.out) (by decide) (List.getElem?_eq_getElem hlt)
          obtain ⟨ad', e', adb', hcs'⟩ := Reads.rowAt (f := Fmv.cells) (m := 4) (fun _ => rfl) (HQ'.out.fms.below HB.out) (by decide) (List.getElem?_eq_getElem hlt')
          simp only at e e'
          have hx := HQ.out.fm _ (List.getElem_mem hlt)
          have hx' := HQ'.out.fm _ (List.getElem_mem hlt')
          have hv : G[k] = (M[k]'hlt).fm := by have h := HG.out; subst h; simp
          have hv' : G'[k] = (M'[k]'hlt').fm := by have h := HG'.out; subst h; simp
          have a0 := hcs 0 _ rfl
          have a1 : wr.cell? ⟨(ad.add (k * 4)).block, (ad.add (k * 4)).off + 1, none⟩ = _ := hcs 1 _ rfl
          have a2 : wr.cell? ⟨(ad.add (k * 4)).block, (ad.add (k * 4)).off + 2, none⟩ = _ := hcs 2 _ rfl
          have a3 : wr.cell? ⟨(ad.add (k * 4)).block, (ad.add (k * 4)).off + 3, none⟩ = _ := hcs 3 _ rfl
          have b0 := hcs' 0 _ rfl
          have b1 : wr.cell? ⟨(ad'.add (k * 4)).block, (ad'.add (k * 4)).off + 1, none⟩ = _ := hcs' 1 _ rfl
          have b2 : wr.cell? ⟨(ad'.add (k * 4)).block, (ad'.add (k * 4)).off + 2, none⟩ = _ := hcs' 2 _ rfl
          have b3 : wr.cell? ⟨(ad'.add (k * 4)).block, (ad'.add (k * 4)).off + 3, none⟩ = _ := hcs' 3 _ rfl
          have hz : ∀ a : Addr, a.add 0 = a := fun _ => rfl
          rw [hz] at a0 b0
          clear hcs hcs' hz
          generalize (M[k]'hlt : Fmv) = x at hx hv a0 a1 a2 a3
          generalize (M'[k]'hlt' : Fmv) = y at hx' hv' b0 b1 b2 b3
          obtain ⟨⟨kd, fa, fb, cd⟩, xa, xc⟩ := x
          obtain ⟨⟨kd', fa', fb', cd'⟩, ya, yc⟩ := y
          simp only at hx hx' hv hv' a0 a1 a2 a3 b0 b1 b2 b3
          have HX := Lib.hid hx
          have HX' := Lib.hid hx'
          have HNG2 := Lib.hid (show (⟨kd, fa, fb, cd⟩ : Fm) ≠ ⟨kd', fa', fb', cd'⟩ → G ≠ G' from fun h e => h (by rw [← hv, ← hv']; subst e; rfl))
          have HEQ := Lib.hid (show (⟨kd, fa, fb, cd⟩ : Fm) = ⟨kd', fa', fb', cd'⟩ → G.take (k + 1) = G'.take (k + 1) from fun h => take_more kl kl' HE.out (by rw [hv, hv', h]))
          clear hx hx' hv hv'
          subst e
          subst e'
          have hwz := HB.out.size
          have hz1 : w.heap.size + 1 < wr.heap.size := hP'.lt
          have KS := Lib.hid (show ∀ W, Below wr.heap.size wr W → (Below wr.heap.size wr W ∧ W.cell? ⟨w.heap.size, 2, none⟩ = some (.slice (some ad) M.length cM) ∧ W.cell? ⟨w.heap.size + 1, 2, none⟩ = some (.slice (some ad') M'.length cM') ∧ W.cell? (ad.add (k * 4)) = some (.int .i64 kd) ∧ W.cell? ⟨(ad.add (k * 4)).block, (ad.add (k * 4)).off + 1, none⟩ = some (.int .i64 fa) ∧ W.cell? ⟨(ad.add (k * 4)).block, (ad.add (k * 4)).off + 2, none⟩ = some (.int .i64 fb) ∧ W.cell? ⟨(ad.add (k * 4)).block, (ad.add (k * 4)).off + 3, none⟩ = some (.slice xa cd.length xc) ∧ W.cell? (ad'.add (k * 4)) = some (.int .i64 kd') ∧ W.cell? ⟨(ad'.add (k * 4)).block, (ad'.add (k * 4)).off + 1, none⟩ = some (.int .i64 fa') ∧ W.cell? ⟨(ad'.add (k * 4)).block, (ad'.add (k * 4)).off + 2, none⟩ = some (.int .i64 fb') ∧ W.cell? ⟨(ad'.add (k * 4)).block, (ad'.add (k * 4)).off + 3, none⟩ = some (.slice ya cd'.length yc)) from fun W h =>
            have hb : (ad.add (k * 4)).block < wr.heap.size := by rw [block_of_add]; omega
            have hb' : (ad'.add (k * 4)).block < wr.heap.size := by rw [block_of_add]; omega
            ⟨h, (h.cell (p := ⟨w.heap.size, 2, none⟩) (by show w.heap.size < _; omega)).trans n2, (h.cell (p := ⟨w.heap.size + 1, 2, none⟩) (by show w.heap.size + 1 < _; omega)).trans n2', (h.cell hb).trans a0, (h.cell (p := ⟨(ad.add (k * 4)).block, _, none⟩) hb).trans a1, (h.cell (p := ⟨(ad.add (k * 4)).block, _, none⟩) hb).trans a2, (h.cell (p := ⟨(ad.add (k * 4)).block, _, none⟩) hb).trans a3, (h.cell hb').trans b0, (h.cell (p := ⟨(ad'.add (k * 4)).block, _, none⟩) hb').trans b1, (h.cell (p := ⟨(ad'.add (k * 4)).block, _, none⟩) hb').trans b2, (h.cell (p := ⟨(ad'.add (k * 4)).block, _, none⟩) hb').trans b3⟩)
          have S0 := KS.out wr.drew (Below.refl _ _).drew
          clear a0 a1 a2 a3 b0 b1 b2 b3 n2'
          go_wp2_with fail
          go_region_held3 (fun W => Below wr.heap.size wr W ∧ W.cell? ⟨w.heap.size, 2, none⟩ = some (.slice (some ad) M.length cM) ∧ W.cell? ⟨w.heap.size + 1, 2, none⟩ = some (.slice (some ad') M'.length cM') ∧ W.cell? (ad.add (k * 4)) = some (.int .i64 kd) ∧ W.cell? ⟨(ad.add (k * 4)).block, (ad.add (k * 4)).off + 1, none⟩ = some (.int .i64 fa) ∧ W.cell? ⟨(ad.add (k * 4)).block, (ad.add (k * 4)).off + 2, none⟩ = some (.int .i64 fb) ∧ W.cell? ⟨(ad.add (k * 4)).block, (ad.add (k * 4)).off + 3, none⟩ = some (.slice xa cd.length xc) ∧ W.cell? (ad'.add (k * 4)) = some (.int .i64 kd') ∧ W.cell? ⟨(ad'.add (k * 4)).block, (ad'.add (k * 4)).off + 1, none⟩ = some (.int .i64 fa') ∧ W.cell? ⟨(ad'.add (k * 4)).block, (ad'.add (k * 4)).off + 2, none⟩ = some (.int .i64 fb') ∧ W.cell? ⟨(ad'.add (k * 4)).block, (ad'.add (k * 4)).off + 3, none⟩ = some (.slice ya cd'.length yc))
            (first | assumption | exact S0 | (refine KS.out _ ?_; repeat (first | exact Below.refl _ _ | refine Below.drew ?_ | refine Below.alloc ?_ (by simp) _ | refine Below.setCell ?_ (by simp) _)))
            (fail)
          all_goals
            by_cases g1 : kd = kd'
            case neg =>
              have f1 : (kd != kd') = true := bne_iff_ne.2 g1
              have HNE := Lib.hid (pr_ne (F := F) (F' := F') (S := S) (S' := S') (G := G) (G' := G') (.inr (.inr (HNG2.out (fun e => g1 (by injection e))))))
              clear g1
              go_wp2_with fail
              go_ret
              refine ⟨?_, low2 HB.out (by assumption)⟩
              rw [d_false HD.out HNE.out]
              rfl
            have f1 : (kd != kd') = false := bne_eq_false_iff_eq.2 g1
            have G1 := Lib.hid g1
            clear g1
            by_cases g2 : fa = fa'
            case neg =>
              have f2 : (fa != fa') = true := bne_iff_ne.2 g2
              have HNE := Lib.hid (pr_ne (F := F) (F' := F') (S := S) (S' := S') (G := G) (G' := G') (.inr (.inr (HNG2.out (fun e => g2 (by injection e))))))
              clear g2
              go_wp2_with fail
              go_ret
              refine ⟨?_, low2 HB.out (by assumption)⟩
              rw [d_false HD.out HNE.out]
              rfl
            have f2 : (fa != fa') = false := bne_eq_false_iff_eq.2 g2
            have G2 := Lib.hid g2
            clear g2
            by_cases g3 : fb = fb'
            case neg =>
              have f3 : (fb != fb') = true := bne_iff_ne.2 g3
              have HNE := Lib.hid (pr_ne (F := F) (F' := F') (S := S) (S' := S') (G := G) (G' := G') (.inr (.inr (HNG2.out (fun e => g3 (by injection e))))))
              clear g3
              go_wp2_with fail
              go_ret
              refine ⟨?_, low2 HB.out (by assumption)⟩
              rw [d_false HD.out HNE.out]
              rfl
            have f3 : (fb != fb') = false := bne_eq_false_iff_eq.2 g3
            have G3 := Lib.hid g3
            clear g3
            go_wp2_with fail
            refine (c66 cd cd' xa ya xc yc w.heap.size w.heap.size _ (HX.out.1.below (low2 HB.out (by assumption))) (HX'.out.1.below (low2 HB.out (by assumption))) HX.out.2).mono ?_
            rintro e w5 ⟨rfl, b5⟩
            have B5 := Lib.hid (next_ (low2 HB.out (by assumption)) b5)
            have P5 := Blk.next (blk2 hP (by assumption)) b5
            have P5' := Blk.next (blk2 hP' (by assumption)) b5
            clear b5
            by_cases g4 : cd = cd'
            case neg =>
              rw [decide_eq_false g4]
              have HNE := Lib.hid (pr_ne (F := F) (F' := F') (S := S) (S' := S') (G := G) (G' := G') (.inr (.inr (HNG2.out (fun e => g4 (by injection e))))))
              clear g4
              go_wp2_with fail
              go_ret
              refine ⟨?_, B5.out⟩
              rw [d_false HD.out HNE.out]
              rfl
            rw [decide_eq_true g4]
            have G4 := Lib.hid g4
            clear g4
            go_wp2_with fail
            go_roundw
            case rel => exact ⟨k + 1, by omega, by go_num, HEQ.out (by rw [G1.out, G2.out, G3.out, G4.out]), B5, P5, P5'⟩
            case measure => simp [intOf]; omega
        · have hl : ¬ (k : Int) < (M.length : Int) := by omega
          have HGE := Lib.hid (show G = G' by
            have h := HE.out
            rw [List.take_of_length_le (by have := HLG.out; omega), List.take_of_length_le (by have := HLG'.out; have := HNM.out; omega)] at h
            exact h)
          clear HE
          go_wp2_with fail
          go_ret
          refine ⟨?_, HB.out⟩
          rw [show d = true from HD.out.2 (by rw [HFE.out, HSS.out, HGE.out])]
          rfl
end Go.Proofs.YtiphicejaljhiaaDoor
