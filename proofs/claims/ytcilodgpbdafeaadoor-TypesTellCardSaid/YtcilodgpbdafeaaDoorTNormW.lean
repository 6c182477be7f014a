/- types.Normal: a type with its variables' numbers as they come. -/
import Derived.Test.YtcilodgpbdafeaaDoorTMatch
import Derived.Deep.MidRow
import Derived.Deep.CutRange
namespace Go.Proofs.YtcilodgpbdafeaaDoor
open Go.ChangeShapes Go.WideShapes Go.ChangeAt Go.RowKit
set_option linter.unusedVariables false
set_option linter.unusedSimpArgs false
theorem flat_set5 (p : Part) : ∀ (L : List Part) (k : Nat), k < L.length → (L.set k p).flatMap partC = (((((L.flatMap partC).set (k * 5) (.int .i64 p.k)).set (k * 5 + 1) (.int .i64 p.a)).set (k * 5 + 2) (.int .i64 p.b)).set (k * 5 + 3) (.int .i64 p.n)).set (k * 5 + 4) (strV p.t) := by
  intro L
  induction L with
  | nil => intro k h; simp at h
  | cons y L ih =>
    intro k h
    cases k with
    | zero => rfl
    | succ k =>
      have hl : (partC y).length = 5 := rfl
      rw [List.set_cons_succ, List.flatMap_cons, ih k (by simpa using h), List.flatMap_cons]
      rw [List.set_append_right _ _ (by rw [hl]; omega), List.set_append_right _ _ (by rw [hl]; omega), List.set_append_right _ _ (by rw [hl]; omega), List.set_append_right _ _ (by rw [hl]; omega), List.set_append_right _ _ (by rw [hl]; omega)]
      have e : ∀ q, (k + 1) * 5 + q - (partC y).length = k * 5 + q := fun q => by rw [hl]; omega
      have e0 : (k + 1) * 5 - (partC y).length = k * 5 := by rw [hl]; omega
      rw [e, e, e, e, e0]
def zeroP : Part := ⟨0, 0, 0, 0, []⟩
/-- Part k is stored. -/
theorem own_part {w : World} {base r n cap : Nat} {L : List Part} (h : w.ownsRow base 29 5 (.slice (some ⟨r, 0, none⟩) n cap) n (L.flatMap partC)) (hL : L.length = n) {k : Nat} (hk : k < n) (p : Part) :
    (((((w.setCell ⟨r, k * 5, none⟩ (.int .i64 p.k)).setCell ⟨r, k * 5 + 1, none⟩ (.int .i64 p.a)).setCell ⟨r, k * 5 + 2, none⟩ (.int .i64 p.b)).setCell ⟨r, k * 5 + 3, none⟩ (.int .i64 p.n)).setCell ⟨r, k * 5 + 4, none⟩ (strV p.t)).ownsRow base 29 5 (.slice (some ⟨r, 0, none⟩) n cap) n ((L.set k p).flatMap partC) := by
  rw [flat_set5 p L k (by omega)]
  exact (((((h.stored _ _).1.stored _ _).1.stored _ _).1.stored _ _).1.stored _ _).1
theorem grown_part (w : World) (r k : Nat) (p : Part) : w.grownBy (((((w.setCell ⟨r, k * 5, none⟩ (.int .i64 p.k)).setCell ⟨r, k * 5 + 1, none⟩ (.int .i64 p.a)).setCell ⟨r, k * 5 + 2, none⟩ (.int .i64 p.b)).setCell ⟨r, k * 5 + 3, none⟩ (.int .i64 p.n)).setCell ⟨r, k * 5 + 4, none⟩ (strV p.t)) (some r) :=
  ((((grown_set w r _ _).trans (grown_set _ r _ _)).trans (grown_set _ r _ _)).trans (grown_set _ r _ _)).trans (grown_set _ r _ _)
theorem own_cells5 {w : World} {base r n cap : Nat} {L : List Part} (h : w.ownsRow base 29 5 (.slice (some ⟨r, 0, none⟩) n cap) n (L.flatMap partC)) (hL : L.length = n) {k : Nat} (hk : k < n) (q : Nat) (hq : q < 5) :
    ∃ u, w.cell? ⟨r, k * 5 + q, none⟩ = some u ∧ w.frozen? ⟨r, k * 5 + q, none⟩ = false := by
  have hlt : k < L.length := by omega
  have h1 := flatN partC 5 (fun _ => rfl) L k q L[k] (List.getElem?_eq_getElem hlt) hq
  have h2 := h.cellAt (k * 5 + q) (by omega)
  rw [h1] at h2
  exact ⟨_, h2.trans (List.getElem?_eq_getElem (by show q < 5; exact hq)), h.frozenAt _⟩
theorem own_there {w : World} {base r n cap : Nat} {L : List Part} (h : w.ownsRow base 29 5 (.slice (some ⟨r, 0, none⟩) n cap) n (L.flatMap partC)) (hL : L.length = n) {k : Nat} (hk : k < n) : w.there r (k * 5) 5 := fun q hq => by
  obtain ⟨u, h1, h2⟩ := own_cells5 h hL hk q hq
  exact ⟨by rw [h1]; rfl, h2⟩
/-- The numbers by now. -/
def varI (V : List Int) : Int → Option Value := fun x => if x ∈ V then some (.int .i64 ((V.idxOf x : Nat) : Int)) else none
theorem varI_nil : varI [] = fun _ => none := by funext x; unfold varI; rw [if_neg (by simp)]
theorem varI_snoc {r : Int} {V : List Int} (h : r ∉ V) : (fun x : Int => if x = r then some (Value.int .i64 ((V.length : Nat) : Int)) else varI V x) = varI (V ++ [r]) := by
  funext x
  unfold varI
  by_cases hx : x = r
  · subst hx
    rw [if_pos rfl, if_pos (by simp), List.idxOf_append, if_neg h]
    simp
  · rw [if_neg hx]
    by_cases hm : x ∈ V
    · rw [if_pos hm, if_pos (by simp [hm]), List.idxOf_append, if_pos hm]
    · rw [if_neg hm, if_neg (by simp [hm, hx])]
theorem norm_at {l : List Part} {k : Nat} {p : Part} (h : l[k]? = some p) : (norm l)[k]? = some (ren (nums (l.take (k + 1)) []) p) := by
  have h1 : ((norm l).take (k + 1))[k]? = (norm l)[k]? := by rw [List.getElem?_take, if_pos (Nat.lt_succ_self _)]
  rw [← h1, norm_take, List.getElem?_map, List.getElem?_take, if_pos (Nat.lt_succ_self _), h]
  rfl
theorem nums_step {l : List Part} {k : Nat} {p : Part} (h : l[k]? = some p) : nums (l.take (k + 1)) [] = if p.k = 11 ∧ p.n ∉ nums (l.take k) [] then nums (l.take k) [] ++ [p.n] else nums (l.take k) [] := by
  rw [take_succ_some h, nums_append]
  rfl
theorem set_take {L M : List Part} {k : Nat} {p : Part} (hl : L.length = M.length) (h : L.take k = M.take k) (hp : M[k]? = some p) : (L.set k p).take (k + 1) = M.take (k + 1) := by
  have hk := (List.getElem?_eq_some_iff.1 hp).1
  rw [take_succ_some hp, ← h, List.take_add_one, List.getElem?_set, if_pos rfl, if_pos (by omega), List.take_set_of_le (Nat.le_refl _)]
  rfl
theorem made_parts (n : Nat) : (madeCells (Value.agg #[.int .i64 0, .int .i64 0, .int .i64 0, .int .i64 0, .string ⟨#[]⟩]).cells (n * 5)).toList = (List.replicate n zeroP).flatMap partC := by
  have hlen : ((List.replicate n zeroP).flatMap partC).length = n * 5 := by rw [flat_len partC 5 (fun _ => rfl), List.length_replicate]
  unfold madeCells
  apply List.ext_getElem?
  intro i
  by_cases hi : i < n * 5
  · have hk : i / 5 < n := by omega
    have hj : i % 5 < 5 := Nat.mod_lt _ (by decide)
    have h1 := flatN partC 5 (fun _ => rfl) (List.replicate n zeroP) (i / 5) (i % 5) zeroP (by rw [List.getElem?_replicate, if_pos hk]) hj
    rw [show i / 5 * 5 + i % 5 = i by omega] at h1
    rw [h1, Array.toList_map, List.getElem?_map, Array.getElem?_toList, Array.getElem?_range, if_pos hi]
    have hm : i % 5 = 0 ∨ i % 5 = 1 ∨ i % 5 = 2 ∨ i % 5 = 3 ∨ i % 5 = 4 := by omega
    rcases hm with hm | hm | hm | hm | hm <;> simp [Value.cells, hm, partC, zeroP]
  · rw [List.getElem?_eq_none (by simp; omega), List.getElem?_eq_none (by omega)]
theorem frozen_alloc_lt (w : World) (o : Obj) (p : Addr) (hp : p.block < w.heap.size) : (w.alloc o).frozen? p = w.frozen? p := by
  unfold World.frozen?
  rw [Below.heap_alloc w o p.block hp]
/-- In the midst of a round: part q lies in block pb. -/
structure NormW (W w : World) (l : List Part) (k vb : Nat) (V : List Int) (L : List Part) (pb : Nat) (q : Part) : Prop where
  len : L.length = l.length
  took : L.take k = (norm l).take k
  below : Below W.heap.size W w
  map : IMap w vb (varI V) V.length
  own : w.ownsRow W.heap.size 29 5 (.slice (some ⟨vb + 1, 0, none⟩) l.length l.length) l.length (L.flatMap partC)
  blk : Blk w pb 29 (partC q).toArray
  pbn : vb + 1 < pb
  wv : W.heap.size ≤ vb
theorem own_blk_lt {w : World} {base r n cap : Nat} {L : List Part} (h : w.ownsRow base 29 5 (.slice (some ⟨r, 0, none⟩) n cap) n (L.flatMap partC)) (hL : L.length = n) {k : Nat} (hk : k < n) : r < w.heap.size := by
  obtain ⟨u, hu, _⟩ := own_cells5 h hL hk 0 (by decide)
  exact World.block_lt_of_cell? w _ hu
theorem NormW.start {W w : World} {l : List Part} {k vb : Nat} {V : List Int} {L : List Part} (hL : L.length = l.length) (ht : L.take k = (norm l).take k) (hb : Below W.heap.size W w) (hm : IMap w vb (varI V) V.length)
    (ho : w.ownsRow W.heap.size 29 5 (.slice (some ⟨vb + 1, 0, none⟩) l.length l.length) l.length (L.flatMap partC)) (hk : k < l.length) (hv : W.heap.size ≤ vb) (q : Part) : NormW W (w.alloc (.cells (partC q).toArray 29)) l k vb V L w.heap.size q :=
  ⟨hL, ht, hb.alloc hb.size _, hm.alloc _, ho.alloc _, Blk.new w 29 _, own_blk_lt ho hL hk, hv⟩
section
variable {W w w' : World} {l : List Part} {k vb : Nat} {V V' : List Int} {L : List Part} {pb : Nat} {q : Part}
theorem NormW.cells (h : NormW W w l k vb V L pb q) : ∀ j v, (partC q)[j]? = some v → w.cell? ((⟨pb, 0, none⟩ : Addr).add j) = some v := fun j v hv => by
  rw [Addr.add_mid, Nat.zero_add]
  have := h.blk.cell j
  rw [this, List.getElem?_toArray]
  exact hv
theorem NormW.mapped (h : NormW W w l k vb V L pb q) (hg : w.grownBy w' (some vb)) {n : Nat} (hm : IMap w' vb (varI V') n) (hn : V'.length = n) : NormW W w' l k vb V' L pb q := by
  subst hn
  refine ⟨h.len, h.took, h.below.grown hg h.below.size (fun j e => by injection e with e; rw [← e]; exact h.wv), hm, h.own.kept hg (.inr fun e => ?_), h.blk.grown hg (fun e => h.map.ne h.blk (by injection e)), h.pbn, h.wv⟩
  simp [Value.ownBlock] at e
theorem NormW.setn (h : NormW W w l k vb V L pb q) (x : Int) : NormW W (w.setCell ⟨pb, 3, none⟩ (.int .i64 x)) l k vb V L pb { q with n := x } := by
  have hp := h.pbn
  have hv := h.wv
  refine ⟨h.len, h.took, ⟨h.below.os, h.below.tape, h.below.output, by rw [World.size_setCell]; exact h.below.size, fun j hj => (Below.heap_setCell w ⟨pb, 3, none⟩ _ j (by show j ≠ pb; omega)).trans (h.below.block j hj)⟩, h.map.keep (Below.heap_setCell w ⟨pb, 3, none⟩ _ vb (by show vb ≠ pb; omega)), h.own.kept (grown_set w pb 3 _) (.inr fun e => ?_), h.blk.set_ 3 _, h.pbn, h.wv⟩
  have : vb + 1 = pb := by simpa [Value.ownBlock] using e
  omega
theorem NormW.done (h : NormW W w l k vb V L pb q) (hk : k < l.length) (he : (norm l)[k]? = some q) :
    (L.set k q).length = l.length ∧ (L.set k q).take (k + 1) = (norm l).take (k + 1) ∧ Below W.heap.size W (w.setCells (vb + 1) (k * 5) (partC q)) ∧ IMap (w.setCells (vb + 1) (k * 5) (partC q)) vb (varI V) V.length ∧ (w.setCells (vb + 1) (k * 5) (partC q)).ownsRow W.heap.size 29 5 (.slice (some ⟨vb + 1, 0, none⟩) l.length l.length) l.length ((L.set k q).flatMap partC) := by
  have hg : w.grownBy (w.setCells (vb + 1) (k * 5) (partC q)) (some (vb + 1)) := grown_part w (vb + 1) k q
  have hv := h.wv
  exact ⟨by rw [List.length_set]; exact h.len, set_take (by rw [h.len, norm_len]) h.took he, h.below.grown hg h.below.size (fun j e => by injection e with e; omega), h.map.keep (hg.block vb h.map.lt (fun e => by injection e with e; omega)), own_part h.own h.len hk q⟩
end
def NormEnd (l : List Part) (W : World) (e : Ending) (W' : World) : Prop :=
  ∃ v, e = .returned (.tuple #[v, .bool (gTy l)]) ∧ Below W.heap.size W W' ∧ (gTy l = true → W'.ownsRow W.heap.size 29 5 v l.length ((norm l).flatMap partC)) ∧ (gTy l = false → v = .slice none 0 0)
set_option maxRecDepth 100000 in
set_option maxHeartbeats 8000000 in
theorem c20 (l : List Part) (A : Option Addr) (c : Nat) (W : World) (ha : RT W A l) : Calls Tryd.prog 20 #[.slice A l.length c] W (NormEnd l W) := by
  have HA := Lib.hid ha
  clear ha
  have hc := c13 l A c _ _ HA.out (Nat.le_refl _)
  have HC := Lib.hid hc
  clear hc
  cases hg : gTy l with
  | false =>
    have HG := Lib.hid hg
    rw [hg] at HC
    clear hg
    go_enter Tryd.func20, Tryd.ntmps20
    go_wp2_with fail
    refine HC.out.mono ?_
    rintro e w1 ⟨rfl, hb1⟩
    have HB1 := Lib.hid hb1
    clear hb1
    go_wp2_with fail
    go_ret2
    exact ⟨_, by rw [HG.out]; rfl, HB1.out, fun h => (by rw [HG.out] at h; cases h), fun _ => rfl⟩
  | true =>
    have HG := Lib.hid hg
    rw [hg] at HC
    have hlen : l.length ≤ 200 := by
      obtain ⟨T, _, e, h⟩ := (gTy_iff l).1 hg
      rw [e, enc_len]; exact h
    clear hg
    obtain ⟨i29, fi29, hz0, hz1, hz2⟩ := info_parts part_info
    have hmm := @run_makeMap Tryd.prog
    go_enter Tryd.func20, Tryd.ntmps20
    go_wp2_with fail
    refine HC.out.mono ?_
    rintro e w1 ⟨rfl, hb1⟩
    have HB1 := Lib.hid hb1
    clear hb1
    obtain ⟨w3, hmk, ho3, hg3⟩ := run_makeSlice_full (P := Tryd.prog) (w1.alloc (.map #[] 0)) W.heap.size 23 29 i29 _ 5 Tryd.underlying23 fi29 hz0 hz1 .i64 .i64 l.length (by omega) (by rw [hz2]; omega) (by unfold maxLen; omega) (by rw [World.size_alloc]; have := HB1.out.size; omega)
    rw [made_parts] at ho3
    rw [World.size_alloc] at hmk ho3
    have HO3 := Lib.hid ho3
    have HB3 := Lib.hid (show Below W.heap.size W w3 from (HB1.out.alloc HB1.out.size _).grown hg3 (by rw [World.size_alloc]; have := HB1.out.size; omega) (fun k e => by cases e))
    have HI3 := Lib.hid (show IMap w3 w1.heap.size (varI []) 0 by rw [varI_nil]; exact (IMap.made w1).keep (hg3.block _ (by rw [World.size_alloc]; omega) (fun e => by cases e)))
    have HLS := Lib.hid HB1.out.size
    clear ho3 hg3 hz0 hz1 hz2 fi29
    go_wp2_with fail
    go_loopw [19] (fun i wr => ∃ (k : Nat) (L : List Part), k ≤ l.length ∧ i = .int .i64 k ∧ L.length = l.length ∧ L.take k = (norm l).take k ∧ Below W.heap.size W wr ∧ IMap wr w1.heap.size (varI (nums (l.take k) [])) (nums (l.take k) []).length ∧ wr.ownsRow W.heap.size 29 5 (.slice (some ⟨w1.heap.size + 1, 0, none⟩) l.length l.length) l.length (L.flatMap partC)) (fun i _ => l.length - (intOf i).toNat)
    case atStart => exact ⟨0, _, by omega, rfl, List.length_replicate, rfl, HB3.out, HI3.out, HO3.out⟩
    case round =>
      obtain ⟨k, L, hk, rfl, hL, htk, hb, him, hown⟩ := hrel
      have QL := Lib.hid hL
      have QT := Lib.hid htk
      have QB := Lib.hid hb
      have QI := Lib.hid him
      have QO := Lib.hid hown
      clear hL htk hb him hown
      by_cases hlt : k < l.length
      · have hlk : (k : Int) < (l.length : Int) := by omega
        have hk0 : (0 : Int) ≤ (k : Int) := by omega
        obtain ⟨ad, rfl, _, hcs⟩ := ((HA.out.next QB.out).partAt (List.getElem?_eq_getElem hlt))
        have hpk : l[k]? = some l[k] := List.getElem?_eq_getElem hlt
        generalize l[k] = p at hcs hpk
        have HCS := Lib.hid hcs
        have HN := Lib.hid (norm_at hpk)
        have HNm := Lib.hid (nums_step hpk)
        have hrl : w1.heap.size + 1 < wr.heap.size := by
          obtain ⟨u, hu, _⟩ := own_cells5 QO.out QL.out hlt 0 (by decide)
          exact World.block_lt_of_cell? wr _ hu
        have HRL := Lib.hid hrl
        clear hcs hpk hrl
        by_cases h11 : p.k = 11
        · obtain ⟨pk, pa, pb', pn, pt⟩ := p
          simp only at h11
          subst h11
          simp only at HCS HN HNm
          by_cases hin : pn ∈ nums (l.take k) []
          · have HNm2 := Lib.hid (show nums (l.take (k + 1)) [] = nums (l.take k) [] by rw [HNm.out, if_neg (fun h => h.2 hin)])
            have NW0 := NormW.start QL.out QT.out QB.out QI.out QO.out hlt HLS.out ⟨11, pa, pb', pn, pt⟩
            have hlk := look47 NW0.map pn
            have hv : varI (nums (l.take k) []) pn = some (.int .i64 (((nums (l.take k) []).idxOf pn : Nat) : Int)) := if_pos hin
            rw [hv] at hlk
            have HPE := Lib.hid (show (norm l)[k]? = some ⟨11, pa, pb', (((nums (l.take k) []).idxOf pn : Nat) : Int), pt⟩ by rw [HN.out, HNm2.out]; unfold ren; rw [if_pos rfl])
            generalize (nums (l.take k) []).idxOf pn = ix at hlk HPE
            replace hlk : (Instr.lookup 47 (.map (some w1.heap.size)) (.int .i64 pn) true).run Tryd.prog (wr.alloc (.cells #[.int .i64 11, .int .i64 pa, .int .i64 pb', .int .i64 pn, strV pt] 29)) = .ok (.tuple #[.int .i64 (ix : Int), .bool true]) (wr.alloc (.cells #[.int .i64 11, .int .i64 pa, .int .i64 pb', .int .i64 pn, strV pt] 29)) := hlk
            have NW := Lib.hid (NormW.start QL.out QT.out QB.out QI.out QO.out hlt HLS.out ⟨11, pa, pb', (ix : Int), pt⟩)
            rw [← HNm2.out] at NW
            clear hin hv NW0
            go_upto_region 14 with (first | (refine wpList_load_at rfl 29 (.tmp 22) rfl (ad.add (k * 5)) rfl [.int .i64 11, .int .i64 pa, .int .i64 pb', .int .i64 pn, strV pt] _ HCS.out Tryd.underlying29 rfl (by kernel_rfl) ?_))
            change Code.wp _ _ _ _ (wr.alloc (.cells (partC ⟨11, pa, pb', (ix : Int), pt⟩).toArray 29))
            clear hlk
            generalize wr.alloc (.cells (partC ⟨11, pa, pb', (ix : Int), pt⟩).toArray 29) = w5 at NW ⊢
            generalize wr.heap.size = pb at NW ⊢
            have HQC := Lib.hid (NW.out.cells)
            have HTh := Lib.hid (own_there NW.out.own NW.out.len hlt)
            go_upto_region 15 with (first | (refine wpList_load_at rfl 29 (.tmp 7) rfl ⟨pb, 0, none⟩ rfl [.int .i64 11, .int .i64 pa, .int .i64 pb', .int .i64 (ix : Int), strV pt] _ HQC.out Tryd.underlying29 rfl (by kernel_rfl) ?_) | (refine wpList_store_mid rfl 29 (.tmp 47) (.tmp 46) rfl (w1.heap.size + 1) (k * 5) #[.int .i64 11, .int .i64 pa, .int .i64 pb', .int .i64 (ix : Int), strV pt] rfl rfl HTh.out (by kernel_rfl) (by simp [Value.oneCell']) ?_))
            go_wp2_with fail
            go_roundw
            case rel =>
              obtain ⟨r1, r2, r3, r4, r5⟩ := NW.out.done hlt HPE.out
              exact ⟨k + 1, L.set k ⟨11, pa, pb', (ix : Int), pt⟩, by omega, by go_num, r1, r2, r3, r4, r5⟩
            case measure => simp [intOf]; omega
          · have HNm2 := Lib.hid (show nums (l.take (k + 1)) [] = nums (l.take k) [] ++ [pn] by rw [HNm.out, if_pos (by first | exact ⟨rfl, hin⟩ | exact ⟨trivial, hin⟩)])
            have NW0 := NormW.start QL.out QT.out QB.out QI.out QO.out hlt HLS.out ⟨11, pa, pb', pn, pt⟩
            have hlk := look47 NW0.map pn
            have hv : varI (nums (l.take k) []) pn = none := if_neg hin
            rw [hv] at hlk
            obtain ⟨w4, hst, hm4, hg4⟩ := store47 NW0.map pn (.int .i64 (((nums (l.take k) []).length : Nat) : Int))
            rw [varI_snoc hin, hv] at hm4
            have hln := fun ty => NW0.map.len (P := Tryd.prog) (T := 47) (ty := ty) Tryd.underlying47
            have HPE := Lib.hid (show (norm l)[k]? = some ⟨11, pa, pb', (((nums (l.take k) []).length : Nat) : Int), pt⟩ by rw [HN.out, HNm2.out]; unfold ren; rw [if_pos rfl]; show some (Part.mk _ _ _ (((nums (l.take k) [] ++ [pn]).idxOf pn : Nat) : Int) _) = _; rw [List.idxOf_append, if_neg hin]; simp)
            have NW4 := NW0.mapped hg4 hm4 (by simp)
            rw [← HNm2.out] at NW4
            generalize (nums (l.take k) []).length = ix at hst hln HPE
            replace hlk : (Instr.lookup 47 (.map (some w1.heap.size)) (.int .i64 pn) true).run Tryd.prog (wr.alloc (.cells #[.int .i64 11, .int .i64 pa, .int .i64 pb', .int .i64 pn, strV pt] 29)) = .ok (.tuple #[.int .i64 0, .bool false]) (wr.alloc (.cells #[.int .i64 11, .int .i64 pa, .int .i64 pb', .int .i64 pn, strV pt] 29)) := hlk
            replace hln : (Builtin.len_ #[47] 3 #[.map (some w1.heap.size)]).run Tryd.prog (wr.alloc (.cells #[.int .i64 11, .int .i64 pa, .int .i64 pb', .int .i64 pn, strV pt] 29)) = .ok (.int .i64 (ix : Int)) (wr.alloc (.cells #[.int .i64 11, .int .i64 pa, .int .i64 pb', .int .i64 pn, strV pt] 29)) := hln 3
            replace hst : (Instr.mapUpdate 47 (.map (some w1.heap.size)) (.int .i64 pn) (.int .i64 (ix : Int))).run Tryd.prog (wr.alloc (.cells #[.int .i64 11, .int .i64 pa, .int .i64 pb', .int .i64 pn, strV pt] 29)) = .ok () w4 := hst
            have c3 : w4.cell? ⟨wr.heap.size, 3, none⟩ = some (.int .i64 pn) := NW4.blk.cell 3
            have f3 := NW4.blk.frozen 3
            have NW := Lib.hid (NW4.setn (ix : Int))
            clear hin hv NW0 NW4 hm4 hg4
            go_upto_region 14 with (first | (refine wpList_load_at rfl 29 (.tmp 22) rfl (ad.add (k * 5)) rfl [.int .i64 11, .int .i64 pa, .int .i64 pb', .int .i64 pn, strV pt] _ HCS.out Tryd.underlying29 rfl (by kernel_rfl) ?_))
            clear hlk hst hln c3 f3
            generalize w4.setCell ⟨wr.heap.size, 3, none⟩ (.int .i64 (ix : Int)) = w5 at NW ⊢
            generalize wr.heap.size = pb at NW ⊢
            have HQC := Lib.hid (NW.out.cells)
            have HTh := Lib.hid (own_there NW.out.own NW.out.len hlt)
            go_upto_region 15 with (first | (refine wpList_load_at rfl 29 (.tmp 7) rfl ⟨pb, 0, none⟩ rfl [.int .i64 11, .int .i64 pa, .int .i64 pb', .int .i64 (ix : Int), strV pt] _ HQC.out Tryd.underlying29 rfl (by kernel_rfl) ?_) | (refine wpList_store_mid rfl 29 (.tmp 47) (.tmp 46) rfl (w1.heap.size + 1) (k * 5) #[.int .i64 11, .int .i64 pa, .int .i64 pb', .int .i64 (ix : Int), strV pt] rfl rfl HTh.out (by kernel_rfl) (by simp [Value.oneCell']) ?_))
            go_wp2_with fail
            go_roundw
            case rel =>
              obtain ⟨r1, r2, r3, r4, r5⟩ := NW.out.done hlt HPE.out
              exact ⟨k + 1, L.set k ⟨11, pa, pb', (ix : Int), pt⟩, by omega, by go_num, r1, r2, r3, r4, r5⟩
            case measure => simp [intOf]; omega
        · have f11 : (p.k == 11) = false := beq_false_of_ne h11
          have HRen := Lib.hid (show ∀ V, ren V p = p from fun V => ren_ne h11 V)
          have HNm2 := Lib.hid (show nums (l.take (k + 1)) [] = nums (l.take k) [] by rw [HNm.out, if_neg (fun h => h11 h.1)])
          have NW := Lib.hid (NormW.start QL.out QT.out QB.out QI.out QO.out hlt HLS.out p)
          have HPE := Lib.hid (show (norm l)[k]? = some p by rw [HN.out, HRen.out])
          rw [← HNm2.out] at NW
          clear h11
          go_upto_region 14 with (first | (refine wpList_load_at rfl 29 (.tmp 22) rfl (ad.add (k * 5)) rfl [.int .i64 p.k, .int .i64 p.a, .int .i64 p.b, .int .i64 p.n, strV p.t] _ HCS.out Tryd.underlying29 rfl (by kernel_rfl) ?_))
          change Code.wp _ _ _ _ (wr.alloc (.cells (partC p).toArray 29))
          generalize wr.alloc (.cells (partC p).toArray 29) = w5 at NW ⊢
          generalize wr.heap.size = pb at NW ⊢
          have HQC := Lib.hid (NW.out.cells)
          have HTh := Lib.hid (own_there NW.out.own NW.out.len hlt)
          go_upto_region 15 with (first | (refine wpList_load_at rfl 29 (.tmp 7) rfl ⟨pb, 0, none⟩ rfl [.int .i64 p.k, .int .i64 p.a, .int .i64 p.b, .int .i64 p.n, strV p.t] _ HQC.out Tryd.underlying29 rfl (by kernel_rfl) ?_) | (refine wpList_store_mid rfl 29 (.tmp 47) (.tmp 46) rfl (w1.heap.size + 1) (k * 5) #[.int .i64 p.k, .int .i64 p.a, .int .i64 p.b, .int .i64 p.n, strV p.t] rfl rfl HTh.out (by kernel_rfl) (by simp [Value.oneCell']) ?_))
          go_wp2_with fail
          go_roundw
          case rel =>
            obtain ⟨r1, r2, r3, r4, r5⟩ := NW.out.done hlt HPE.out
            exact ⟨k + 1, L.set k p, by omega, by go_num, r1, r2, r3, r4, r5⟩
          case measure => simp [intOf]; omega
      · have hkl : k = l.length := by omega
        subst hkl
        have hlk : ¬ ((l.length : Int) < (l.length : Int)) := by omega
        have HLn := Lib.hid (show L = norm l by
          have h := QT.out
          rw [List.take_of_length_le (by rw [QL.out]; exact Nat.le_refl _), List.take_of_length_le (by rw [norm_len]; exact Nat.le_refl _)] at h
          exact h)
        go_wp2_with fail
        go_ret2
        refine ⟨_, by rw [HG.out]; rfl, QB.out, fun _ => ?_, fun h => by rw [HG.out] at h; cases h⟩
        rw [← HLn.out]
        exact QO.out
end Go.Proofs.YtcilodgpbdafeaaDoor
