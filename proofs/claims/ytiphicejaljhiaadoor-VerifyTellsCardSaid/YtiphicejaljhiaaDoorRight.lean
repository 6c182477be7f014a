/- verify.right: a function's checker. -/
import Derived.Test.YtiphicejaljhiaaDoorStates
namespace Go.Proofs.YtiphicejaljhiaaDoor
open Go.ChangeShapes Go.WideShapes Go.ChangeAt Go.RowKit
theorem gFns_in : ∀ (l : List Fn) (first : Bool), gFns first l = true → ∀ f ∈ l, ∃ b, gFn f b = true := by
  intro l
  induction l with
  | nil => intro _ _ f hf; cases hf
  | cons x l ih =>
    intro first h f hf
    simp only [gFns, Bool.and_eq_true] at h
    rcases List.mem_cons.1 hf with rfl | hf
    · exact ⟨first, h.1⟩
    · exact ih false h.2 f hf
theorem gFn_code {f : Fn} {b : Bool} (h : gFn f b = true) : (∀ i ∈ f.code, insGood i = true) ∧ 0 < f.code.length ∧ f.code.length ≤ 600 := by
  unfold gFn at h
  simp only [Bool.and_eq_true, betw_iff] at h
  obtain ⟨hc, _, _, h3⟩ := h
  exact ⟨fun i hi => List.all_eq_true.1 hc i hi, by omega, by omega⟩
theorem gPr_code {p : Pr} (h : gPr p = true) {f : Fn} (hf : f ∈ p.funcs) : (∀ i ∈ f.code, insGood i = true) ∧ 0 < f.code.length ∧ f.code.length ≤ 600 := by
  unfold gPr at h
  simp only [Bool.and_eq_true] at h
  obtain ⟨b, hb⟩ := gFns_in _ _ h.2.1 f hf
  exact gFn_code hb
theorem gPr_sizes {p : Pr} (h : gPr p = true) : 1 ≤ p.funcs.length ∧ p.funcs.length ≤ 60 ∧ p.strs.length ≤ 40 ∧ p.forms.length ≤ 40 := by
  unfold gPr at h
  simp only [Bool.and_eq_true, betw_iff, decide_eq_true_eq] at h
  omega
def RiPost (w : World) (q : PrMem) (x : Fnv) (r : Option (List Sta)) (e : Ending) (W' : World) : Prop :=
  ∃ (w0 : World) (g : Nat) (lv dv : Value) (L : List Sta) (D : List Nxt), e = .returned (.tuple #[.pointer (some ⟨g, 0, none⟩), .bool r.isSome]) ∧ VerSt w0 W' g q x lv dv L D ∧ (∀ R, r = some R → L = R) ∧ Below w.heap.size w W' ∧ w.heap.size < g
set_option maxRecDepth 100000 in
set_option maxHeartbeats 2000000 in
theorem c67 (q : PrMem) (k : Nat) (x : Fnv) (hx : q.L[k]? = some x) (w : World) (ht : VTab w) (hq : PrOk w w.heap.size q) (hg : gPr q.pr = true) :
    Calls Tryd.prog 67 #[q.val, .int .i64 k] w (RiPost w q x (vStates q.pr x.fn)) := by
  have hk : k < q.L.length := (List.getElem?_eq_some_iff.1 hx).1
  have hxm : x ∈ q.L := List.mem_of_getElem? hx
  obtain ⟨hgi, hl0, hl6⟩ := gPr_code hg (f := x.fn) (List.mem_map.2 ⟨x, hxm, rfl⟩)
  have hs := gPr_sizes hg
  have b1 := below_new w (.cells #[.slice q.AF q.L.length q.cF, .slice q.AS q.S.length q.cS, .slice q.AM q.M.length q.cM] 42)
  have Q1 := hq.next b1
  have T1 := ht.next b1
  obtain ⟨ad, e, adb, hcs⟩ := Reads.rowAt (f := Fnv.cells) (m := 3) (fun _ => rfl) Q1.fns (by decide) hx
  have hfn := Q1.fn x hxm
  generalize hqv : q.val = qv
  have HQV : qv = .agg #[.slice q.AF q.L.length q.cF, .slice q.AS q.S.length q.cS, .slice q.AM q.M.length q.cM] := hqv.symm
  have V0 : VerSt (w.alloc (.cells #[.slice q.AF q.L.length q.cF, .slice q.AS q.S.length q.cS, .slice q.AM q.M.length q.cM] 42)) ((w.alloc (.cells #[.slice q.AF q.L.length q.cF, .slice q.AS q.S.length q.cS, .slice q.AM q.M.length q.cM] 42)).alloc (.cells (chkCells q x (.slice none 0 0) (.slice none 0 0)) 121)) (w.alloc (.cells #[.slice q.AF q.L.length q.cF, .slice q.AS q.S.length q.cS, .slice q.AM q.M.length q.cM] 42)).heap.size q x (.slice none 0 0) (.slice none 0 0) [] [] :=
    ⟨below_new _ _, Blk.new _ _ _, World.ownsRow_nil _ _ _ _, .of_own (World.ownsRow_nil _ _ _ _)⟩
  have hcall := c70 (w.alloc (.cells #[.slice q.AF q.L.length q.cF, .slice q.AS q.S.length q.cS, .slice q.AM q.M.length q.cM] 42)).heap.size q x _ _ V0.drew (show VTab (w.alloc (.cells #[.slice q.AF q.L.length q.cF, .slice q.AS q.S.length q.cS, .slice q.AM q.M.length q.cM] 42)) from T1) T1.lt Q1 hfn hgi ⟨hl0, hl6⟩
  simp only [chkCells] at hcall
  have HC := Lib.hid hcall
  clear hcall
  have HB := Lib.hid b1
  have HCS := Lib.hid hcs
  subst HQV
  clear hqv V0 hq ht Q1 T1 hfn hgi hcs b1 hg hxm
  obtain ⟨AF, cF, L, AS, cS, S, AM, cM, M⟩ := q
  obtain ⟨⟨lo, fr, cd⟩, xa, xc⟩ := x
  simp only at hk e hl0 hl6 hx hs
  simp only [PrMem.pr, List.length_map] at hs
  subst e
  have hk1 : (k : Int) < (L.length : Int) := by omega
  have hk0 : (0 : Int) ≤ (k : Int) := by omega
  simp only
  have P1 := Blk.new w 42 #[.slice (some ad) L.length cF, .slice AS S.length cS, .slice AM M.length cM]
  go_enter Tryd.func67, Tryd.ntmps67
  go_wp2_with fail
  generalize w.alloc (.cells #[.slice (some ad) L.length cF, .slice AS S.length cS, .slice AM M.length cM] 42) = w1 at HB HC HCS P1 adb ⊢
  have a0 := HCS.out 0 _ rfl
  have a1 := HCS.out 1 _ rfl
  have a2 := HCS.out 2 _ rfl
  have p0 := P1.cell 0
  have p1 := P1.cell 1
  have p2 := P1.cell 2
  have hb1 : (ad.add (k * 3)).block < w1.heap.size := by rw [block_of_add]; exact adb
  have KS := Lib.hid (show ∀ V, Below w1.heap.size w1 V → (V.cell? ⟨w.heap.size, 0, none⟩ = some (.slice (some ad) L.length cF) ∧ V.cell? ⟨w.heap.size, 1, none⟩ = some (.slice AS S.length cS) ∧ V.cell? ⟨w.heap.size, 2, none⟩ = some (.slice AM M.length cM) ∧ V.cell? (ad.add (k * 3)) = some (.int .i64 lo) ∧ V.cell? ⟨(ad.add (k * 3)).block, (ad.add (k * 3)).off + 1, none⟩ = some (.int .i64 fr) ∧ V.cell? ⟨(ad.add (k * 3)).block, (ad.add (k * 3)).off + 2, none⟩ = some (.slice xa cd.length xc)) from fun V hb =>
    ⟨(hb.cell (p := ⟨w.heap.size, 0, none⟩) P1.lt).trans p0, (hb.cell (p := ⟨w.heap.size, 1, none⟩) P1.lt).trans p1, (hb.cell (p := ⟨w.heap.size, 2, none⟩) P1.lt).trans p2, (hb.cell hb1).trans a0, (hb.cell (p := ⟨(ad.add (k * 3)).block, _, none⟩) hb1).trans a1, (hb.cell (p := ⟨(ad.add (k * 3)).block, _, none⟩) hb1).trans a2⟩)
  have A1 := KS.out w1.drew (Below.refl _ _).drew
  have A2 := KS.out _ (below_new w1 (.cells (chkCells ⟨some ad, cF, L, AS, cS, S, AM, cM, M⟩ ⟨⟨lo, fr, cd⟩, xa, xc⟩ (.slice none 0 0) (.slice none 0 0)) 121)).drew
  go_region_held3 (fun V => V.cell? ⟨w.heap.size, 0, none⟩ = some (.slice (some ad) L.length cF) ∧ V.cell? ⟨w.heap.size, 1, none⟩ = some (.slice AS S.length cS) ∧ V.cell? ⟨w.heap.size, 2, none⟩ = some (.slice AM M.length cM) ∧ V.cell? (ad.add (k * 3)) = some (.int .i64 lo) ∧ V.cell? ⟨(ad.add (k * 3)).block, (ad.add (k * 3)).off + 1, none⟩ = some (.int .i64 fr) ∧ V.cell? ⟨(ad.add (k * 3)).block, (ad.add (k * 3)).off + 2, none⟩ = some (.slice xa cd.length xc))
    (first | exact A1 | exact A2)
    (fail)
  clear A1 A2 KS
  go_wp2_with fail
  refine (HC.out).mono ?_
  rintro e w5 ⟨rfl, lv, dv, L5, D5, hv5, hL5⟩
  have HV5 := Lib.hid hv5
  have HL5 := Lib.hid hL5
  have hlt1 := P1.lt
  clear hv5 hL5 HC P1 p0 p1 p2 a0 a1 a2 HCS
  generalize hr : vStates _ _ = r at HL5
  have HR := Lib.hid hr
  clear hr
  go_wp2_with fail
  go_ret2
  exact ⟨w1, w1.heap.size, lv, dv, L5, D5, by rw [HR.out]; rfl, HV5.out, fun R h => HL5.out R (HR.out ▸ h), HB.out.trans (HV5.out.low.mono HB.out.size), hlt1⟩
end Go.Proofs.YtiphicejaljhiaaDoor
