/- keep.OwnProgram: a copy of a program; its rows are the call's own. -/
import Derived.Test.YtiphicejaljhiaaDoorLite
import Derived.Test.YtiphicejaljhiaaDoorSiz
import Derived.Deep.QuietTactic
import Derived.BigQuiet
import Derived.StillTailTactics
namespace Go.Proofs.YtiphicejaljhiaaDoor
open Go.ChangeShapes Go.WideShapes Go.ChangeAt Go.RowKit
/-- A program in rows of the call's own, from base b on. -/
structure OwnPr (w : World) (b : Nat) (q : PrMem) : Prop where
  oF : w.ownsRow b 60 3 (.slice q.AF q.L.length q.cF) q.L.length (q.L.flatMap Fnv.cells)
  oS : w.ownsRow b 9 1 (.slice q.AS q.S.length q.cS) q.S.length (q.S.map strV)
  oM : w.ownsRow b 63 4 (.slice q.AM q.M.length q.cM) q.M.length (q.M.flatMap Fmv.cells)
  cF : ∀ x ∈ q.L, w.ownsRow b 23 3 (.slice x.ad x.fn.code.length x.cap) x.fn.code.length (x.fn.code.flatMap insCells)
  cM : ∀ x ∈ q.M, w.ownsRow b 3 1 (.slice x.ad x.fm.cons.length x.cap) x.fm.cons.length (x.fm.cons.map (Value.int .i64))
section
variable {w W W' W1 : World} {b : Nat} {q : PrMem}
theorem OwnPr.map (h : OwnPr W b q) (f : ∀ (e : TypeId) (size n : Nat) (v : Value) (xs : List Value), e ≠ 42 → W.ownsRow b e size v n xs → W'.ownsRow b e size v n xs) : OwnPr W' b q :=
  ⟨f _ _ _ _ _ (by decide) h.oF, f _ _ _ _ _ (by decide) h.oS, f _ _ _ _ _ (by decide) h.oM, fun x hx => f _ _ _ _ _ (by decide) (h.cF x hx), fun x hx => f _ _ _ _ _ (by decide) (h.cM x hx)⟩
theorem own_lower {w : World} {b b' : Nat} {e : TypeId} {size n : Nat} {v : Value} {xs : List Value} (h : w.ownsRow b e size v n xs) (hb : b' ≤ b) : w.ownsRow b' e size v n xs := by
  refine ⟨h.1, ?_⟩
  rcases h.2 with h1 | ⟨g, cap, cur, h1, h2, h3⟩
  · exact .inl h1
  · exact .inr ⟨g, cap, cur, h1, Nat.le_trans hb h2, h3⟩
theorem OwnPr.lower (h : OwnPr W b q) {b0 : Nat} (hb : b0 ≤ b) : OwnPr W b0 q := ⟨own_lower h.oF hb, own_lower h.oS hb, own_lower h.oM hb, fun x hx => own_lower (h.cF x hx) hb, fun x hx => own_lower (h.cM x hx) hb⟩
theorem OwnPr.next (h : OwnPr W b q) (hb : Below W.heap.size W W') : OwnPr W' b q := h.map fun _ _ _ _ _ _ o => own_next o hb
theorem OwnPr.alloc (h : OwnPr W b q) (o : Obj) : OwnPr (W.alloc o) b q := h.map fun _ _ _ _ _ _ r => r.alloc o
theorem OwnPr.set (h : OwnPr W b q) {p i : Nat} {cs : Array Value} (hP : Blk W p 42 cs) (u : Value) : OwnPr (W.setCell ⟨p, i, none⟩ u) b q := h.map fun _ _ _ _ _ he o => own_set o hP he
theorem OwnPr.ok (h : OwnPr W b q) (hs : SmallP q) : PrOk W W.heap.size q :=
  ⟨Reads.of_own h.oF, fun x hx => ⟨Reads.of_own (h.cF x hx), by have := hs.f x hx; unfold maxLen; omega⟩, Reads.of_own h.oS, Reads.of_own h.oM, fun x hx => ⟨Reads.of_own (h.cM x hx), by have := hs.m x hx; unfold maxLen; omega⟩,
    by have := hs.F; unfold maxLen; omega, by have := hs.S; unfold maxLen; omega, by have := hs.M; unfold maxLen; omega⟩
theorem OwnPr.pushF (h : OwnPr W b q) {x : Fnv} (hx : W.ownsRow b 23 3 (.slice x.ad x.fn.code.length x.cap) x.fn.code.length (x.fn.code.flatMap insCells)) {a1 : Option Addr} {c1 : Nat}
    (hg : W.grownBy W1 (Value.slice q.AF q.L.length q.cF).ownBlock) (ho : W1.ownsRow b 60 3 (.slice a1 (q.L.length + 1) c1) (q.L.length + 1) (q.L.flatMap Fnv.cells ++ x.cells)) :
    OwnPr W1 b ⟨a1, c1, q.L ++ [x], q.AS, q.cS, q.S, q.AM, q.cM, q.M⟩ := by
  refine ⟨?_, own_row h.oS h.oF hg (by decide), own_row h.oM h.oF hg (by decide), fun y hy => ?_, fun y hy => own_row (h.cM y hy) h.oF hg (by decide)⟩
  · simpa only [List.length_append, List.length_cons, List.length_nil, List.flatMap_append, List.flatMap_cons, List.flatMap_nil, List.append_nil] using ho
  · rcases List.mem_append.1 hy with hy | hy
    · exact own_row (h.cF y hy) h.oF hg (by decide)
    · obtain rfl := List.mem_singleton.1 hy
      exact own_row hx h.oF hg (by decide)
theorem OwnPr.pushS (h : OwnPr W b q) {x : List UInt8} {a1 : Option Addr} {c1 : Nat}
    (hg : W.grownBy W1 (Value.slice q.AS q.S.length q.cS).ownBlock) (ho : W1.ownsRow b 9 1 (.slice a1 (q.S.length + 1) c1) (q.S.length + 1) (q.S.map strV ++ [strV x])) :
    OwnPr W1 b ⟨q.AF, q.cF, q.L, a1, c1, q.S ++ [x], q.AM, q.cM, q.M⟩ := by
  refine ⟨own_row h.oF h.oS hg (by decide), ?_, own_row h.oM h.oS hg (by decide), fun y hy => own_row (h.cF y hy) h.oS hg (by decide), fun y hy => own_row (h.cM y hy) h.oS hg (by decide)⟩
  simpa only [List.length_append, List.length_cons, List.length_nil, List.map_append, List.map_cons, List.map_nil] using ho
theorem OwnPr.pushM (h : OwnPr W b q) {x : Fmv} (hx : W.ownsRow b 3 1 (.slice x.ad x.fm.cons.length x.cap) x.fm.cons.length (x.fm.cons.map (Value.int .i64))) {a1 : Option Addr} {c1 : Nat}
    (hg : W.grownBy W1 (Value.slice q.AM q.M.length q.cM).ownBlock) (ho : W1.ownsRow b 63 4 (.slice a1 (q.M.length + 1) c1) (q.M.length + 1) (q.M.flatMap Fmv.cells ++ x.cells)) :
    OwnPr W1 b ⟨q.AF, q.cF, q.L, q.AS, q.cS, q.S, a1, c1, q.M ++ [x]⟩ := by
  refine ⟨own_row h.oF h.oM hg (by decide), own_row h.oS h.oM hg (by decide), ?_, fun y hy => own_row (h.cF y hy) h.oM hg (by decide), fun y hy => ?_⟩
  · simpa only [List.length_append, List.length_cons, List.length_nil, List.flatMap_append, List.flatMap_cons, List.flatMap_nil, List.append_nil] using ho
  · rcases List.mem_append.1 hy with hy | hy
    · exact own_row (h.cM y hy) h.oM hg (by decide)
    · obtain rfl := List.mem_singleton.1 hy
      exact own_row hx h.oM hg (by decide)
end
/-- While a copy is made: the parameter's and the result's cells, the copy's header at p, its rows. -/
structure OwnSt (w W : World) (p : Nat) (u : Value × Value × Value) (q : PrMem) : Prop where
  low : Below w.heap.size w W
  P : Blk W w.heap.size 42 #[u.1, u.2.1, u.2.2]
  R : Blk W (w.heap.size + 1) 42 #[.slice none 0 0, .slice none 0 0, .slice none 0 0]
  hp : w.heap.size + 1 < p
  Q : Blk W p 42 #[.slice q.AF q.L.length q.cF, .slice q.AS q.S.length q.cS, .slice q.AM q.M.length q.cM]
  own : OwnPr W (w.heap.size + 2) q
section
variable {w W W' W1 : World} {p : Nat} {u : Value × Value × Value} {q : PrMem}
theorem OwnSt.next (h : OwnSt w W p u q) (hb : Below W.heap.size W W') : OwnSt w W' p u q := ⟨next_ h.low hb, h.P.next hb, h.R.next hb, h.hp, h.Q.next hb, h.own.next hb⟩
theorem OwnSt.pushF (h : OwnSt w W p u q) {x : Fnv} (hx : W.ownsRow (w.heap.size + 2) 23 3 (.slice x.ad x.fn.code.length x.cap) x.fn.code.length (x.fn.code.flatMap insCells)) {a1 : Option Addr} {c1 : Nat}
    (hg : W.grownBy W1 (Value.slice q.AF q.L.length q.cF).ownBlock) (ho : W1.ownsRow (w.heap.size + 2) 60 3 (.slice a1 (q.L.length + 1) c1) (q.L.length + 1) (q.L.flatMap Fnv.cells ++ x.cells)) :
    OwnSt w (W1.setCell ⟨p, 0, none⟩ (.slice a1 (q.L.length + 1) c1)) p u ⟨a1, c1, q.L ++ [x], q.AS, q.cS, q.S, q.AM, q.cM, q.M⟩ := by
  have Q1 := blk_row h.Q h.own.oF hg (by decide)
  have hp := h.hp
  have hrow : ∀ k, (Value.slice q.AF q.L.length q.cF).ownBlock = some k → w.heap.size + 2 ≤ k := fun k e => (h.own.oF.lt k e).1
  refine ⟨(h.low.grown hg h.low.size (fun k e => by have := hrow k e; omega)).setCell (p := ⟨p, 0, none⟩) (by simp; omega) _, (blk_row h.P h.own.oF hg (by decide)).far (by simp; omega) _, (blk_row h.R h.own.oF hg (by decide)).far (by simp; omega) _, hp, ?_, (h.own.pushF hx hg ho).set Q1 _⟩
  simp only [List.length_append, List.length_cons, List.length_nil]
  exact Q1.set_ 0 _
theorem OwnSt.pushM (h : OwnSt w W p u q) {x : Fmv} (hx : W.ownsRow (w.heap.size + 2) 3 1 (.slice x.ad x.fm.cons.length x.cap) x.fm.cons.length (x.fm.cons.map (Value.int .i64))) {a1 : Option Addr} {c1 : Nat}
    (hg : W.grownBy W1 (Value.slice q.AM q.M.length q.cM).ownBlock) (ho : W1.ownsRow (w.heap.size + 2) 63 4 (.slice a1 (q.M.length + 1) c1) (q.M.length + 1) (q.M.flatMap Fmv.cells ++ x.cells)) :
    OwnSt w (W1.setCell ⟨p, 2, none⟩ (.slice a1 (q.M.length + 1) c1)) p u ⟨q.AF, q.cF, q.L, q.AS, q.cS, q.S, a1, c1, q.M ++ [x]⟩ := by
  have Q1 := blk_row h.Q h.own.oM hg (by decide)
  have hp := h.hp
  have hrow : ∀ k, (Value.slice q.AM q.M.length q.cM).ownBlock = some k → w.heap.size + 2 ≤ k := fun k e => (h.own.oM.lt k e).1
  refine ⟨(h.low.grown hg h.low.size (fun k e => by have := hrow k e; omega)).setCell (p := ⟨p, 2, none⟩) (by simp; omega) _, (blk_row h.P h.own.oM hg (by decide)).far (by simp; omega) _, (blk_row h.R h.own.oM hg (by decide)).far (by simp; omega) _, hp, ?_, (h.own.pushM hx hg ho).set Q1 _⟩
  simp only [List.length_append, List.length_cons, List.length_nil]
  exact Q1.set_ 2 _
end
theorem ins_one {l : List Ins} : ∀ u ∈ l.flatMap insCells, u.oneCell' = true := by
  intro u hu
  obtain ⟨x, _, hx⟩ := List.mem_flatMap.1 hu
  simp only [insCells, List.mem_cons, List.not_mem_nil, or_false] at hx
  rcases hx with rfl | rfl | rfl <;> rfl
theorem int_one {l : List Int} : ∀ u ∈ l.map (Value.int .i64), u.oneCell' = true := by
  intro u hu
  obtain ⟨x, _, rfl⟩ := List.mem_map.1 hu
  rfl
theorem str_one {l : List (List UInt8)} : ∀ u ∈ l.map strV, u.oneCell' = true := by
  intro u hu
  obtain ⟨x, _, rfl⟩ := List.mem_map.1 hu
  rfl
/-- An empty row that was made just now. -/
theorem own_fresh (w : World) (b : Nat) (e : TypeId) (s : Nat) (hb : b ≤ w.heap.size) : (w.alloc (.cells #[] e)).ownsRow b e s (.slice (some ⟨w.heap.size, 0, none⟩) 0 0) 0 [] :=
  ⟨by simp, .inr ⟨w.heap.size, 0, #[], rfl, hb, heap_alloc_new w _, Nat.le_refl _, Nat.zero_le _, by simp, by simp⟩⟩
theorem row3_cells {w : World} {t : TypeId} {x y z : Value} {b : Nat} (h : Blk w b t #[x, y, z]) : ∀ j v, ([x, y, z] : List Value)[j]? = some v → w.cell? ((⟨b, 0, none⟩ : Addr).add j) = some v := by
  obtain ⟨ad, e, _, hc⟩ := (reads_row3 h).2 (by decide)
  obtain rfl := Option.some.inj e
  exact hc
theorem row4_cells {w : World} {t : TypeId} {x y z u : Value} {b : Nat} (h : Blk w b t #[x, y, z, u]) : ∀ j v, ([x, y, z, u] : List Value)[j]? = some v → w.cell? ((⟨b, 0, none⟩ : Addr).add j) = some v := by
  obtain ⟨ad, e, _, hc⟩ := (reads_row4 h).2 (by decide)
  obtain rfl := Option.some.inj e
  exact hc
theorem results_cell_row {P : Program} {fn : Func} {p : Tmp} {ty : TypeId} (h : fn.results = #[.cell p ty]) (tmps : Array Value) (w : World) (g : Nat) (t : TypeId) (cs : Array Value) (fr : Nat × Nat) (d : TypeDesc)
    (hp : tmps.getD p undef = .pointer (some ⟨g, 0, none⟩)) (hg : w.heap[g]? = some (.cells cs t fr)) (hu : P.underlying ty = some d) (hd : (match d with | .struct _ | .array _ _ => true | _ => false) = true) (hi : (P.info? ty).map (·.size) = some cs.size) :
    (results fn tmps).run P w = .ok (.agg cs) w := by
  have hr := run_loadVar_row w g t ty cs fr d hg hu hd hi
  have hp' : tmps[p]?.getD undef = .pointer (some ⟨g, 0, none⟩) := by simpa using hp
  simp only [results, h]
  simp [hp', asAddr, hr]
theorem OwnSt.chain {w W : World} {p : Nat} {u : Value × Value × Value} {q : PrMem} {x y z : Value} (h : OwnSt w W p u q) :
    OwnPr (((W.setCell ⟨w.heap.size + 1, 0, none⟩ x).setCell ⟨w.heap.size + 1, 1, none⟩ y).setCell ⟨w.heap.size + 1, 2, none⟩ z) w.heap.size q ∧ Below w.heap.size w (((W.setCell ⟨w.heap.size + 1, 0, none⟩ x).setCell ⟨w.heap.size + 1, 1, none⟩ y).setCell ⟨w.heap.size + 1, 2, none⟩ z) ∧
      Blk (((W.setCell ⟨w.heap.size + 1, 0, none⟩ x).setCell ⟨w.heap.size + 1, 1, none⟩ y).setCell ⟨w.heap.size + 1, 2, none⟩ z) (w.heap.size + 1) 42 #[x, y, z] := by
  have o := ((h.own.set h.R (i := 0) x).set (h.R.set_ 0 x) (i := 1) y).set ((h.R.set_ 0 x).set_ 1 y) (i := 2) z
  refine ⟨o.lower (by omega), ((h.low.setCell (p := ⟨w.heap.size + 1, 0, none⟩) (Nat.le_succ _) x).setCell (p := ⟨w.heap.size + 1, 1, none⟩) (Nat.le_succ _) y).setCell (p := ⟨w.heap.size + 1, 2, none⟩) (Nat.le_succ _) z, ((h.R.set_ 0 x).set_ 1 y).set_ 2 z⟩
set_option maxRecDepth 100000 in
set_option maxHeartbeats 4000000 in
theorem c27 (q0 : PrMem) (hs : SmallP q0) (w : World) (hq : PrOk w w.heap.size q0) :
    Calls Tryd.prog 27 #[q0.val] w fun e w' => ∃ q, e = .returned q.val ∧ q.pr = q0.pr ∧ OwnPr w' w.heap.size q ∧ Below w.heap.size w w' := by
  obtain ⟨i60, fi60, fz60, fz61, fz62⟩ := info_parts fn_info
  obtain ⟨i63, fi63, gz60, gz61, gz62⟩ := info_parts fm_info
  obtain ⟨i9, fi9, hz90, hz91, hz92⟩ := info_parts str_info
  obtain ⟨i23, fi23, iz0, iz1, iz2⟩ := info_parts ins_info
  obtain ⟨i3, fi3, nz0, nz1, nz2⟩ := info_parts (show (Tryd.prog.info? 3).map (fun i => (i.zero, i.size, i.bytes)) = some (some (.int .i64 0), 1, 8) by kernel_rfl)
  have lF := hs.F
  have lS := hs.S
  have lM := hs.M
  obtain ⟨AF, cF, L, AS, cS, S, AM, cM, M⟩ := q0
  have HS := Lib.hid hs
  have HQ := Lib.hid hq
  clear hs hq
  simp only at lF lS lM
  obtain ⟨u, hu⟩ : ∃ u : Value × Value × Value, u = (.slice AF L.length cF, .slice AS S.length cS, .slice AM M.length cM) := ⟨_, rfl⟩
  have P1 := (Blk.new w 42 #[.slice AF L.length cF, .slice AS S.length cS, .slice AM M.length cM]).alloc (.cells #[.slice none 0 0, .slice none 0 0, .slice none 0 0] 42)
  have R1 := Blk.new (w.alloc (.cells #[.slice AF L.length cF, .slice AS S.length cS, .slice AM M.length cM] 42)) 42 #[.slice none 0 0, .slice none 0 0, .slice none 0 0]
  rw [World.size_alloc] at R1
  have b1 := next_ (below_new w (.cells #[.slice AF L.length cF, .slice AS S.length cS, .slice AM M.length cM] 42)) (below_new (w.alloc (.cells #[.slice AF L.length cF, .slice AS S.length cS, .slice AM M.length cM] 42)) (.cells #[.slice none 0 0, .slice none 0 0, .slice none 0 0] 42))
  have e1 : ((w.alloc (.cells #[.slice AF L.length cF, .slice AS S.length cS, .slice AM M.length cM] 42)).alloc (.cells #[.slice none 0 0, .slice none 0 0, .slice none 0 0] 42)).heap.size = w.heap.size + 2 := by rw [World.size_alloc, World.size_alloc]
  have HF := Lib.hid (own_fresh ((w.alloc (.cells #[.slice AF L.length cF, .slice AS S.length cS, .slice AM M.length cM] 42)).alloc (.cells #[.slice none 0 0, .slice none 0 0, .slice none 0 0] 42)) (w.heap.size + 2) 9 1 (by omega))
  rw [e1] at HF
  have bE := below_new ((w.alloc (.cells #[.slice AF L.length cF, .slice AS S.length cS, .slice AM M.length cM] 42)).alloc (.cells #[.slice none 0 0, .slice none 0 0, .slice none 0 0] 42)) (.cells #[] 9)
  have HR1 := Lib.hid (HQ.out.strs.below (next_ b1 bE))
  have PP := Lib.hid P1
  have RR := Lib.hid R1
  have B1 := Lib.hid b1
  have BE := Lib.hid bE
  clear P1 R1 b1 bE
  simp only [PrMem.val]
  go_enter Tryd.func27, Tryd.ntmps27
  go_wp2_with (at_builtin; refine wpList_append_any _ rfl (.tmp 8) (.tmp 10) _ rfl (w.heap.size + 2) 9 i9 _ 1 16 Tryd.underlying39 fi9 hz90 hz91 hz92 rfl (by omega) _ 0 [] rfl HF.out w.heap.size AS S.length cS (S.map strV) rfl HR1.out str_one (by unfold maxLen; omega) (by omega) (by simp only [World.size_alloc]; omega) ?_; intro v1 w1 hown1 hg1 hat; rw [Nat.zero_add, List.nil_append] at hown1; obtain ⟨a1, c1, rfl⟩ := own_form hown1)
  have D1 := Lib.hid (show OwnSt w (w1.alloc (.cells #[.slice none 0 0, .slice a1 S.length c1, .slice none 0 0] 42)) w1.heap.size u ⟨none, 0, [], a1, c1, S, none, 0, []⟩ by
    subst hu
    have hrow : ∀ k, (Value.slice (some ⟨w.heap.size + 2, 0, none⟩) 0 0).ownBlock = some k → w.heap.size + 2 ≤ k := fun k hk => (HF.out.lt k hk).1
    have b2 := BE.out.grown hg1 BE.out.size (fun k hk => by rw [e1]; exact hrow k hk)
    have b3 := next_ b2 (below_new w1 (.cells #[.slice none 0 0, .slice a1 S.length c1, .slice none 0 0] 42))
    have hsz := b2.size
    rw [e1] at hsz
    refine ⟨next_ B1.out b3, PP.out.next b3, RR.out.next b3, by omega, Blk.new w1 42 _, ⟨⟨by simp, .inl ⟨rfl, rfl⟩⟩, hown1.alloc _, ⟨by simp, .inl ⟨rfl, rfl⟩⟩, fun x hx => (List.not_mem_nil hx).elim, fun x hx => (List.not_mem_nil hx).elim⟩⟩)
  clear HF HR1 PP RR B1 BE hg1 hown1 hat e1
  generalize hp1 : w1.heap.size = p at D1
  go_loopw [4] (fun i wr => ∃ (k : Nat) (q : PrMem), i = .int .i64 k ∧ k ≤ L.length ∧ q.L.length = k ∧ q.L.map (·.fn) = (L.map (·.fn)).take k ∧ q.S = S ∧ q.M = [] ∧ Hid (OwnSt w wr p u q)) (fun i _ => L.length - (intOf i).toNat)
  case atStart => exact ⟨0, _, rfl, by omega, rfl, rfl, rfl, rfl, D1⟩
  case round =>
    obtain ⟨k, q, rfl, hk, hql, he, hqS, hqM, HD⟩ := hrel
    subst hql
    have HE := Lib.hid he
    have HQS := Lib.hid hqS
    have HQM := Lib.hid hqM
    clear he hqS hqM
    have c0 : wr.cell? ⟨w.heap.size, 0, none⟩ = some (.slice AF L.length cF) := by have := HD.out.P.cell 0; rw [hu] at this; exact this
    by_cases hlt : q.L.length < L.length
    · have hl : (q.L.length : Int) < (L.length : Int) := by omega
      obtain ⟨ad, e, hbl, hcs⟩ := Reads.rowAt (f := Fnv.cells) (m := 3) (fun _ => rfl) (HQ.out.fns.below HD.out.low) (by decide) (show L[q.L.length]? = some L[q.L.length] from List.getElem?_eq_getElem hlt)
      have hx := HQ.out.fn _ (List.getElem_mem hlt)
      have hxl := HS.out.f _ (List.getElem_mem hlt)
      have hxt : (L.map (·.fn)).take (q.L.length + 1) = (L.map (·.fn)).take q.L.length ++ [L[q.L.length].fn] := by
        rw [List.take_add_one, List.getElem?_map, List.getElem?_eq_getElem hlt]; rfl
      simp only at e
      generalize L[q.L.length] = x at hcs hx hxl hxt
      obtain ⟨⟨lo, fr, cd⟩, xa, xc⟩ := x
      have HCS := Lib.hid hcs
      have HX := Lib.hid hx
      have HXT := Lib.hid hxt
      clear hcs hx hxt
      simp only at hxl
      subst e
      have B2 := Lib.hid (next_ (below_new wr (.cells #[.int .i64 lo, .int .i64 fr, .slice xa cd.length xc] 60)) (below_new (wr.alloc (.cells #[.int .i64 lo, .int .i64 fr, .slice xa cd.length xc] 60)) (.cells #[] 23)))
      have HXR := Lib.hid (HX.out.1.below (next_ HD.out.low B2.out))
      have hlow := HD.out.low.size
      have hpl := HD.out.hp
      have hpw := HD.out.Q.lt
      have hfr := own_fresh (wr.alloc (.cells #[.int .i64 lo, .int .i64 fr, .slice xa cd.length xc] 60)) (w.heap.size + 2) 23 3 (by rw [World.size_alloc]; omega)
      rw [World.size_alloc] at hfr
      have HFR := Lib.hid hfr
      have FB := Lib.hid ((Blk.new wr 60 #[.int .i64 lo, .int .i64 fr, .slice xa cd.length xc]).alloc (.cells #[] 23))
      clear hfr
      go_wp2_with (first
        | (refine wpList_load_at rfl 60 (.tmp 23) rfl (ad.add (q.L.length * 3)) rfl [.int .i64 lo, .int .i64 fr, .slice xa cd.length xc] _ HCS.out Tryd.underlying60 rfl (by kernel_rfl) ?_)
        | (at_builtin; refine wpList_append_any _ rfl (.tmp 25) (.tmp 27) 58 rfl (w.heap.size + 2) 23 i23 _ 3 24 Tryd.underlying58 fi23 iz0 iz1 iz2 rfl (by omega) _ 0 [] rfl HFR.out w.heap.size xa cd.length xc (cd.flatMap insCells) rfl HXR.out ins_one (by unfold maxLen; omega) (by omega) (by simp only [World.size_alloc]; omega) ?_; intro v5 w5 hown5 hg5 _; rw [Nat.zero_add, List.nil_append] at hown5; obtain ⟨a5, c5, rfl⟩ := own_form hown5; have F5 := blk_row FB.out HFR.out hg5 (by decide); have f5 := F5.cell 2; have f5z := F5.frozen 2
           have hrow5 : ∀ k', (Value.slice (some ⟨wr.heap.size + 1, 0, none⟩) 0 0).ownBlock = some k' → wr.heap.size ≤ k' := fun k' e' => by have := Option.some.inj e'; simp only at this; omega
           have B5 := Lib.hid (B2.out.grown hg5 B2.out.size hrow5)
           have B6 := Lib.hid (B5.out.setCell (p := ⟨wr.heap.size, 2, none⟩) (Nat.le_refl _) (.slice a5 cd.length c5))
           have F6 := Lib.hid (F5.set_ 2 (.slice a5 cd.length c5))
           have D6 := HD.out.next B6.out
           have O6 := own_set hown5 F5 (i := 2) (u := .slice a5 cd.length c5) (by decide)
           have q6 := D6.Q.cell 0
           have HD6 := Lib.hid D6
           have HO6 := Lib.hid O6
           have B7 := Lib.hid (below_new (w5.setCell ⟨wr.heap.size, 2, none⟩ (.slice a5 cd.length c5)) (.cells #[.int .i64 lo, .int .i64 fr, .slice a5 cd.length c5] 60))
           have D7 := Lib.hid (D6.next B7.out)
           have n7 := Blk.new (w5.setCell ⟨wr.heap.size, 2, none⟩ (.slice a5 cd.length c5)) 60 #[.int .i64 lo, .int .i64 fr, .slice a5 cd.length c5]
           rw [World.size_setCell] at n7
           have N7 := Lib.hid n7
           have s7 : w.heap.size + 2 ≤ w5.heap.size := by have h := B5.out.size; omega
           clear n7
           clear D6 O6 hg5 hown5)
        | (refine wpList_load_at rfl 60 (.tmp 5) rfl ⟨wr.heap.size, 0, none⟩ rfl [.int .i64 lo, .int .i64 fr, .slice a5 cd.length c5] _ (row3_cells F6.out) Tryd.underlying60 rfl (by kernel_rfl) ?_)
        | (at_builtin; refine wpList_append_any _ rfl (.tmp 31) (.tmp 33) 38 rfl (w.heap.size + 2) 60 i60 _ 3 40 Tryd.underlying38 fi60 fz60 fz61 fz62 rfl (by omega) (.slice q.AF q.L.length q.cF) q.L.length (q.L.flatMap Fnv.cells) rfl D7.out.own.oF (w5.heap.size + 1) (some ⟨w5.heap.size, 0, none⟩) 1 1 [.int .i64 lo, .int .i64 fr, .slice a5 cd.length c5] rfl (reads_row3 N7.out) (by simp [Value.oneCell']) (by unfold maxLen; omega) (by omega) (by simp only [World.size_alloc, World.size_setCell]; omega) ?_
           intro v7 w7 hown7 hg7 _
           obtain ⟨a7, c7, rfl⟩ := own_form hown7
           have Q7 := blk_row D7.out.Q D7.out.own.oF hg7 (by decide)
           have D8 := Lib.hid (D7.out.pushF (x := ⟨⟨lo, fr, cd⟩, a5, c5⟩) (own_next HO6.out B7.out) hg7 hown7)
           have s8 := Q7.cell 0
           have f8 := Q7.frozen 0
           clear hown7 hg7))
      go_roundw
      case rel =>
        refine ⟨q.L.length + 1, ⟨a7, c7, q.L ++ [⟨⟨lo, fr, cd⟩, a5, c5⟩], q.AS, q.cS, q.S, q.AM, q.cM, q.M⟩, by go_num, by omega, by simp, ?_, HQS.out, HQM.out, D8⟩
        rw [HXT.out, List.map_append, HE.out]
        rfl
      case measure => simp [intOf]; omega
    · have hl : ¬ (q.L.length : Int) < (L.length : Int) := by omega
      have HE2 := Lib.hid (show q.L.map (·.fn) = L.map (·.fn) by rw [HE.out, List.take_of_length_le (by simp; omega)])
      have c2 : wr.cell? ⟨w.heap.size, 2, none⟩ = some (.slice AM M.length cM) := by have := HD.out.P.cell 2; rw [hu] at this; exact this
      go_wp2_with fail
      clear c0 c2
      obtain ⟨wo, rfl⟩ : ∃ wo : World, wo = wr := ⟨_, rfl⟩
      obtain ⟨qa, rfl⟩ : ∃ qa : PrMem, qa = q := ⟨_, rfl⟩
      go_loopw [6] (fun i wr => ∃ (k : Nat) (q : PrMem), i = .int .i64 k ∧ k ≤ M.length ∧ q.M.length = k ∧ q.M.map (·.fm) = (M.map (·.fm)).take k ∧ q.S = S ∧ q.L.map (·.fn) = L.map (·.fn) ∧ Hid (OwnSt w wr p u q)) (fun i _ => M.length - (intOf i).toNat)
      case atStart => exact ⟨0, qa, rfl, by omega, by rw [HQM.out]; rfl, by rw [HQM.out]; rfl, HQS.out, HE2.out, HD⟩
      clear HE HE2 HQS HQM HD hl
      case round =>
        obtain ⟨k, q, rfl, hk2, hql, he, hqS, hqL, HD⟩ := hrel
        subst hql
        have HE := Lib.hid he
        have HQS := Lib.hid hqS
        have HQL := Lib.hid hqL
        clear he hqS hqL
        have c2 : wr.cell? ⟨w.heap.size, 2, none⟩ = some (.slice AM M.length cM) := by have := HD.out.P.cell 2; rw [hu] at this; exact this
        by_cases hlt2 : q.M.length < M.length
        · have hl2 : (q.M.length : Int) < (M.length : Int) := by omega
          obtain ⟨ad, e, hbl, hcs⟩ := Reads.rowAt (f := Fmv.cells) (m := 4) (fun _ => rfl) (HQ.out.fms.below HD.out.low) (by decide) (show M[q.M.length]? = some M[q.M.length] from List.getElem?_eq_getElem hlt2)
          have hx := HQ.out.fm _ (List.getElem_mem hlt2)
          have hxl := HS.out.m _ (List.getElem_mem hlt2)
          have hxt : (M.map (·.fm)).take (q.M.length + 1) = (M.map (·.fm)).take q.M.length ++ [M[q.M.length].fm] := by
            rw [List.take_add_one, List.getElem?_map, List.getElem?_eq_getElem hlt2]; rfl
          simp only at e
          generalize M[q.M.length] = x at hcs hx hxl hxt
          obtain ⟨⟨kd, fa, fb, cd⟩, xa, xc⟩ := x
          have HCS := Lib.hid hcs
          have HX := Lib.hid hx
          have HXT := Lib.hid hxt
          clear hcs hx hxt
          simp only at hxl
          subst e
          have B2 := Lib.hid (next_ (below_new wr (.cells #[.int .i64 kd, .int .i64 fa, .int .i64 fb, .slice xa cd.length xc] 63)) (below_new (wr.alloc (.cells #[.int .i64 kd, .int .i64 fa, .int .i64 fb, .slice xa cd.length xc] 63)) (.cells #[] 3)))
          have HXR := Lib.hid (HX.out.1.below (next_ HD.out.low B2.out))
          have hlow := HD.out.low.size
          have hpl := HD.out.hp
          have hpw := HD.out.Q.lt
          have hfr := own_fresh (wr.alloc (.cells #[.int .i64 kd, .int .i64 fa, .int .i64 fb, .slice xa cd.length xc] 63)) (w.heap.size + 2) 3 1 (by rw [World.size_alloc]; omega)
          rw [World.size_alloc] at hfr
          have HFR := Lib.hid hfr
          have FB := Lib.hid ((Blk.new wr 63 #[.int .i64 kd, .int .i64 fa, .int .i64 fb, .slice xa cd.length xc]).alloc (.cells #[] 3))
          clear hfr
          go_wp2_with (first
            | (refine wpList_load_at rfl 63 (.tmp 46) rfl (ad.add (q.M.length * 4)) rfl [.int .i64 kd, .int .i64 fa, .int .i64 fb, .slice xa cd.length xc] _ HCS.out Tryd.underlying63 rfl (by kernel_rfl) ?_)
            | (at_builtin; refine wpList_append_any _ rfl (.tmp 48) (.tmp 50) 61 rfl (w.heap.size + 2) 3 i3 _ 1 8 Tryd.underlying61 fi3 nz0 nz1 nz2 rfl (by omega) _ 0 [] rfl HFR.out w.heap.size xa cd.length xc (cd.map (Value.int .i64)) rfl HXR.out int_one (by unfold maxLen; omega) (by omega) (by simp only [World.size_alloc]; omega) ?_; intro v5 w5 hown5 hg5 _; rw [Nat.zero_add, List.nil_append] at hown5; obtain ⟨a5, c5, rfl⟩ := own_form hown5; have F5 := blk_row FB.out HFR.out hg5 (by decide); have f5 := F5.cell 3; have f5z := F5.frozen 3
               have hrow5 : ∀ k', (Value.slice (some ⟨wr.heap.size + 1, 0, none⟩) 0 0).ownBlock = some k' → wr.heap.size ≤ k' := fun k' e' => by have := Option.some.inj e'; simp only at this; omega
               have B5 := Lib.hid (B2.out.grown hg5 B2.out.size hrow5)
               have B6 := Lib.hid (B5.out.setCell (p := ⟨wr.heap.size, 3, none⟩) (Nat.le_refl _) (.slice a5 cd.length c5))
               have F6 := Lib.hid (F5.set_ 3 (.slice a5 cd.length c5))
               have D6 := HD.out.next B6.out
               have O6 := own_set hown5 F5 (i := 3) (u := .slice a5 cd.length c5) (by decide)
               have q6 := D6.Q.cell 2
               have HD6 := Lib.hid D6
               have HO6 := Lib.hid O6
               have B7 := Lib.hid (below_new (w5.setCell ⟨wr.heap.size, 3, none⟩ (.slice a5 cd.length c5)) (.cells #[.int .i64 kd, .int .i64 fa, .int .i64 fb, .slice a5 cd.length c5] 63))
               have D7 := Lib.hid (D6.next B7.out)
               have n7 := Blk.new (w5.setCell ⟨wr.heap.size, 3, none⟩ (.slice a5 cd.length c5)) 63 #[.int .i64 kd, .int .i64 fa, .int .i64 fb, .slice a5 cd.length c5]
               rw [World.size_setCell] at n7
               have N7 := Lib.hid n7
               have s7 : w.heap.size + 2 ≤ w5.heap.size := by have h := B5.out.size; omega
               clear n7
               clear D6 O6 hg5 hown5)
            | (refine wpList_load_at rfl 63 (.tmp 7) rfl ⟨wr.heap.size, 0, none⟩ rfl [.int .i64 kd, .int .i64 fa, .int .i64 fb, .slice a5 cd.length c5] _ (row4_cells F6.out) Tryd.underlying63 rfl (by kernel_rfl) ?_)
            | (at_builtin; refine wpList_append_any _ rfl (.tmp 54) (.tmp 56) 40 rfl (w.heap.size + 2) 63 i63 _ 4 48 Tryd.underlying40 fi63 gz60 gz61 gz62 rfl (by omega) (.slice q.AM q.M.length q.cM) q.M.length (q.M.flatMap Fmv.cells) rfl D7.out.own.oM (w5.heap.size + 1) (some ⟨w5.heap.size, 0, none⟩) 1 1 [.int .i64 kd, .int .i64 fa, .int .i64 fb, .slice a5 cd.length c5] rfl (reads_row4 N7.out) (by simp [Value.oneCell']) (by unfold maxLen; omega) (by omega) (by simp only [World.size_alloc, World.size_setCell]; omega) ?_
               intro v7 w7 hown7 hg7 _
               obtain ⟨a7, c7, rfl⟩ := own_form hown7
               have Q7 := blk_row D7.out.Q D7.out.own.oM hg7 (by decide)
               have D8 := Lib.hid (D7.out.pushM (x := ⟨⟨kd, fa, fb, cd⟩, a5, c5⟩) (own_next HO6.out B7.out) hg7 hown7)
               have s8 := Q7.cell 2
               have f8 := Q7.frozen 2
               clear hown7 hg7))
          go_roundw
          case rel =>
            refine ⟨q.M.length + 1, ⟨q.AF, q.cF, q.L, q.AS, q.cS, q.S, a7, c7, q.M ++ [⟨⟨kd, fa, fb, cd⟩, a5, c5⟩]⟩, by go_num, by omega, by simp, ?_, HQS.out, HQL.out, D8⟩
            rw [HXT.out, List.map_append, HE.out]
            rfl
          case measure => simp [intOf]; omega
        · have hl2 : ¬ (q.M.length : Int) < (M.length : Int) := by omega
          have HE2 := Lib.hid (show q.M.map (·.fm) = M.map (·.fm) by rw [HE.out, List.take_of_length_le (by simp; omega)])
          have q0 := HD.out.Q.cell 0
          have q1 := HD.out.Q.cell 1
          have q2 := HD.out.Q.cell 2
          have r0 := HD.out.R.cell 0
          have r1 := HD.out.R.cell 1
          have r2 := HD.out.R.cell 2
          have z0 := HD.out.R.frozen 0
          have z1 := HD.out.R.frozen 1
          have z2 := HD.out.R.frozen 2
          go_wp2_with fail
          obtain ⟨o9, b9, k9⟩ := HD.out.chain (x := .slice q.AF q.L.length q.cF) (y := .slice q.AS q.S.length q.cS) (z := .slice q.AM q.M.length q.cM)
          refine bodyPost_ret (results_cell_row rfl _ _ _ 42 _ (0, 0) _ rfl k9 Tryd.underlying42 rfl (by kernel_rfl)) rfl ⟨q, rfl, ?_, o9, b9⟩
          simp only [PrMem.pr, HE2.out, HQS.out, HQL.out]
end Go.Proofs.YtiphicejaljhiaaDoor
