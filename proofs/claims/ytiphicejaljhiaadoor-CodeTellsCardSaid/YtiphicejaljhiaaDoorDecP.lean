/- What a reader of programs holds while it reads: its reader, the program so far, rows of its own; and a call as a step of a region that draws its order. -/
import Derived.Test.YtiphicejaljhiaaDoorEqual
import Derived.Test.YtiphicejaljhiaaDoorRdFun
import Derived.Deep.RegionLaw
import Derived.WalkSpells
namespace Go.Proofs.YtiphicejaljhiaaDoor
open Go.ChangeShapes Go.WideShapes Go.ChangeAt Go.RowKit
theorem step_call {ops : Array Oper} {o : Oper} {a : Act} {w : World} {K : Act → World → Prop} {Q : Exit → Act → World → Prop} {E : Prop} (hgd : o.guard = none) (f : Nat) (xs : Array Operand) (ts : Array TypeId)
    (ho : o.op = .call { callee := .value (.func f), args := xs, argTypes := ts }) (fn : Func) (hf : Tryd.prog.funcs[f]? = some fn) (hname : (fn.name == "runtime.NumGoroutine") = false) (hb : fn.body.isNone = false) (vs : Array Value) (hv0 : xs.toList.map a.eval = vs.toList) {R : Ending → World → Prop} (hc : Calls Tryd.prog f vs w R) (h : ∀ e w', R e w' → ∃ v, e = .returned v ∧ K (a.put o.dst v) w') :
    if Region.wanted o (yielded ops a.tmps) = true then Oper.wp Tryd.prog o a w K Q else E := by
  have hw : Region.wanted o (yielded ops a.tmps) = true := by simp [Region.wanted, hgd]
  rw [if_pos hw]
  have hv : xs.map a.eval = vs := Array.toList_inj.1 (by rw [Array.toList_map]; exact hv0)
  have h1 : ¬ fn.name = "runtime.NumGoroutine" := by simpa using hname
  have h2 : ¬ fn.body = none := by cases hx : fn.body <;> simp_all
  have hrun : (execOp a.eval o).run Tryd.prog w = .ok (.enter f vs) w := by
    unfold execOp
    simp [ho, resolve, Deferred.ofValue, invoke, callFunc, hf, h1, h2, Act.eval, hv]
  unfold Oper.wp
  rw [hrun]
  exact hc.mono fun e w' hr => by
    obtain ⟨v, rfl, hk⟩ := h e w' hr
    exact hk
theorem CodeTab.drew {w : World} (h : CodeTab w) : CodeTab w.drew := ⟨h.op, h.wd, h.sc⟩
def FnOwn (w : World) (b : Nat) (x : Fnv) : Prop := w.ownsRow b 23 3 (.slice x.ad x.fn.code.length x.cap) x.fn.code.length (x.fn.code.flatMap insCells) ∧ x.fn.code.length ≤ 65536
def FmOwn (w : World) (b : Nat) (x : Fmv) : Prop := w.ownsRow b 3 1 (.slice x.ad x.fm.cons.length x.cap) x.fm.cons.length (x.fm.cons.map (Value.int .i64)) ∧ x.fm.cons.length ≤ 65536
structure DecSt (w W : World) (g pb : Nat) (tr : TypeId) (q : PrMem) : Prop where
  low : Below w.heap.size w W
  rb : w.heap.size < g
  bp : g < pb
  rt : ∃ cs, Blk W g tr cs
  tt : tr ≠ 42
  P : Blk W w.heap.size 42 #[.slice none 0 0, .slice none 0 0, .slice none 0 0]
  Q : Blk W pb 42 #[.slice q.AF q.L.length q.cF, .slice q.AS q.S.length q.cS, .slice q.AM q.M.length q.cM]
  oF : W.ownsRow (g + 1) 60 3 (.slice q.AF q.L.length q.cF) q.L.length (q.L.flatMap Fnv.cells)
  oS : W.ownsRow (g + 1) 9 1 (.slice q.AS q.S.length q.cS) q.S.length (q.S.map strV)
  oM : W.ownsRow (g + 1) 63 4 (.slice q.AM q.M.length q.cM) q.M.length (q.M.flatMap Fmv.cells)
  cF : ∀ x ∈ q.L, FnOwn W (g + 1) x
  cM : ∀ x ∈ q.M, FmOwn W (g + 1) x
section
variable {w W W' W1 : World} {g pb : Nat} {tr : TypeId} {q : PrMem}
theorem DecSt.read (h : DecSt w W g pb tr q) (hg : W.grownBy W' (some g)) (ht : ∃ cs, Blk W' g tr cs) : DecSt w W' g pb tr q :=
  ⟨h.low.grown hg h.low.size (fun k e => by have := Option.some.inj e; have := h.rb; omega), h.rb, h.bp, ht, h.tt, rdKeep h.P hg (by have := h.rb; omega), rdKeep h.Q hg (by have := h.bp; omega),
    own_keep h.oF hg (Nat.lt_succ_self _), own_keep h.oS hg (Nat.lt_succ_self _), own_keep h.oM hg (Nat.lt_succ_self _), fun x hx => ⟨own_keep (h.cF x hx).1 hg (Nat.lt_succ_self _), (h.cF x hx).2⟩, fun x hx => ⟨own_keep (h.cM x hx).1 hg (Nat.lt_succ_self _), (h.cM x hx).2⟩⟩
theorem DecSt.alloc (h : DecSt w W g pb tr q) (o : Obj) : DecSt w (W.alloc o) g pb tr q := by
  obtain ⟨cs, ht⟩ := h.rt
  exact ⟨h.low.alloc h.low.size o, h.rb, h.bp, ⟨cs, ht.alloc o⟩, h.tt, h.P.alloc o, h.Q.alloc o, h.oF.alloc o, h.oS.alloc o, h.oM.alloc o, fun x hx => ⟨(h.cF x hx).1.alloc o, (h.cF x hx).2⟩, fun x hx => ⟨(h.cM x hx).1.alloc o, (h.cM x hx).2⟩⟩
theorem DecSt.drew (h : DecSt w W g pb tr q) : DecSt w W.drew g pb tr q := ⟨h.low.drew, h.rb, h.bp, h.rt, h.tt, h.P, h.Q, h.oF, h.oS, h.oM, h.cF, h.cM⟩
theorem setP {b : Nat} {x y z u : Value} (h : Blk W b 42 #[x, y, z]) : Blk (W.setCell ⟨b, 0, none⟩ u) b 42 #[u, y, z] ∧ Blk (W.setCell ⟨b, 1, none⟩ u) b 42 #[x, u, z] ∧ Blk (W.setCell ⟨b, 2, none⟩ u) b 42 #[x, y, u] := ⟨h.set_ 0 u, h.set_ 1 u, h.set_ 2 u⟩
/-- A function more. -/
theorem DecSt.pushF (h : DecSt w W g pb tr q) (htr : tr ≠ 60) {x : Fnv} (hx : FnOwn W (g + 1) x) {a1 : Option Addr} {c1 : Nat} (hg : W.grownBy W1 (Value.slice q.AF q.L.length q.cF).ownBlock)
    (ho : W1.ownsRow (g + 1) 60 3 (.slice a1 (q.L.length + 1) c1) (q.L.length + 1) (q.L.flatMap Fnv.cells ++ x.cells)) :
    DecSt w (W1.setCell ⟨pb, 0, none⟩ (.slice a1 (q.L.length + 1) c1)) g pb tr ⟨a1, c1, q.L ++ [x], q.AS, q.cS, q.S, q.AM, q.cM, q.M⟩ := by
  obtain ⟨cs, ht⟩ := h.rt
  have Q1 := blk_row h.Q h.oF hg (by decide)
  have T1 := blk_row ht h.oF hg (fun e => htr e.symm)
  have hrow : ∀ k, (Value.slice q.AF q.L.length q.cF).ownBlock = some k → g + 1 ≤ k := fun k e => (h.oF.lt k e).1
  have hrb := h.rb
  have hbp := h.bp
  refine ⟨(h.low.grown hg h.low.size (fun k e => by have := hrow k e; omega)).setCell (p := ⟨pb, 0, none⟩) (by simp; omega) _, h.rb, h.bp, ⟨cs, T1.far (by simp; omega) _⟩, h.tt, (blk_row h.P h.oF hg (by decide)).far (by simp; omega) _, ?_, ?_, ?_, ?_, ?_, ?_⟩
  · simp only [List.length_append, List.length_cons, List.length_nil]
    exact (setP Q1).1
  · simp only [List.length_append, List.length_cons, List.length_nil, List.flatMap_append, List.flatMap_cons, List.flatMap_nil, List.append_nil]
    exact own_set ho Q1 (by decide)
  · exact own_set (own_row h.oS h.oF hg (by decide)) Q1 (by decide)
  · exact own_set (own_row h.oM h.oF hg (by decide)) Q1 (by decide)
  · intro y hy
    rcases List.mem_append.1 hy with hy | hy
    · exact ⟨own_set (own_row (h.cF y hy).1 h.oF hg (by decide)) Q1 (by decide), (h.cF y hy).2⟩
    · obtain rfl := List.mem_singleton.1 hy
      exact ⟨own_set (own_row hx.1 h.oF hg (by decide)) Q1 (by decide), hx.2⟩
  · intro y hy
    exact ⟨own_set (own_row (h.cM y hy).1 h.oF hg (by decide)) Q1 (by decide), (h.cM y hy).2⟩
/-- A text more. -/
theorem DecSt.pushS (h : DecSt w W g pb tr q) (htr : tr ≠ 9) {x : List UInt8} {a1 : Option Addr} {c1 : Nat} (hg : W.grownBy W1 (Value.slice q.AS q.S.length q.cS).ownBlock)
    (ho : W1.ownsRow (g + 1) 9 1 (.slice a1 (q.S.length + 1) c1) (q.S.length + 1) (q.S.map strV ++ [strV x])) :
    DecSt w (W1.setCell ⟨pb, 1, none⟩ (.slice a1 (q.S.length + 1) c1)) g pb tr ⟨q.AF, q.cF, q.L, a1, c1, q.S ++ [x], q.AM, q.cM, q.M⟩ := by
  obtain ⟨cs, ht⟩ := h.rt
  have Q1 := blk_row h.Q h.oS hg (by decide)
  have T1 := blk_row ht h.oS hg (fun e => htr e.symm)
  have hrow : ∀ k, (Value.slice q.AS q.S.length q.cS).ownBlock = some k → g + 1 ≤ k := fun k e => (h.oS.lt k e).1
  have hrb := h.rb
  have hbp := h.bp
  refine ⟨(h.low.grown hg h.low.size (fun k e => by have := hrow k e; omega)).setCell (p := ⟨pb, 1, none⟩) (by simp; omega) _, h.rb, h.bp, ⟨cs, T1.far (by simp; omega) _⟩, h.tt, (blk_row h.P h.oS hg (by decide)).far (by simp; omega) _, ?_, ?_, ?_, ?_, ?_, ?_⟩
  · simp only [List.length_append, List.length_cons, List.length_nil]
    exact (setP Q1).2.1
  · exact own_set (own_row h.oF h.oS hg (by decide)) Q1 (by decide)
  · simp only [List.length_append, List.length_cons, List.length_nil, List.map_append, List.map_cons, List.map_nil]
    exact own_set ho Q1 (by decide)
  · exact own_set (own_row h.oM h.oS hg (by decide)) Q1 (by decide)
  · intro y hy
    exact ⟨own_set (own_row (h.cF y hy).1 h.oS hg (by decide)) Q1 (by decide), (h.cF y hy).2⟩
  · intro y hy
    exact ⟨own_set (own_row (h.cM y hy).1 h.oS hg (by decide)) Q1 (by decide), (h.cM y hy).2⟩
/-- A form more. -/
theorem DecSt.pushM (h : DecSt w W g pb tr q) (htr : tr ≠ 63) {x : Fmv} (hx : FmOwn W (g + 1) x) {a1 : Option Addr} {c1 : Nat} (hg : W.grownBy W1 (Value.slice q.AM q.M.length q.cM).ownBlock)
    (ho : W1.ownsRow (g + 1) 63 4 (.slice a1 (q.M.length + 1) c1) (q.M.length + 1) (q.M.flatMap Fmv.cells ++ x.cells)) :
    DecSt w (W1.setCell ⟨pb, 2, none⟩ (.slice a1 (q.M.length + 1) c1)) g pb tr ⟨q.AF, q.cF, q.L, q.AS, q.cS, q.S, a1, c1, q.M ++ [x]⟩ := by
  obtain ⟨cs, ht⟩ := h.rt
  have Q1 := blk_row h.Q h.oM hg (by decide)
  have T1 := blk_row ht h.oM hg (fun e => htr e.symm)
  have hrow : ∀ k, (Value.slice q.AM q.M.length q.cM).ownBlock = some k → g + 1 ≤ k := fun k e => (h.oM.lt k e).1
  have hrb := h.rb
  have hbp := h.bp
  refine ⟨(h.low.grown hg h.low.size (fun k e => by have := hrow k e; omega)).setCell (p := ⟨pb, 2, none⟩) (by simp; omega) _, h.rb, h.bp, ⟨cs, T1.far (by simp; omega) _⟩, h.tt, (blk_row h.P h.oM hg (by decide)).far (by simp; omega) _, ?_, ?_, ?_, ?_, ?_, ?_⟩
  · simp only [List.length_append, List.length_cons, List.length_nil]
    exact (setP Q1).2.2
  · exact own_set (own_row h.oF h.oM hg (by decide)) Q1 (by decide)
  · exact own_set (own_row h.oS h.oM hg (by decide)) Q1 (by decide)
  · simp only [List.length_append, List.length_cons, List.length_nil, List.flatMap_append, List.flatMap_cons, List.flatMap_nil, List.append_nil]
    exact own_set ho Q1 (by decide)
  · intro y hy
    exact ⟨own_set (own_row (h.cF y hy).1 h.oM hg (by decide)) Q1 (by decide), (h.cF y hy).2⟩
  · intro y hy
    rcases List.mem_append.1 hy with hy | hy
    · exact ⟨own_set (own_row (h.cM y hy).1 h.oM hg (by decide)) Q1 (by decide), (h.cM y hy).2⟩
    · obtain rfl := List.mem_singleton.1 hy
      exact ⟨own_set (own_row hx.1 h.oM hg (by decide)) Q1 (by decide), hx.2⟩
/-- It is a program in memory. -/
theorem DecSt.ok (h : DecSt w W g pb tr q) (l1 : q.L.length ≤ 65536) (l2 : q.S.length ≤ 65536) (l3 : q.M.length ≤ 65536) : PrOk W W.heap.size q :=
  ⟨Reads.of_own h.oF, fun x hx => ⟨Reads.of_own (h.cF x hx).1, by have := (h.cF x hx).2; unfold maxLen; omega⟩, Reads.of_own h.oS, Reads.of_own h.oM, fun x hx => ⟨Reads.of_own (h.cM x hx).1, by have := (h.cM x hx).2; unfold maxLen; omega⟩, by unfold maxLen; omega, by unfold maxLen; omega, by unfold maxLen; omega⟩
end
set_option maxRecDepth 100000 in
/-- slices.Clone of bytes. -/
theorem c54 (l : List UInt8) (A : Option Addr) (c : Nat) (w : World) (hr : Reads w w.heap.size 1 A l.length (cellsB l)) (hl : l.length ≤ 1099511627776) :
    Calls Tryd.prog 54 #[.slice A l.length c] w fun e w' => ∃ A' c', e = .returned (.slice A' l.length c') ∧ w'.ownsRow w.heap.size 5 1 (.slice A' l.length c') l.length (cellsB l) ∧ Below w.heap.size w w' := by
  obtain ⟨i0, hi0, hz0, hz1, hz2⟩ := info_parts u8_info
  cases A with
  | none =>
    have hl0 : l = [] := by
      cases l with
      | nil => rfl
      | cons x l => obtain ⟨ad, e, _⟩ := hr.2 (by simp); cases e
    subst hl0
    have en := Lib.run_eql_slice_nil (P := Tryd.prog) w 43 5 none 0 c 0 0 Tryd.underlying43
    go_enter Tryd.func54, Tryd.ntmps54
    go_wp2_with fail
    go_ret
    exact ⟨none, 0, rfl, ⟨rfl, .inl ⟨rfl, rfl⟩⟩, Below.refl _ _⟩
  | some ad =>
    have R1 := hr.alloc (Nat.le_refl _) (.cells #[] 5)
    have o0 : (w.alloc (.cells #[] 5)).ownsRow w.heap.size 5 1 (.slice (some ⟨w.heap.size, 0, none⟩) 0 0) 0 [] := ⟨rfl, .inr ⟨w.heap.size, 0, #[], rfl, Nat.le_refl _, heap_alloc_new w _, Nat.le_refl _, Nat.zero_le _, rfl, rfl⟩⟩
    have b0 := below_new w (.cells #[] 5)
    have HO := Lib.hid o0
    have HB := Lib.hid b0
    have HR := Lib.hid R1
    clear o0 b0 R1
    have en := Lib.run_eql_slice_nil (P := Tryd.prog) w 43 5 (some ad) l.length c 0 0 Tryd.underlying43
    go_enter Tryd.func54, Tryd.ntmps54
    go_wp2_with (at_builtin; refine wpList_append_any _ rfl (.tmp 5) (.tmp 6) _ rfl w.heap.size 5 i0 _ 1 1 Tryd.underlying43 hi0 hz0 hz1 hz2 rfl (by omega) _ 0 [] rfl HO.out w.heap.size (some ad) l.length c (cellsB l) rfl HR.out (by intro u hu; unfold cellsB at hu; obtain ⟨b, _, rfl⟩ := List.mem_map.1 hu; rfl) (by unfold maxLen; omega) (by omega) HB.out.size ?_; intro v1 w1 hown hg hat)
    go_ret
    obtain ⟨a1, c1, rfl⟩ := own_form hown
    refine ⟨a1, c1, by rw [Nat.zero_add]; rfl, by simpa using hown, HB.out.grown hg HB.out.size (fun k hk => (HO.out.lt k hk).1)⟩
end Go.Proofs.YtiphicejaljhiaaDoor
