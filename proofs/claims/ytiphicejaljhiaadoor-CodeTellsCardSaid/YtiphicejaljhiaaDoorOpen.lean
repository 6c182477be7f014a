/- An argument that is a program, opened: how it lies in memory. -/
import Derived.Test.YtiphicejaljhiaaDoorPro
import Derived.Deep.Slices
import Derived.Deep.Fields
import Derived.Deep.Strs
import Derived.ChangeSame
import Derived.ChangeSlices
import Derived.Lib.SmallJoins
namespace Go.Proofs.YtiphicejaljhiaaDoor
open Go.ChangeShapes Go.WideShapes Go.ChangeAt Go.RowKit Go.Deep
/-! A slice of structs of any number of one-cell fields (the guide's words to copy). -/
section
variable {H : Type} {enc : TypeId × Value → H} {P : Program} {w : World} {base : Nat} {spare : Nat → Bool} {held : Bool}
theorem open_slice_fields {t e : TypeId} {fs : Array Field} {fuel : Nat} {cs : List Value} {x : DataW H × List MemPlace} (ht : P.underlying t = some (.slice e)) (he : P.underlying e = some (.struct fs))
    (hone : oneCellFields P fs = true) (hC : P.cellsOf e = fs.size) (h : DataW.trod enc P w base spare held fuel t cs = some x) :
    (cs = [.slice none 0 0] ∧ x = (.nil, [])) ∨
    ∃ (a : Addr) (len cap m : Nat) (D : Nat → DataW H) (Pl : Nat → List MemPlace), cs = [.slice (some a) len cap] ∧ base ≤ a.block ∧ len ≤ cap ∧ cap ≤ maxLen ∧ m = (if spare a.block then cap else len) ∧
      x = (.slice ((List.range len).map D) ((List.range (m - len)).map fun j => D (len + j)), MemPlace.row a (m * fs.size) ++ (List.range m).flatMap Pl) ∧
      ∀ i, i < m → ∃ (ys : List (DataW H × List MemPlace)) (n : Nat), D i = .agg (ys.map (·.1)) ∧ Pl i = ys.flatMap (·.2) ∧ ys.length = fs.size ∧
        ∀ (j : Nat) (f : Field), fs[j]? = some f → ∃ (v : Value) (y : DataW H × List MemPlace), w.cell? (a.add (i * fs.size + j)) = some v ∧ ys[j]? = some y ∧ DataW.trod enc P w base spare held n f.type [v] = some y := by
  rcases open_slice ht h with h0 | ⟨a, len, cap, m, n, D, Pl, hcs, hb, hl, hm, hmm, hx, hi⟩
  · exact .inl h0
  · refine .inr ⟨a, len, cap, m, D, Pl, hcs, hb, hl, hm, hmm, by rw [hC] at hx; exact hx, fun i him => ?_⟩
    obtain ⟨cs', hc, ht'⟩ := hi i him
    rw [hC] at hc
    obtain ⟨ys, n', hn', hy, hlen, hyl, hf⟩ := DataW.trod_struct he ht'
    obtain ⟨_, hcl, hat⟩ := World.cells?_some hc
    simp only [Prod.mk.injEq] at hy
    refine ⟨ys, n', hy.1, hy.2, hyl, fun j f hj => ?_⟩
    obtain ⟨ho, hk⟩ := hone_of hone j f hj
    have hjl : j < fs.size := (Array.getElem?_eq_some_iff.1 hj).1
    have hcell := hat j hjl
    have hv : cs'[j]? = some (cs'[j]'(by omega)) := List.getElem?_eq_getElem (by omega)
    have h1 := hf j f hj
    rw [ho, hk] at h1
    have hone' : (cs'.drop j).take 1 = [cs'[j]'(by omega)] := by
      rw [List.drop_eq_getElem_cons (by omega)]
      rfl
    rw [hone'] at h1
    have hys : ys[j]? = some (ys[j]'(by omega)) := List.getElem?_eq_getElem (by omega)
    refine ⟨_, _, ?_, hys, h1.trans hys⟩
    rw [← Go.Deep.add_add, hcell, hv]
end

theorem exists_list {α : Type} {P : Nat → α → Prop} : ∀ n : Nat, (∀ i, i < n → ∃ x, P i x) → ∃ L : List α, L.length = n ∧ ∀ (i : Nat) (x : α), L[i]? = some x → P i x := by
  intro n
  induction n with
  | zero => intro _; exact ⟨[], rfl, fun i x h => by simp at h⟩
  | succ n ih =>
    intro h
    obtain ⟨L, hl, hP⟩ := ih (fun i hi => h i (by omega))
    obtain ⟨y, hy⟩ := h n (by omega)
    refine ⟨L ++ [y], by simp [hl], fun i x hx => ?_⟩
    rcases Nat.lt_or_ge i n with hi | hi
    · rw [List.getElem?_append_left (by omega)] at hx
      exact hP i x hx
    · have hin : i = n := by
        have := (List.getElem?_eq_some_iff.1 hx).1
        simp [hl] at this
        omega
      subst hin
      rw [List.getElem?_append_right (by omega)] at hx
      simp [hl] at hx
      subst hx
      exact hy
theorem reads_of_cells {α : Type} {f : α → List Value} {m : Nat} (hf : ∀ x, (f x).length = m) (hm : 0 < m) {w : World} {a : Addr} {n : Nat} {L : List α} (hL : L.length = n)
    (h : ∀ i x, L[i]? = some x → ∀ j v, (f x)[j]? = some v → w.cell? (a.add (i * m + j)) = some v) : Reads w w.heap.size m (some a) n (L.flatMap f) := by
  refine ⟨by rw [flat_len f m hf, hL], fun hn => ⟨a, rfl, ?_, fun j u hu => ?_⟩⟩
  · obtain ⟨x, hx⟩ : ∃ x, L[0]? = some x := ⟨L[0]'(by omega), List.getElem?_eq_getElem (by omega)⟩
    have h0 := h 0 x hx 0 ((f x)[0]'(by rw [hf]; exact hm)) (List.getElem?_eq_getElem _)
    have := World.block_lt_of_cell? w _ h0
    rw [block_of_add] at this
    exact this
  · have hj : j < L.length * m := by
      have := (List.getElem?_eq_some_iff.1 hu).1
      rw [flat_len f m hf] at this
      exact this
    have hi : j / m < L.length := Nat.div_lt_of_lt_mul (by rw [Nat.mul_comm]; exact hj)
    have hr : j % m < m := Nat.mod_lt _ hm
    have hjm : j / m * m + j % m = j := by rw [Nat.mul_comm]; exact Nat.div_add_mod j m
    have h1 := flatN f m hf L (j / m) (j % m) _ (List.getElem?_eq_getElem hi) hr
    rw [hjm, hu] at h1
    have h2 := h (j / m) _ (List.getElem?_eq_getElem hi) (j % m) u h1.symm
    rw [hjm] at h2
    exact h2
theorem flat_single {α : Type} (f : α → Value) : ∀ l : List α, l.flatMap (fun x => [f x]) = l.map f
  | [] => rfl
  | x :: l => by rw [List.flatMap_cons, List.map_cons, flat_single f l]; rfl
section
variable {H : Type} {enc : TypeId × Value → H} {w : World}
theorem int_val {n : Nat} {v : Value} {y : DataW H × List MemPlace} (h : DataW.trod enc Tryd.prog w 0 (fun _ => true) true n 3 [v] = some y) : ∃ z : Int, v = .int .i64 z := by
  obtain ⟨z, hz, _⟩ := DataW.trod_int Tryd.underlying3 h
  injection hz with hz _
  exact ⟨z, hz⟩
/-- A slice of numbers. -/
theorem open_cons {n : Nat} {v : Value} {y : DataW H × List MemPlace} (h : DataW.trod enc Tryd.prog w 0 (fun _ => true) true n 61 [v] = some y) :
    ∃ (A : Option Addr) (l : List Int) (c : Nat), v = .slice A l.length c ∧ Reads w w.heap.size 1 A l.length (l.map (Value.int .i64)) ∧ l.length ≤ maxLen := by
  rcases open_slice1 Tryd.underlying61 (by kernel_rfl) h with ⟨hv, _⟩ | ⟨a, len, cap, m, k, V, D, Pl, hv, hb, hl, hm, hmm, _, hx⟩
  · injection hv with hv _
    exact ⟨none, [], 0, hv, Reads.none_, Nat.zero_le _⟩
  · injection hv with hv _
    simp at hmm
    obtain ⟨L, hL, hP⟩ := exists_list (P := fun i (z : Int) => w.cell? (a.add i) = some (.int .i64 z)) len (fun i hi => by
      obtain ⟨h1, h2⟩ := hx i (by omega)
      obtain ⟨z, hz, _⟩ := DataW.trod_int Tryd.underlying3 h2
      injection hz with hz _
      exact ⟨z, by rw [h1, hz]⟩)
    refine ⟨some a, L, cap, by rw [hL]; exact hv, ?_, by omega⟩
    have := reads_of_cells (f := fun z : Int => [Value.int .i64 z]) (m := 1) (fun _ => rfl) (by decide) (w := w) (a := a) rfl (L := L) (fun i z hz j v hv => by
      match j, hv with
      | 0, hv => rw [← Option.some.inj hv, Nat.mul_one, Nat.add_zero]; exact hP i z hz)
    rw [flat_single] at this
    exact this
/-- A slice of instructions. -/
theorem open_code {n : Nat} {v : Value} {y : DataW H × List MemPlace} (h : DataW.trod enc Tryd.prog w 0 (fun _ => true) true n 58 [v] = some y) :
    ∃ (A : Option Addr) (l : List Ins) (c : Nat), v = .slice A l.length c ∧ Reads w w.heap.size 3 A l.length (l.flatMap insCells) ∧ l.length ≤ maxLen := by
  rcases open_slice_fields Tryd.underlying58 Tryd.underlying23 (by kernel_rfl) (by kernel_rfl) h with ⟨hv, _⟩ | ⟨a, len, cap, m, D, Pl, hv, hb, hl, hm, hmm, _, hx⟩
  · injection hv with hv _
    exact ⟨none, [], 0, hv, Reads.none_, Nat.zero_le _⟩
  · injection hv with hv _
    simp at hmm
    obtain ⟨L, hL, hP⟩ := exists_list (P := fun i (x : Ins) => ∀ j v, (insCells x)[j]? = some v → w.cell? (a.add (i * 3 + j)) = some v) len (fun i hi => by
      obtain ⟨ys, k, _, _, _, hf⟩ := hx i (by omega)
      obtain ⟨v0, y0, c0, _, t0⟩ := hf 0 _ rfl
      obtain ⟨v1, y1, c1, _, t1⟩ := hf 1 _ rfl
      obtain ⟨v2, y2, c2, _, t2⟩ := hf 2 _ rfl
      obtain ⟨o, rfl⟩ := int_val t0
      obtain ⟨ia, rfl⟩ := int_val t1
      obtain ⟨ib, rfl⟩ := int_val t2
      refine ⟨⟨o, ia, ib⟩, fun j v hv => ?_⟩
      match j, hv with
      | 0, hv => rw [← Option.some.inj hv]; exact c0
      | 1, hv => rw [← Option.some.inj hv]; exact c1
      | 2, hv => rw [← Option.some.inj hv]; exact c2)
    exact ⟨some a, L, cap, by rw [hL]; exact hv, reads_of_cells (f := insCells) (m := 3) (fun _ => rfl) (by decide) rfl hP, by omega⟩
/-- A slice of functions. -/
theorem open_fns {n : Nat} {v : Value} {y : DataW H × List MemPlace} (h : DataW.trod enc Tryd.prog w 0 (fun _ => true) true n 38 [v] = some y) :
    ∃ (A : Option Addr) (L : List Fnv) (c : Nat), v = .slice A L.length c ∧ Reads w w.heap.size 3 A L.length (L.flatMap Fnv.cells) ∧ (∀ x ∈ L, FnOk w w.heap.size x) ∧ L.length ≤ maxLen := by
  rcases open_slice_fields Tryd.underlying38 Tryd.underlying60 (by kernel_rfl) (by kernel_rfl) h with ⟨hv, _⟩ | ⟨a, len, cap, m, D, Pl, hv, hb, hl, hm, hmm, _, hx⟩
  · injection hv with hv _
    exact ⟨none, [], 0, hv, Reads.none_, fun x hx => (List.not_mem_nil hx).elim, Nat.zero_le _⟩
  · injection hv with hv _
    simp at hmm
    obtain ⟨L, hL, hP⟩ := exists_list (P := fun i (x : Fnv) => (∀ j v, x.cells[j]? = some v → w.cell? (a.add (i * 3 + j)) = some v) ∧ FnOk w w.heap.size x) len (fun i hi => by
      obtain ⟨ys, k, _, _, _, hf⟩ := hx i (by omega)
      obtain ⟨v0, y0, c0, _, t0⟩ := hf 0 _ rfl
      obtain ⟨v1, y1, c1, _, t1⟩ := hf 1 _ rfl
      obtain ⟨v2, y2, c2, _, t2⟩ := hf 2 _ rfl
      obtain ⟨lo, rfl⟩ := int_val t0
      obtain ⟨fr, rfl⟩ := int_val t1
      obtain ⟨xa, l, xc, rfl, hr, hlm⟩ := open_code t2
      refine ⟨⟨⟨lo, fr, l⟩, xa, xc⟩, fun j v hv => ?_, hr, hlm⟩
      match j, hv with
      | 0, hv => rw [← Option.some.inj hv]; exact c0
      | 1, hv => rw [← Option.some.inj hv]; exact c1
      | 2, hv => rw [← Option.some.inj hv]; exact c2)
    refine ⟨some a, L, cap, by rw [hL]; exact hv, reads_of_cells (f := Fnv.cells) (m := 3) (fun _ => rfl) (by decide) rfl (fun i x hx => (hP i x hx).1), fun x hx => ?_, by omega⟩
    obtain ⟨i, hi⟩ := List.getElem?_of_mem hx
    exact (hP i x hi).2
/-- A slice of forms. -/
theorem open_fms {n : Nat} {v : Value} {y : DataW H × List MemPlace} (h : DataW.trod enc Tryd.prog w 0 (fun _ => true) true n 40 [v] = some y) :
    ∃ (A : Option Addr) (L : List Fmv) (c : Nat), v = .slice A L.length c ∧ Reads w w.heap.size 4 A L.length (L.flatMap Fmv.cells) ∧ (∀ x ∈ L, FmOk w w.heap.size x) ∧ L.length ≤ maxLen := by
  rcases open_slice_fields Tryd.underlying40 Tryd.underlying63 (by kernel_rfl) (by kernel_rfl) h with ⟨hv, _⟩ | ⟨a, len, cap, m, D, Pl, hv, hb, hl, hm, hmm, _, hx⟩
  · injection hv with hv _
    exact ⟨none, [], 0, hv, Reads.none_, fun x hx => (List.not_mem_nil hx).elim, Nat.zero_le _⟩
  · injection hv with hv _
    simp at hmm
    obtain ⟨L, hL, hP⟩ := exists_list (P := fun i (x : Fmv) => (∀ j v, x.cells[j]? = some v → w.cell? (a.add (i * 4 + j)) = some v) ∧ FmOk w w.heap.size x) len (fun i hi => by
      obtain ⟨ys, k, _, _, _, hf⟩ := hx i (by omega)
      obtain ⟨v0, y0, c0, _, t0⟩ := hf 0 _ rfl
      obtain ⟨v1, y1, c1, _, t1⟩ := hf 1 _ rfl
      obtain ⟨v2, y2, c2, _, t2⟩ := hf 2 _ rfl
      obtain ⟨v3, y3, c3, _, t3⟩ := hf 3 _ rfl
      obtain ⟨kd, rfl⟩ := int_val t0
      obtain ⟨fa, rfl⟩ := int_val t1
      obtain ⟨fb, rfl⟩ := int_val t2
      obtain ⟨xa, l, xc, rfl, hr, hlm⟩ := open_cons t3
      refine ⟨⟨⟨kd, fa, fb, l⟩, xa, xc⟩, fun j v hv => ?_, hr, hlm⟩
      match j, hv with
      | 0, hv => rw [← Option.some.inj hv]; exact c0
      | 1, hv => rw [← Option.some.inj hv]; exact c1
      | 2, hv => rw [← Option.some.inj hv]; exact c2
      | 3, hv => rw [← Option.some.inj hv]; exact c3)
    refine ⟨some a, L, cap, by rw [hL]; exact hv, reads_of_cells (f := Fmv.cells) (m := 4) (fun _ => rfl) (by decide) rfl (fun i x hx => (hP i x hx).1), fun x hx => ?_, by omega⟩
    obtain ⟨i, hi⟩ := List.getElem?_of_mem hx
    exact (hP i x hi).2
/-- A slice of texts. -/
theorem open_texts {n : Nat} {v : Value} {y : DataW H × List MemPlace} (h : DataW.trod enc Tryd.prog w 0 (fun _ => true) true n 39 [v] = some y) :
    ∃ (A : Option Addr) (l : List (List UInt8)) (c : Nat), v = .slice A l.length c ∧ Reads w w.heap.size 1 A l.length (l.map strV) ∧ l.length ≤ maxLen := by
  rcases open_strs Tryd.underlying39 Tryd.underlying9 (by kernel_rfl) h with ⟨hv, _⟩ | ⟨a, len, cap, m, Sx, hv, hb, hl, hm, hmm, _, hx⟩
  · injection hv with hv _
    exact ⟨none, [], 0, hv, Reads.none_, Nat.zero_le _⟩
  · injection hv with hv _
    simp at hmm
    obtain ⟨L, hL, hP⟩ := exists_list (P := fun i (z : List UInt8) => w.cell? (a.add i) = some (strV z)) len (fun i hi => ⟨(Sx i).data.toList, by
      rw [(hx i (by omega)).1]⟩)
    refine ⟨some a, L, cap, by rw [hL]; exact hv, ?_, by omega⟩
    have := reads_of_cells (f := fun z : List UInt8 => [strV z]) (m := 1) (fun _ => rfl) (by decide) (w := w) (a := a) rfl (L := L) (fun i z hz j v hv => by
      match j, hv with
      | 0, hv => rw [← Option.some.inj hv, Nat.mul_one, Nat.add_zero]; exact hP i z hz)
    rw [flat_single] at this
    exact this
set_option maxRecDepth 100000 in
/-- A PROGRAM THAT COMES IN. -/
theorem open_pr {r : Reach} {b0 : Nat} {v : Value} {d : DataW H} {p : List MemPlace} (hval : Value.okWide Tryd.prog w r b0 42 v) (h : DataW.Trod enc Tryd.prog w 0 (fun _ => true) true 42 v d p) :
    ∃ q : PrMem, v = q.val ∧ PrOk w w.heap.size q := by
  obtain ⟨v0, v1, v2, y0, y1, y2, n, rfl, _, _, t0, t1, t2⟩ := Joins.open_agg3 Tryd.underlying42 (by kernel_rfl) (by kernel_rfl) hval h
  obtain ⟨AF, L, cF, rfl, h1, h2, l1⟩ := open_fns t0
  obtain ⟨AS, S, cS, rfl, h3, l2⟩ := open_texts t1
  obtain ⟨AM, M, cM, rfl, h4, h5, l3⟩ := open_fms t2
  exact ⟨⟨AF, cF, L, AS, cS, S, AM, cM, M⟩, rfl, h1, h2, h3, h4, h5, l1, l2, l3⟩
end
end Go.Proofs.YtiphicejaljhiaaDoor
