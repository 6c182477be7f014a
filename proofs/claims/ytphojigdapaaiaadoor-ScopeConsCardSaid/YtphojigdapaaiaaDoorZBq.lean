/- An argument that is a tree, opened, with what the reach says of its texts; the tables off the row's list; op.rows as its type has it. -/
import Derived.Test.YtphojigdapaaiaaDoorZBo
import Derived.Deep.Slices
import Derived.Deep.Fields
import Derived.Deep.Strs
import Derived.ChangeSame
import Derived.ChangeSlices
import Derived.Lib.SmallJoins
import Derived.SizedLaws
import Derived.ShapedOpen
import Derived.Test.YtphojigdapaaiaaDoorRows
namespace Go.Proofs.YtphojigdapaaiaaDoor
open Go.ChangeShapes Go.WideShapes Go.ChangeAt Go.RowKit Go.Deep
set_option linter.unusedVariables false
section
variable {H : Type} {enc : TypeId × Value → H} {P : Program} {w : World} {base : Nat} {spare : Nat → Bool} {held : Bool}
theorem open_slice_fields {t e : TypeId} {fs : Array Field} {fuel : Nat} {cs : List Value} {x : DataW H × List MemPlace} (ht : P.underlying t = some (.slice e)) (he : P.underlying e = some (.struct fs))
    (hone : oneCellFields P fs = true) (hC : P.cellsOf e = fs.size) (h : DataW.trod enc P w base spare held fuel t cs = some x) :
    (cs = [.slice none 0 0] ∧ x = (.nil, [])) ∨
    ∃ (a : Addr) (len cap m : Nat) (D : Nat → DataW H) (Pl : Nat → List MemPlace), cs = [.slice (some a) len cap] ∧ base ≤ a.block ∧ len ≤ cap ∧ cap ≤ maxLen ∧ m = (if spare a.block then cap else len) ∧
      x = (.slice ((List.range len).map D) ((List.range (m - len)).map fun j => D (len + j)), MemPlace.row a (m * fs.size) ++ (List.range m).flatMap Pl) ∧
      ∀ i, i < m → ∃ (ys : List (DataW H × List MemPlace)) (n : Nat), D i = .agg (ys.map (·.1)) ∧ Pl i = ys.flatMap (·.2) ∧ ys.length = fs.size ∧
        ∀ (j : Nat) (f : Field), fs[j]? = some f → ∃ (v : Value) (y : DataW H × List MemPlace), w.cell? (a.add (i * fs.size + j)) = some v ∧ ys[j]? = some y ∧ DataW.trod enc P w base spare held n f.type [v] = some y := by
  rcases open_slice ht h with h0 | ⟨a, len, cap, m, n, D, Pl, hcs, hb, hl, hm, hmm, hx, hi⟩
  · exact .inl h0
  · refine .inr ⟨a, len, cap, m, D, Pl, hcs, hb, hl, hm, hmm, by rw [hC] at hx; exact hx, fun i him => ?_⟩
    obtain ⟨cs', hc, ht'⟩ := hi i him
    rw [hC] at hc
    obtain ⟨ys, n', hn', hy, hlen, hyl, hf⟩ := DataW.trod_struct he ht'
    obtain ⟨_, hcl, hat⟩ := World.cells?_some hc
    simp only [Prod.mk.injEq] at hy
    refine ⟨ys, n', hy.1, hy.2, hyl, fun j f hj => ?_⟩
    obtain ⟨ho, hk⟩ := hone_of hone j f hj
    have hjl : j < fs.size := (Array.getElem?_eq_some_iff.1 hj).1
    have hcell := hat j hjl
    have hv : cs'[j]? = some (cs'[j]'(by omega)) := List.getElem?_eq_getElem (by omega)
    have h1 := hf j f hj
    rw [ho, hk] at h1
    have hone' : (cs'.drop j).take 1 = [cs'[j]'(by omega)] := by
      rw [List.drop_eq_getElem_cons (by omega)]
      rfl
    rw [hone'] at h1
    have hys : ys[j]? = some (ys[j]'(by omega)) := List.getElem?_eq_getElem (by omega)
    refine ⟨_, _, ?_, hys, h1.trans hys⟩
    rw [← Go.Deep.add_add, hcell, hv]
end
section
variable {H : Type} {enc : TypeId × Value → H} {w : World}
theorem weights_slice {P : Program} {t e : TypeId} {a b : List (DataW H)} (ht : P.underlying t = some (.slice e)) : DataW.weights P t (.slice a b) = (a.length + b.length) * P.bytesOf e :: (DataW.weightsAll P e a ++ DataW.weightsAll P e b) := by
  rw [DataW.weights, ht]
theorem mem_all {P : Program} {e : TypeId} {n : Nat} : ∀ {l : List (DataW H)} {d : DataW H}, d ∈ l → n ∈ d.weights P e → n ∈ DataW.weightsAll P e l
  | d0 :: l, d, hd, hn => by
    rw [DataW.weightsAll, List.mem_append]
    rcases List.mem_cons.1 hd with rfl | hd
    · exact .inl hn
    · exact .inr (mem_all hd hn)
theorem mem_parts {P : Program} {t : TypeId} {fs : Array Field} (hs : P.underlying t = some (.struct fs)) {ys : List (DataW H × List MemPlace)} {j : Nat} {f : Field} {y : DataW H × List MemPlace} (hf : fs[j]? = some f) (hy : ys[j]? = some y)
    {m : Nat} (hm : m ∈ y.1.weights P f.type) : m ∈ DataW.weights P t (.agg (ys.map (·.1))) := by
  rw [DataW.weights, hs]
  refine DataW.weights_mem_each (j := j) (t := f.type) (d := y.1) ?_ ?_ m hm
  · rw [List.getElem?_map, Array.getElem?_toList, hf]; rfl
  · rw [List.getElem?_map, hy]; rfl
theorem int_val {n : Nat} {v : Value} {y : DataW H × List MemPlace} (h : DataW.trod enc Tryd.prog w 0 (fun _ => true) true n 3 [v] = some y) : ∃ z : Int, v = .int .i64 z := by
  obtain ⟨z, hz, _⟩ := DataW.trod_int Tryd.underlying3 h
  injection hz with hz _
  exact ⟨z, hz⟩
theorem int2_val {n : Nat} {v : Value} {y : DataW H × List MemPlace} (h : DataW.trod enc Tryd.prog w 0 (fun _ => true) true n 2 [v] = some y) : ∃ z : Int, v = .int .i64 z := by
  obtain ⟨z, hz, _⟩ := DataW.trod_int Tryd.underlying2 h
  injection hz with hz _
  exact ⟨z, hz⟩
theorem str_val {n : Nat} {v : Value} {y : DataW H × List MemPlace} (h : DataW.trod enc Tryd.prog w 0 (fun _ => true) true n 9 [v] = some y) : ∃ s : List UInt8, v = strV s ∧ y.1 = .lit (.string s) := by
  obtain ⟨b, hc, hx, _⟩ := DataW.trod_string Tryd.underlying9 h
  injection hc with hc _
  exact ⟨b.data.toList, by rw [hc], by rw [hx]⟩
theorem slice_sized {t e : TypeId} (ht : Tryd.prog.underlying t = some (.slice e)) {n : Nat} {v : Value} {y : DataW H × List MemPlace} (h : DataW.trod enc Tryd.prog w 0 (fun _ => true) true n t [v] = some y)
    (hw : ∀ m ∈ y.1.weights Tryd.prog t, m ≤ reachBytes) {A : Option Addr} {k c : Nat} (hv : v = .slice A k c) : k * Tryd.prog.bytesOf e ≤ reachBytes := by
  rcases open_slice ht h with ⟨hc, _⟩ | ⟨a, len, cap, m, k', D, Pl, hc, hb, hl, hm, hmm, rfl, hx⟩
  · rw [hv] at hc
    obtain ⟨_, hk, _⟩ := Value.slice.inj (List.cons.inj hc).1
    rw [hk, Nat.zero_mul]
    exact Nat.zero_le _
  · rw [hv] at hc
    obtain ⟨_, hk, _⟩ := Value.slice.inj (List.cons.inj hc).1
    rw [weights_slice ht] at hw
    have h1 := hw _ (List.mem_cons_self ..)
    simp only [List.length_map, List.length_range] at h1
    rw [hk]
    exact Nat.le_trans (Nat.mul_le_mul_right _ (Nat.le_add_right _ _)) h1
theorem open_ints {n : Nat} {v : Value} {y : DataW H × List MemPlace} (h : DataW.trod enc Tryd.prog w 0 (fun _ => true) true n 23 [v] = some y) (hw : ∀ m ∈ y.1.weights Tryd.prog 23, m ≤ reachBytes) :
    ∃ (A : Option Addr) (l : List Int) (c : Nat), v = .slice A l.length c ∧ Reads w w.heap.size 1 A l.length (l.map intV) ∧ l.length ≤ 281474976710656 := by
  rcases open_slice1 Tryd.underlying23 (by kernel_rfl) h with ⟨hv, _⟩ | ⟨a, len, cap, m, k, V, D, Pl, hv, hb, hl, hm, hmm, _, hx⟩
  · injection hv with hv _
    exact ⟨none, [], 0, hv, Reads.none_, Nat.zero_le _⟩
  · injection hv with hv _
    simp at hmm
    obtain ⟨L, hL, hP⟩ := exists_list (P := fun i (z : Int) => w.cell? (a.add i) = some (.int .i64 z)) len (fun i hi => by
      obtain ⟨h1, h2⟩ := hx i (by omega)
      obtain ⟨z, hz, _⟩ := DataW.trod_int Tryd.underlying3 h2
      injection hz with hz _
      exact ⟨z, by rw [h1, hz]⟩)
    have hv' : v = .slice (some a) L.length cap := by rw [hL]; exact hv
    refine ⟨some a, L, cap, hv', ?_, ?_⟩
    · have := reads_of_cells (f := fun z : Int => [intV z]) (m := 1) (fun _ => rfl) (by decide) (w := w) (a := a) rfl (L := L) (fun i z hz j v hv => by
        match j, hv with
        | 0, hv => rw [← Option.some.inj hv, Nat.mul_one, Nat.add_zero]; exact hP i z hz)
      rw [flat_single] at this
      exact this
    · have h1 := slice_sized Tryd.underlying23 h hw hv'
      rw [show Tryd.prog.bytesOf 3 = 8 by kernel_rfl] at h1
      unfold reachBytes at h1
      omega
set_option maxRecDepth 100000 in
theorem open_nodes {n : Nat} {v : Value} {y : DataW H × List MemPlace} (h : DataW.trod enc Tryd.prog w 0 (fun _ => true) true n 22 [v] = some y) (hw : ∀ m ∈ y.1.weights Tryd.prog 22, m ≤ reachBytes) :
    ∃ (A : Option Addr) (l : List Nod) (c : Nat), v = .slice A l.length c ∧ Reads w w.heap.size 8 A l.length (l.flatMap nodC) ∧ l.length ≤ 281474976710656 ∧ ∀ p ∈ l, p.t.length ≤ 281474976710656 ∧ p.t2.length ≤ 281474976710656 := by
  rcases open_slice_fields Tryd.underlying22 Tryd.underlying30 (by kernel_rfl) (by kernel_rfl) h with ⟨hv, _⟩ | ⟨a, len, cap, m, D, Pl, hv, hb, hl, hm, hmm, hd, hx⟩
  · injection hv with hv _
    exact ⟨none, [], 0, hv, Reads.none_, Nat.zero_le _, fun p hp => (List.not_mem_nil hp).elim⟩
  · injection hv with hv _
    simp at hmm
    have hd1 : y.1 = .slice ((List.range len).map D) ((List.range (m - len)).map fun j => D (len + j)) := by rw [hd]
    obtain ⟨L, hL, hP⟩ := exists_list (P := fun i (x : Nod) => (∀ j v, (nodC x)[j]? = some v → w.cell? (a.add (i * 8 + j)) = some v) ∧ x.t.length ≤ 281474976710656 ∧ x.t2.length ≤ 281474976710656) len (fun i hi => by
      obtain ⟨ys, k, hD, _, hyl, hf⟩ := hx i (by omega)
      obtain ⟨v0, y0, c0, _, t0⟩ := hf 0 _ rfl
      obtain ⟨v1, y1, c1, e1, t1⟩ := hf 1 _ rfl
      obtain ⟨v2, y2, c2, e2, t2⟩ := hf 2 _ rfl
      obtain ⟨v3, y3, c3, _, t3⟩ := hf 3 _ rfl
      obtain ⟨v4, y4, c4, _, t4⟩ := hf 4 _ rfl
      obtain ⟨v5, y5, c5, _, t5⟩ := hf 5 _ rfl
      obtain ⟨v6, y6, c6, _, t6⟩ := hf 6 _ rfl
      obtain ⟨v7, y7, c7, _, t7⟩ := hf 7 _ rfl
      obtain ⟨xk, rfl⟩ := int_val t0
      obtain ⟨xt, rfl, hy1⟩ := str_val t1
      obtain ⟨xt2, rfl, hy2⟩ := str_val t2
      obtain ⟨xn, rfl⟩ := int2_val t3
      obtain ⟨xa, rfl⟩ := int_val t4
      obtain ⟨xb, rfl⟩ := int_val t5
      obtain ⟨xc, rfl⟩ := int_val t6
      obtain ⟨xh, rfl⟩ := int_val t7
      refine ⟨⟨xk, xt, xt2, xn, xa, xb, xc, xh⟩, fun j v hv => ?_, ?_, ?_⟩
      · match j, hv with
        | 0, hv => rw [← Option.some.inj hv]; exact c0
        | 1, hv => rw [← Option.some.inj hv]; exact c1
        | 2, hv => rw [← Option.some.inj hv]; exact c2
        | 3, hv => rw [← Option.some.inj hv]; exact c3
        | 4, hv => rw [← Option.some.inj hv]; exact c4
        | 5, hv => rw [← Option.some.inj hv]; exact c5
        | 6, hv => rw [← Option.some.inj hv]; exact c6
        | 7, hv => rw [← Option.some.inj hv]; exact c7
      · have h1 := hw xt.length (by
          rw [hd1, weights_slice Tryd.underlying22]
          refine List.mem_cons_of_mem _ (List.mem_append_left _ (mem_all (d := D i) (List.mem_map.2 ⟨i, List.mem_range.2 (by omega), rfl⟩) ?_))
          rw [hD]
          refine mem_parts Tryd.underlying30 (j := 1) rfl e1 ?_
          rw [hy1]
          show xt.length ∈ [xt.length]
          exact List.mem_singleton.2 rfl)
        unfold reachBytes at h1
        show xt.length ≤ _
        omega
      · have h1 := hw xt2.length (by
          rw [hd1, weights_slice Tryd.underlying22]
          refine List.mem_cons_of_mem _ (List.mem_append_left _ (mem_all (d := D i) (List.mem_map.2 ⟨i, List.mem_range.2 (by omega), rfl⟩) ?_))
          rw [hD]
          refine mem_parts Tryd.underlying30 (j := 2) rfl e2 ?_
          rw [hy2]
          show xt2.length ∈ [xt2.length]
          exact List.mem_singleton.2 rfl)
        unfold reachBytes at h1
        show xt2.length ≤ _
        omega)
    have hv' : v = .slice (some a) L.length cap := by rw [hL]; exact hv
    refine ⟨some a, L, cap, hv', reads_of_cells (f := nodC) (m := 8) (fun _ => rfl) (by decide) rfl (fun i x hx => (hP i x hx).1), ?_, fun x hx => ?_⟩
    · have h1 := slice_sized Tryd.underlying22 h hw hv'
      rw [show Tryd.prog.bytesOf 30 = 80 by kernel_rfl] at h1
      unfold reachBytes at h1
      omega
    · obtain ⟨i, hi⟩ := List.getElem?_of_mem hx
      exact (hP i x hi).2
set_option maxRecDepth 100000 in
theorem open_tree {r : Reach} {b0 : Nat} {v : Value} {d : DataW H} {p : List MemPlace} (hval : Value.okWide Tryd.prog w r b0 25 v) (h : DataW.Trod enc Tryd.prog w 0 (fun _ => true) true 25 v d p)
    (hw : ∀ m ∈ d.weights Tryd.prog 25, m ≤ reachBytes) : ∃ A A' c c' t, v = treV A c A' c' t ∧ TreOk w A A' t := by
  obtain ⟨v0, v1, v2, y0, y1, y2, n, rfl, hd, _, t0, t1, t2⟩ := Joins.open_agg3 Tryd.underlying25 (by kernel_rfl) (by kernel_rfl) hval h
  have hw0 : ∀ m ∈ y0.1.weights Tryd.prog 22, m ≤ reachBytes := fun m hm => hw m (by
    rw [hd]
    exact mem_parts (ys := [y0, y1, y2]) Tryd.underlying25 (j := 0) rfl rfl hm)
  have hw1 : ∀ m ∈ y1.1.weights Tryd.prog 23, m ≤ reachBytes := fun m hm => hw m (by
    rw [hd]
    exact mem_parts (ys := [y0, y1, y2]) Tryd.underlying25 (j := 1) rfl rfl hm)
  obtain ⟨A, l, c, rfl, h1, h2, h3⟩ := open_nodes t0 hw0
  obtain ⟨A', y, c', rfl, h4, h5⟩ := open_ints t1 hw1
  obtain ⟨r, rfl⟩ := int_val t2
  exact ⟨A, A', c, c', ⟨l, y, r⟩, rfl, ⟨h1, h4⟩, h2, h5, h3⟩
end
section
variable {H : Type} {enc : TypeId × Value → H} {w : World} {base : Nat} {sp : Nat → Bool} {held : Bool}
theorem cells134 : Tryd.prog.cellsOf 134 = 34 := by kernel_rfl
theorem cells9 : Tryd.prog.cellsOf 9 = 1 := by kernel_rfl
theorem cells5 : Tryd.prog.cellsOf 5 = 1 := by kernel_rfl
theorem cells3 : Tryd.prog.cellsOf 3 = 1 := by kernel_rfl
theorem cells2 : Tryd.prog.cellsOf 2 = 1 := by kernel_rfl
theorem cells59 : Tryd.prog.cellsOf 59 = 8 := by kernel_rfl
theorem cells60 : Tryd.prog.cellsOf 60 = 352 := by kernel_rfl
theorem str_cell {fuel : Nat} {cs : List Value} {s : List UInt8} {p : List MemPlace} (h : DataW.trod enc Tryd.prog w base sp held fuel 9 cs = some (.lit (.string s), p)) : cs = [strV s] := by
  obtain ⟨b, hc, hx, _⟩ := DataW.trod_string Tryd.underlying9 h
  simp at hx
  obtain ⟨rfl, _⟩ := hx
  rw [hc]
theorem int_cell {k : IntKind} {t : TypeId} (ht : Tryd.prog.underlying t = some (.int k)) {fuel : Nat} {cs : List Value} {z : Int} {p : List MemPlace} (h : DataW.trod enc Tryd.prog w base sp held fuel t cs = some (.lit (.int k z), p)) : cs = [.int k z] := by
  obtain ⟨n, hc, hx, _⟩ := DataW.trod_int ht h
  simp at hx
  obtain ⟨rfl, _⟩ := hx
  exact hc
theorem ones_eq {α : Type} (f : α → Value) : ∀ (l : List α) (cs : List Value), cs.length = l.length → (∀ i r, l[i]? = some r → (cs.drop (i * 1)).take 1 = [f r]) → cs = l.map f := by
  intro l
  induction l with
  | nil => intro cs hl _; exact List.eq_nil_of_length_eq_zero hl
  | cons r l ih =>
    intro cs hl h
    cases cs with
    | nil => cases hl
    | cons c cs =>
      have h0 := h 0 r rfl
      simp at h0
      rw [h0, List.map_cons, ih cs (by simpa using hl) (fun i r' hr => by
        have := h (i + 1) r' (by simpa using hr)
        simpa using this)]
theorem words_cells {fuel : Nat} {cs : List Value} {p : List MemPlace} (h : DataW.trod enc Tryd.prog w base sp held fuel 134 cs = some (.agg (wordsL.map fun z => .lit (.string z)), p)) : cs = wordsL.map strV := by
  obtain ⟨xs, m, _, hx, hl, hxl, hg⟩ := DataW.trod_array Tryd.underlying134 h
  rw [cells134] at hl
  rw [cells9] at hg
  have hxs : xs.map (·.1) = wordsL.map fun z => .lit (.string z) := by
    have := congrArg Prod.fst hx
    simpa using this.symm
  refine ones_eq _ wordsL cs (hl.trans rfl) (fun i r hr => ?_)
  have hi : i < 34 := (List.getElem?_eq_some_iff.1 hr).1
  have hy := hg i hi
  obtain ⟨y, hyy⟩ : ∃ y, xs[i]? = some y := ⟨xs[i]'(by omega), List.getElem?_eq_getElem (by omega)⟩
  have h2 : (xs.map (·.1))[i]? = some y.1 := by simp [hyy]
  rw [hxs, List.getElem?_map, hr] at h2
  simp at h2
  rw [hyy] at hy
  obtain ⟨d, q⟩ := y
  simp at h2
  subst h2
  exact str_cell hy
def rowData (r : RowA) : DataW H := .agg [.lit (.int .u8 r.is_), .lit (.int .u8 r.a), .lit (.int .u8 r.b), .lit (.int .u8 r.c), .lit (.int .i64 r.text), .lit (.int .i64 r.second), .lit (.int .i64 r.lo), .lit (.int .i64 r.hi)]
theorem len8 {α : Type} {l : List α} (h : l.length = 8) : ∃ a b c d e f g i, l = [a, b, c, d, e, f, g, i] := by
  match l, h with
  | [a, b, c, d, e, f, g, i], _ => exact ⟨a, b, c, d, e, f, g, i, rfl⟩
theorem row_cells {fuel : Nat} {cs : List Value} {r : RowA} {p : List MemPlace} (h : DataW.trod enc Tryd.prog w base sp held fuel 59 cs = some (rowData r, p)) : cs = rowC r := by
  obtain ⟨xs, n, _, hx, hl, hxl, hf⟩ := DataW.trod_struct Tryd.underlying59 h
  rw [cells59] at hl
  obtain ⟨c0, c1, c2, c3, c4, c5, c6, c7, rfl⟩ := len8 hl
  obtain ⟨y0, y1, y2, y3, y4, y5, y6, y7, rfl⟩ := len8 hxl
  have f0 : DataW.trod enc Tryd.prog w base sp held n 5 ([c0, c1, c2, c3, c4, c5, c6, c7].take (Tryd.prog.cellsOf 5)) = some y0 := hf 0 _ rfl
  have f1 : DataW.trod enc Tryd.prog w base sp held n 5 ([c1, c2, c3, c4, c5, c6, c7].take (Tryd.prog.cellsOf 5)) = some y1 := hf 1 _ rfl
  have f2 : DataW.trod enc Tryd.prog w base sp held n 5 ([c2, c3, c4, c5, c6, c7].take (Tryd.prog.cellsOf 5)) = some y2 := hf 2 _ rfl
  have f3 : DataW.trod enc Tryd.prog w base sp held n 5 ([c3, c4, c5, c6, c7].take (Tryd.prog.cellsOf 5)) = some y3 := hf 3 _ rfl
  have f4 : DataW.trod enc Tryd.prog w base sp held n 3 ([c4, c5, c6, c7].take (Tryd.prog.cellsOf 3)) = some y4 := hf 4 _ rfl
  have f5 : DataW.trod enc Tryd.prog w base sp held n 3 ([c5, c6, c7].take (Tryd.prog.cellsOf 3)) = some y5 := hf 5 _ rfl
  have f6 : DataW.trod enc Tryd.prog w base sp held n 2 ([c6, c7].take (Tryd.prog.cellsOf 2)) = some y6 := hf 6 _ rfl
  have f7 : DataW.trod enc Tryd.prog w base sp held n 2 ([c7].take (Tryd.prog.cellsOf 2)) = some y7 := hf 7 _ rfl
  rw [cells5] at f0 f1 f2 f3
  rw [cells3] at f4 f5
  rw [cells2] at f6 f7
  obtain ⟨d0, p0⟩ := y0
  obtain ⟨d1, p1⟩ := y1
  obtain ⟨d2, p2⟩ := y2
  obtain ⟨d3, p3⟩ := y3
  obtain ⟨d4, p4⟩ := y4
  obtain ⟨d5, p5⟩ := y5
  obtain ⟨d6, p6⟩ := y6
  obtain ⟨d7, p7⟩ := y7
  unfold rowData at hx
  simp at hx
  obtain ⟨⟨rfl, rfl, rfl, rfl, rfl, rfl, rfl, rfl⟩, _⟩ := hx
  have g0 := int_cell Tryd.underlying5 f0
  have g1 := int_cell Tryd.underlying5 f1
  have g2 := int_cell Tryd.underlying5 f2
  have g3 := int_cell Tryd.underlying5 f3
  have g4 := int_cell Tryd.underlying3 f4
  have g5 := int_cell Tryd.underlying3 f5
  have g6 := int_cell Tryd.underlying2 f6
  have g7 := int_cell Tryd.underlying2 f7
  simp at g0 g1 g2 g3 g4 g5 g6 g7
  unfold rowC
  rw [g0, g1, g2, g3, g4, g5, g6, g7]
theorem rows_flat : ∀ (l : List RowA) (cs : List Value), cs.length = l.length * 8 → (∀ i r, l[i]? = some r → (cs.drop (i * 8)).take 8 = rowC r) → cs = l.flatMap rowC := by
  intro l
  induction l with
  | nil =>
    intro cs hl _
    simp at hl
    rw [hl]
    rfl
  | cons r l ih =>
    intro cs hl h
    have h0 := h 0 r rfl
    simp at h0
    rw [List.flatMap_cons, ← h0, ← ih (cs.drop 8) (by simp at hl ⊢; omega) (fun i r' hr => by
      have := h (i + 1) r' (by simpa using hr)
      rw [List.drop_drop, show 8 + i * 8 = (i + 1) * 8 from by omega]
      exact this)]
    exact (List.take_append_drop 8 cs).symm
theorem rows_cells {fuel : Nat} {cs : List Value} {p : List MemPlace} (h : DataW.trod enc Tryd.prog w base sp held fuel 60 cs = some (.agg (rowsL.map rowData), p)) : cs = rowsL.flatMap rowC := by
  obtain ⟨xs, m, _, hx, hl, hxl, hg⟩ := DataW.trod_array Tryd.underlying60 h
  rw [cells60] at hl
  rw [cells59] at hg
  have hxs : xs.map (·.1) = rowsL.map rowData := by
    have := congrArg Prod.fst hx
    simpa using this.symm
  refine rows_flat rowsL cs (hl.trans rfl) (fun i r hr => ?_)
  have hi : i < 44 := (List.getElem?_eq_some_iff.1 hr).1
  have hy := hg i hi
  obtain ⟨y, hyy⟩ : ∃ y, xs[i]? = some y := ⟨xs[i]'(by omega), List.getElem?_eq_getElem (by omega)⟩
  have h2 : (xs.map (·.1))[i]? = some y.1 := by simp [hyy]
  rw [hxs, List.getElem?_map, hr] at h2
  simp at h2
  rw [hyy] at hy
  obtain ⟨d, q⟩ := y
  simp at h2
  subst h2
  exact row_cells hy
end
theorem laid_words {H : Type} : (Rows.laid_stockpot_lex_words : DataW H) = .agg (wordsL.map fun z => .lit (.string z)) := rfl
theorem laid_rows {H : Type} : (Rows.laid_stockpot_ast_rows : DataW H) = .agg (rowsL.map rowData) := rfl
theorem laid_tail {W : World} {x : String × DataW Unit} {rest : List (String × DataW Unit)} (h : laidMet Tryd.prog (x :: rest) W) : laidMet Tryd.prog rest W := by
  obtain ⟨ps, ⟨g', t', cs, fuel, p, q, hg', ht', hvar, hd, hr, rfl⟩, hn, hps⟩ := h
  exact ⟨q, hr, (List.nodup_append.1 hn).2.1, fun b off hm => hps b off (List.mem_append_right _ hm)⟩
theorem gWords : Tryd.prog.globalNamed "stockpot/lex.words" = some 2 := by kernel_rfl
theorem gWordsType : (Tryd.prog.globals[2]?).map (·.type) = some 134 := by kernel_rfl
theorem words_of_laid {W : World} {rest : List (String × DataW Unit)} (h : laidMet Tryd.prog (("stockpot/lex.words", Rows.laid_stockpot_lex_words) :: rest) W) : WordsTab W := by
  obtain ⟨ps, ⟨g', t', cs, fuel, p, q, hg', ht', hvar, hd, _, rfl⟩, _, hps⟩ := h
  obtain rfl := Option.some.inj (gWords.symm.trans hg')
  obtain rfl := Option.some.inj (gWordsType.symm.trans ht')
  have hc := words_cells hd
  have hc' : cs = (wordsL.map strV).toArray := by rw [← hc]
  subst hc'
  unfold World.var? at hvar
  rw [gWords] at hvar
  simp only [Option.bind_some] at hvar
  split at hvar
  · rename_i cs' t' fr hh
    simp at hvar
    subst hvar
    obtain ⟨⟨c, t2, h2⟩, _⟩ := hps 2 0 (by
      simp [MemPlace.row]
      left
      decide)
    rw [hh] at h2
    simp at h2
    obtain ⟨_, rfl, rfl⟩ := h2
    exact ⟨(Array.getElem?_eq_some_iff.1 hh).1, _, hh⟩
  · cases hvar
theorem gRows : Tryd.prog.globalNamed "stockpot/ast.rows" = some 0 := by kernel_rfl
theorem gRowsType : (Tryd.prog.globals[0]?).map (·.type) = some 60 := by kernel_rfl
theorem rows_len : (rowsL.flatMap rowC).length = 352 := by kernel_rfl
theorem rows_of_laid {W : World} {rest : List (String × DataW Unit)} (h : laidMet Tryd.prog (("stockpot/ast.rows", Rows.laid_stockpot_ast_rows) :: rest) W) : AstTab W := by
  obtain ⟨ps, ⟨g', t', cs, fuel, p, q, hg', ht', hvar, hd, _, rfl⟩, _, hps⟩ := h
  obtain rfl := Option.some.inj (gRows.symm.trans hg')
  obtain rfl := Option.some.inj (gRowsType.symm.trans ht')
  have hc := rows_cells hd
  have hc' : cs = (rowsL.flatMap rowC).toArray := by rw [← hc]
  subst hc'
  unfold World.var? at hvar
  rw [gRows] at hvar
  simp only [Option.bind_some] at hvar
  split at hvar
  · rename_i cs' t' fr hh
    simp at hvar
    subst hvar
    obtain ⟨⟨c, t2, h2⟩, _⟩ := hps 0 0 (by
      simp [MemPlace.row]
      left
      first
        | (rw [← List.length_flatMap, rows_len]; decide)
        | (have h352 := rows_len; rw [List.length_flatMap] at h352; omega)
        | decide)
    rw [hh] at h2
    simp at h2
    obtain ⟨_, rfl, rfl⟩ := h2
    exact ⟨(Array.getElem?_eq_some_iff.1 hh).1, _, hh⟩
  · cases hvar
def opTs : List TypeId := (List.replicate 38 [9, 3, 3, 3, 3, 3, 3]).flatten
theorem opTs_eq : Tryd.prog.cellTypes Tryd.prog.depth 131 = some opTs := by kernel_rfl
theorem op_buildable : Tryd.prog.buildable 131 = true := by kernel_rfl
def opZero : Array Value := ((List.replicate 38 [Value.string ⟨#[]⟩, .int .i64 0, .int .i64 0, .int .i64 0, .int .i64 0, .int .i64 0, .int .i64 0]).flatten).toArray
theorem op_zero : (((begin Tryd.prog (fun _ _ => 0) default).world.heap[1]?).bind Obj.row?) = some (opZero, 131) := by kernel_rfl
theorem op_globals : 1 < Tryd.prog.globals.size := of_decide_eq_true (by kernel_rfl)
set_option maxRecDepth 1000000 in
theorem opTs_at : ∀ i, i < 38 → opTs[i * 7 % opTs.length]? = some 9 ∧ opTs[(i * 7 + 1) % opTs.length]? = some 3 ∧ opTs[(i * 7 + 2) % opTs.length]? = some 3 ∧ opTs[(i * 7 + 3) % opTs.length]? = some 3 ∧ opTs[(i * 7 + 4) % opTs.length]? = some 3 ∧ opTs[(i * 7 + 5) % opTs.length]? = some 3 ∧ opTs[(i * 7 + 6) % opTs.length]? = some 3 := by decide
set_option maxRecDepth 1000000 in
theorem cell_str {W : World} {v : Value} (h : Cell.ok Tryd.prog W .any 0 9 v) : ∃ s, v = .string s := by
  unfold Cell.ok at h
  rw [Tryd.underlying9] at h
  cases v <;> first | exact ⟨_, rfl⟩ | exact h.elim
set_option maxRecDepth 1000000 in
theorem cell_int {W : World} {v : Value} (h : Cell.ok Tryd.prog W .any 0 3 v) : ∃ z, v = .int .i64 z := by
  unfold Cell.ok at h
  rw [Tryd.underlying3] at h
  cases v <;> first | (obtain ⟨rfl, _⟩ := h; exact ⟨_, rfl⟩) | exact h.elim
set_option maxRecDepth 1000000 in
theorem opTab_of_shaped {W : World} (h : W.ShapedOpen Tryd.prog) : OpTab W := by
  obtain ⟨cs, hcs, hsz, hok⟩ := h.1 1 opZero 131 op_globals op_zero
  obtain ⟨ts, hts, _, hc⟩ := hok op_buildable
  obtain rfl := Option.some.inj (opTs_eq.symm.trans hts)
  have hs : cs.size = 266 := by rw [hsz]; rfl
  refine ⟨(Array.getElem?_eq_some_iff.1 hcs).1, fun i hi => ?_⟩
  have at_ : ∀ (j : Nat) (u : TypeId), j < 7 → opTs[(i * 7 + j) % opTs.length]? = some u → ∃ v, W.cell? ⟨1, i * 7 + j, none⟩ = some v ∧ Cell.ok Tryd.prog W .any 0 u v := fun j u hj hu => by
    have hlt : i * 7 + j < cs.size := by omega
    obtain ⟨u', hu', hcell⟩ := hc (i * 7 + j) cs[i * 7 + j] (Array.getElem?_eq_getElem hlt)
    obtain rfl := Option.some.inj (hu.symm.trans hu')
    exact ⟨_, by rw [cell_of_row W 1 _ cs 131 (0, 0) hcs, Array.getElem?_eq_getElem hlt], hcell⟩
  obtain ⟨t0, t1, t2, t3, t4, t5, t6⟩ := opTs_at i hi
  obtain ⟨v0, c0, k0⟩ := at_ 0 9 (by omega) t0
  obtain ⟨v1, c1, k1⟩ := at_ 1 3 (by omega) t1
  obtain ⟨v2, c2, k2⟩ := at_ 2 3 (by omega) t2
  obtain ⟨v3, c3, k3⟩ := at_ 3 3 (by omega) t3
  obtain ⟨v4, c4, k4⟩ := at_ 4 3 (by omega) t4
  obtain ⟨v5, c5, k5⟩ := at_ 5 3 (by omega) t5
  obtain ⟨v6, c6, k6⟩ := at_ 6 3 (by omega) t6
  obtain ⟨s, rfl⟩ := cell_str k0
  obtain ⟨z1, rfl⟩ := cell_int k1
  obtain ⟨z2, rfl⟩ := cell_int k2
  obtain ⟨z3, rfl⟩ := cell_int k3
  obtain ⟨z4, rfl⟩ := cell_int k4
  obtain ⟨z5, rfl⟩ := cell_int k5
  obtain ⟨z6, rfl⟩ := cell_int k6
  refine ⟨s, z1, z2, z3, z4, z5, z6, fun j v hv => ?_⟩
  rw [show ((⟨1, 0, none⟩ : Addr).add (i * 7)).add j = ⟨1, i * 7 + j, none⟩ by
    rw [Go.Deep.add_add]
    unfold Addr.add
    split
    · rename_i h0; rw [h0]
    · simp]
  match j, hv with
  | 0, hv => rw [← Option.some.inj hv]; exact c0
  | 1, hv => rw [← Option.some.inj hv]; exact c1
  | 2, hv => rw [← Option.some.inj hv]; exact c2
  | 3, hv => rw [← Option.some.inj hv]; exact c3
  | 4, hv => rw [← Option.some.inj hv]; exact c4
  | 5, hv => rw [← Option.some.inj hv]; exact c5
  | 6, hv => rw [← Option.some.inj hv]; exact c6
theorem tabs_of {W : World} (h : W.ShapedOpen Tryd.prog) (hL : laidMet Tryd.prog [("stockpot/lex.words", Rows.laid_stockpot_lex_words), ("stockpot/ast.rows", Rows.laid_stockpot_ast_rows)] W) : Tabs W :=
  ⟨rows_of_laid (laid_tail hL), words_of_laid hL, opTab_of_shaped h⟩
end Go.Proofs.YtphojigdapaaiaaDoor
