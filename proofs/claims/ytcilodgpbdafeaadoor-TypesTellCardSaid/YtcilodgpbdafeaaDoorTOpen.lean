/- An argument that is a type, opened, with what the reach says of its texts; the table of words off the row's list. -/
import Derived.Test.YtcilodgpbdafeaaDoorTLawM
import Derived.Deep.Slices
import Derived.Deep.Fields
import Derived.Deep.Strs
import Derived.ChangeSame
import Derived.ChangeSlices
import Derived.Lib.SmallJoins
import Derived.SizedLaws
import Derived.Test.YtcilodgpbdafeaaDoorRows
namespace Go.Proofs.YtcilodgpbdafeaaDoor
open Go.ChangeShapes Go.WideShapes Go.ChangeAt Go.RowKit Go.Deep
set_option linter.unusedVariables false
/-! A slice of structs of any number of one-cell fields (the guide's words to copy). -/
section
variable {H : Type} {enc : TypeId × Value → H} {P : Program} {w : World} {base : Nat} {spare : Nat → Bool} {held : Bool}
theorem open_slice_fields {t e : TypeId} {fs : Array Field} {fuel : Nat} {cs : List Value} {x : DataW H × List MemPlace} (ht : P.underlying t = some (.slice e)) (he : P.underlying e = some (.struct fs))
    (hone : oneCellFields P fs = true) (hC : P.cellsOf e = fs.size) (h : DataW.trod enc P w base spare held fuel t cs = some x) :
    (cs = [.slice none 0 0] ∧ x = (.nil, [])) ∨
    ∃ (a : Addr) (len cap m : Nat) (D : Nat → DataW H) (Pl : Nat → List MemPlace), cs = [.slice (some a) len cap] ∧ base ≤ a.block ∧ len ≤ cap ∧ cap ≤ maxLen ∧ m = (if spare a.block then cap else len) ∧
      x = (.slice ((List.range len).map D) ((List.range (m - len)).map fun j => D (len + j)), MemPlace.row a (m * fs.size) ++ (List.range m).flatMap Pl) ∧
      ∀ i, i < m → ∃ (ys : List (DataW H × List MemPlace)) (n : Nat), D i = .agg (ys.map (·.1)) ∧ Pl i = ys.flatMap (·.2) ∧ ys.length = fs.size ∧
        ∀ (j : Nat) (f : Field), fs[j]? = some f → ∃ (v : Value) (y : DataW H × List MemPlace), w.cell? (a.add (i * fs.size + j)) = some v ∧ ys[j]? = some y ∧ DataW.trod enc P w base spare held n f.type [v] = some y := by
  rcases open_slice ht h with h0 | ⟨a, len, cap, m, n, D, Pl, hcs, hb, hl, hm, hmm, hx, hi⟩
  · exact .inl h0
  · refine .inr ⟨a, len, cap, m, D, Pl, hcs, hb, hl, hm, hmm, by rw [hC] at hx; exact hx, fun i him => ?_⟩
    obtain ⟨cs', hc, ht'⟩ := hi i him
    rw [hC] at hc
    obtain ⟨ys, n', hn', hy, hlen, hyl, hf⟩ := DataW.trod_struct he ht'
    obtain ⟨_, hcl, hat⟩ := World.cells?_some hc
    simp only [Prod.mk.injEq] at hy
    refine ⟨ys, n', hy.1, hy.2, hyl, fun j f hj => ?_⟩
    obtain ⟨ho, hk⟩ := hone_of hone j f hj
    have hjl : j < fs.size := (Array.getElem?_eq_some_iff.1 hj).1
    have hcell := hat j hjl
    have hv : cs'[j]? = some (cs'[j]'(by omega)) := List.getElem?_eq_getElem (by omega)
    have h1 := hf j f hj
    rw [ho, hk] at h1
    have hone' : (cs'.drop j).take 1 = [cs'[j]'(by omega)] := by
      rw [List.drop_eq_getElem_cons (by omega)]
      rfl
    rw [hone'] at h1
    have hys : ys[j]? = some (ys[j]'(by omega)) := List.getElem?_eq_getElem (by omega)
    refine ⟨_, _, ?_, hys, h1.trans hys⟩
    rw [← Go.Deep.add_add, hcell, hv]
end

section
variable {H : Type} {enc : TypeId × Value → H} {w : World}
theorem weights_slice {P : Program} {t e : TypeId} {a b : List (DataW H)} (ht : P.underlying t = some (.slice e)) : DataW.weights P t (.slice a b) = (a.length + b.length) * P.bytesOf e :: (DataW.weightsAll P e a ++ DataW.weightsAll P e b) := by
  rw [DataW.weights, ht]
theorem mem_all {P : Program} {e : TypeId} {n : Nat} : ∀ {l : List (DataW H)} {d : DataW H}, d ∈ l → n ∈ d.weights P e → n ∈ DataW.weightsAll P e l
  | d0 :: l, d, hd, hn => by
    rw [DataW.weightsAll, List.mem_append]
    rcases List.mem_cons.1 hd with rfl | hd
    · exact .inl hn
    · exact .inr (mem_all hd hn)
theorem mem_parts {P : Program} {t : TypeId} {fs : Array Field} (hs : P.underlying t = some (.struct fs)) {ys : List (DataW H × List MemPlace)} {j : Nat} {f : Field} {y : DataW H × List MemPlace} (hf : fs[j]? = some f) (hy : ys[j]? = some y)
    {m : Nat} (hm : m ∈ y.1.weights P f.type) : m ∈ DataW.weights P t (.agg (ys.map (·.1))) := by
  rw [DataW.weights, hs]
  refine DataW.weights_mem_each (j := j) (t := f.type) (d := y.1) ?_ ?_ m hm
  · rw [List.getElem?_map, Array.getElem?_toList, hf]; rfl
  · rw [List.getElem?_map, hy]; rfl
theorem int_val {n : Nat} {v : Value} {y : DataW H × List MemPlace} (h : DataW.trod enc Tryd.prog w 0 (fun _ => true) true n 3 [v] = some y) : ∃ z : Int, v = .int .i64 z := by
  obtain ⟨z, hz, _⟩ := DataW.trod_int Tryd.underlying3 h
  injection hz with hz _
  exact ⟨z, hz⟩
theorem str_val {n : Nat} {v : Value} {y : DataW H × List MemPlace} (h : DataW.trod enc Tryd.prog w 0 (fun _ => true) true n 9 [v] = some y) : ∃ s : List UInt8, v = strV s ∧ y.1 = .lit (.string s) := by
  obtain ⟨b, hc, hx, _⟩ := DataW.trod_string Tryd.underlying9 h
  injection hc with hc _
  exact ⟨b.data.toList, by rw [hc], by rw [hx]⟩
set_option maxRecDepth 100000 in
/-- A TYPE THAT COMES IN. -/
theorem open_type {r : Reach} {b0 : Nat} {v : Value} {d : DataW H} {p : List MemPlace} (hval : Value.okWide Tryd.prog w r b0 23 v) (h : DataW.Trod enc Tryd.prog w 0 (fun _ => true) true 23 v d p)
    (hw : ∀ m ∈ d.weights Tryd.prog 23, m ≤ reachBytes) : ∃ A l c, v = .slice A l.length c ∧ Handed w A l := by
  obtain ⟨a1, len1, cap1, rfl⟩ := okWide_slice Tryd.underlying23 hval
  obtain ⟨fuel, hf⟩ := h
  have hcs : (Value.slice a1 len1 cap1).cells.toList = [.slice a1 len1 cap1] := rfl
  rw [hcs] at hf
  rcases open_slice_fields Tryd.underlying23 Tryd.underlying29 (by kernel_rfl) (by kernel_rfl) hf with ⟨hv, _⟩ | ⟨a, len, cap, m, D, Pl, hv, hb, hl, hm, hmm, hd, hx⟩
  · injection hv with hv _
    exact ⟨none, [], 0, hv, Reads.none_, fun p hp => (List.not_mem_nil hp).elim, Nat.zero_le _⟩
  · injection hv with hv _
    simp at hmm
    have hd1 : d = .slice ((List.range len).map D) ((List.range (m - len)).map fun j => D (len + j)) := by injection hd
    obtain ⟨L, hL, hP⟩ := exists_list (P := fun i (x : Part) => (∀ j v, (partC x)[j]? = some v → w.cell? (a.add (i * 5 + j)) = some v) ∧ x.t.length ≤ 281474976710656) len (fun i hi => by
      obtain ⟨ys, k, hD, _, hyl, hf⟩ := hx i (by omega)
      obtain ⟨v0, y0, c0, _, t0⟩ := hf 0 _ rfl
      obtain ⟨v1, y1, c1, _, t1⟩ := hf 1 _ rfl
      obtain ⟨v2, y2, c2, _, t2⟩ := hf 2 _ rfl
      obtain ⟨v3, y3, c3, _, t3⟩ := hf 3 _ rfl
      obtain ⟨v4, y4, c4, e4, t4⟩ := hf 4 _ rfl
      obtain ⟨xk, rfl⟩ := int_val t0
      obtain ⟨xa, rfl⟩ := int_val t1
      obtain ⟨xb, rfl⟩ := int_val t2
      obtain ⟨xn, rfl⟩ := int_val t3
      obtain ⟨xt, rfl, hy⟩ := str_val t4
      refine ⟨⟨xk, xa, xb, xn, xt⟩, fun j v hv => ?_, ?_⟩
      · match j, hv with
        | 0, hv => rw [← Option.some.inj hv]; exact c0
        | 1, hv => rw [← Option.some.inj hv]; exact c1
        | 2, hv => rw [← Option.some.inj hv]; exact c2
        | 3, hv => rw [← Option.some.inj hv]; exact c3
        | 4, hv => rw [← Option.some.inj hv]; exact c4
      · have h1 := hw xt.length (by
          rw [hd1, weights_slice Tryd.underlying23]
          refine List.mem_cons_of_mem _ (List.mem_append_left _ (mem_all (d := D i) (List.mem_map.2 ⟨i, List.mem_range.2 (by omega), rfl⟩) ?_))
          rw [hD]
          refine mem_parts Tryd.underlying29 (j := 4) rfl e4 ?_
          rw [hy]
          show xt.length ∈ [xt.length]
          exact List.mem_singleton.2 rfl)
        unfold reachBytes at h1
        show xt.length ≤ _
        omega)
    refine ⟨some a, L, cap, by rw [hL]; exact hv, reads_of_cells (f := partC) (m := 5) (fun _ => rfl) (by decide) rfl (fun i x hx => (hP i x hx).1), fun x hx => ?_, ?_⟩
    · obtain ⟨i, hi⟩ := List.getElem?_of_mem hx
      exact (hP i x hi).2
    · have h1 := hw _ (by rw [hd1, weights_slice Tryd.underlying23]; exact List.mem_cons_self ..)
      simp only [List.length_map, List.length_range] at h1
      rw [show Tryd.prog.bytesOf 29 = 48 by kernel_rfl] at h1
      unfold reachBytes at h1
      omega
end
/-! ### The words -/
section
variable {H : Type} {enc : TypeId × Value → H} {w : World} {base : Nat} {sp : Nat → Bool} {held : Bool}
theorem cells45 : Tryd.prog.cellsOf 45 = 6 := by kernel_rfl
theorem cells9 : Tryd.prog.cellsOf 9 = 1 := by kernel_rfl
theorem str_cell {fuel : Nat} {cs : List Value} {s : List UInt8} {p : List MemPlace} (h : DataW.trod enc Tryd.prog w base sp held fuel 9 cs = some (.lit (.string s), p)) : cs = [strV s] := by
  obtain ⟨b, hc, hx, _⟩ := DataW.trod_string Tryd.underlying9 h
  simp at hx
  obtain ⟨rfl, _⟩ := hx
  rw [hc]
theorem ones_eq {α : Type} (f : α → Value) : ∀ (l : List α) (cs : List Value), cs.length = l.length → (∀ i r, l[i]? = some r → (cs.drop (i * 1)).take 1 = [f r]) → cs = l.map f := by
  intro l
  induction l with
  | nil => intro cs hl _; exact List.eq_nil_of_length_eq_zero hl
  | cons r l ih =>
    intro cs hl h
    cases cs with
    | nil => cases hl
    | cons c cs =>
      have h0 := h 0 r rfl
      simp at h0
      rw [h0, List.map_cons, ih cs (by simpa using hl) (fun i r' hr => by
        have := h (i + 1) r' (by simpa using hr)
        simpa using this)]
theorem words_cells {fuel : Nat} {cs : List Value} {p : List MemPlace} (h : DataW.trod enc Tryd.prog w base sp held fuel 45 cs = some (.agg (wordsL.map fun z => .lit (.string z)), p)) : cs = wordsL.map strV := by
  obtain ⟨xs, m, _, hx, hl, hxl, hg⟩ := DataW.trod_array Tryd.underlying45 h
  rw [cells45] at hl
  rw [cells9] at hg
  have hxs : xs.map (·.1) = wordsL.map fun z => .lit (.string z) := by
    have := congrArg Prod.fst hx
    simpa using this.symm
  refine ones_eq _ wordsL cs (hl.trans rfl) (fun i r hr => ?_)
  have hi : i < 6 := (List.getElem?_eq_some_iff.1 hr).1
  have hy := hg i hi
  obtain ⟨y, hyy⟩ : ∃ y, xs[i]? = some y := ⟨xs[i]'(by omega), List.getElem?_eq_getElem (by omega)⟩
  have h2 : (xs.map (·.1))[i]? = some y.1 := by simp [hyy]
  rw [hxs, List.getElem?_map, hr] at h2
  simp at h2
  rw [hyy] at hy
  obtain ⟨d, q⟩ := y
  simp at h2
  subst h2
  exact str_cell hy
end
theorem laid_words {H : Type} : (Rows.laid_stockpot_types_words : DataW H) = .agg (wordsL.map fun z => .lit (.string z)) := rfl
theorem laid_tail {W : World} {x : String × DataW Unit} {rest : List (String × DataW Unit)} (h : laidMet Tryd.prog (x :: rest) W) : laidMet Tryd.prog rest W := by
  obtain ⟨ps, ⟨g', t', cs, fuel, p, q, hg', ht', hvar, hd, hr, rfl⟩, hn, hps⟩ := h
  exact ⟨q, hr, (List.nodup_append.1 hn).2.1, fun b off hm => hps b off (List.mem_append_right _ hm)⟩
theorem gWords : Tryd.prog.globalNamed "stockpot/types.words" = some 0 := by kernel_rfl
theorem gWordsType : (Tryd.prog.globals[0]?).map (·.type) = some 45 := by kernel_rfl
theorem words_of_laid {W : World} {rest : List (String × DataW Unit)} (h : laidMet Tryd.prog (("stockpot/types.words", Rows.laid_stockpot_types_words) :: rest) W) : WordTab W := by
  obtain ⟨ps, ⟨g', t', cs, fuel, p, q, hg', ht', hvar, hd, _, rfl⟩, _, hps⟩ := h
  obtain rfl := Option.some.inj (gWords.symm.trans hg')
  obtain rfl := Option.some.inj (gWordsType.symm.trans ht')
  have hc := words_cells hd
  have hc' : cs = (wordsL.map strV).toArray := by rw [← hc]
  subst hc'
  unfold World.var? at hvar
  rw [gWords] at hvar
  simp only [Option.bind_some] at hvar
  split at hvar
  · rename_i cs' t' fr hh
    simp at hvar
    subst hvar
    obtain ⟨⟨c, t2, h2⟩, _⟩ := hps 0 0 (by
      simp [MemPlace.row]
      left
      decide)
    rw [hh] at h2
    simp at h2
    obtain ⟨_, rfl, rfl⟩ := h2
    exact ⟨(Array.getElem?_eq_some_iff.1 hh).1, _, hh⟩
  · cases hvar
theorem wordTab_of_laid {W : World} {x y z : String × DataW Unit} {rest : List (String × DataW Unit)} (h : laidMet Tryd.prog (x :: y :: z :: ("stockpot/types.words", Rows.laid_stockpot_types_words) :: rest) W) : WordTab W :=
  words_of_laid (laid_tail (laid_tail (laid_tail h)))
end Go.Proofs.YtcilodgpbdafeaaDoor
