/- Maps keyed by ints, whatever they hold: look-up, store, length, as equations for the walk. -/
import Derived.Test.YtcilodgpbdafeaaDoorPMap
namespace Go.Proofs.YtcilodgpbdafeaaDoor
set_option linter.unusedVariables false
set_option linter.unusedSimpArgs false
open Go.ChangeShapes Go.WideShapes Go.ChangeAt Go.RowKit
section
variable {P : Program} {w : World}
abbrev iK (i : Int) : Value := .int .i64 i
def findI : List (Int × Value) → Int → Nat → Option (Nat × Value)
  | [], _, _ => none
  | p :: l, g, i => if g = p.1 then some (i, p.2) else findI l g (i + 1)
def getI (l : List (Int × Value)) (g : Int) : Option Value := (findI l g 0).map (·.2)
theorem findI_shift (l : List (Int × Value)) (g : Int) : ∀ i, findI l g i = (findI l g 0).map fun p => (p.1 + i, p.2) := by
  induction l with
  | nil => intro i; rfl
  | cons p l ih =>
    intro i
    unfold findI
    split
    · simp
    · rw [ih (i + 1), ih (0 + 1)]
      cases findI l g 0 with
      | none => rfl
      | some q => simp; omega
theorem getI_cons (p : Int × Value) (l : List (Int × Value)) (g : Int) : getI (p :: l) g = if g = p.1 then some p.2 else getI l g := by
  unfold getI
  rw [findI]
  split
  · rfl
  · rw [findI_shift]
    cases findI l g 0 <;> rfl
/-- The entries are those of a list. -/
def EntI (es : List MapEntry) (l : List (Int × Value)) : Prop := es.map (fun e => (e.key, e.val)) = l.map fun p => (iK p.1, p.2)
/-- Block b is a map keyed by ints; it reads as D, with n entries. -/
def IMap (w : World) (b : Nat) (D : Int → Option Value) (n : Nat) : Prop :=
  ∃ es clock l, w.heap[b]? = some (.map es clock) ∧ EntI es.toList l ∧ (∀ x, getI l x = D x) ∧ l.length = n
theorem IMap.lt {b n : Nat} {D : Int → Option Value} (h : IMap w b D n) : b < w.heap.size := by
  obtain ⟨es, clock, l, hb, _⟩ := h
  rcases Nat.lt_or_ge b w.heap.size with h | h
  · exact h
  · rw [Array.getElem?_eq_none h] at hb; cases hb
theorem IMap.made (w : World) : IMap (w.alloc (.map #[] 0)) w.heap.size (fun _ => none) 0 := ⟨#[], 0, [], heap_alloc_new w _, rfl, fun _ => rfl, rfl⟩
theorem IMap.keep {w' : World} {b n : Nat} {D : Int → Option Value} (h : IMap w b D n) (hb : w'.heap[b]? = w.heap[b]?) : IMap w' b D n := by
  obtain ⟨es, clock, l, h1, h2, h3, h4⟩ := h
  exact ⟨es, clock, l, hb.trans h1, h2, h3, h4⟩
theorem IMap.next {w' : World} {b n : Nat} {D : Int → Option Value} (h : IMap w b D n) (hb : Below w.heap.size w w') : IMap w' b D n :=
  h.keep (hb.block b h.lt)
theorem IMap.alloc {b n : Nat} {D : Int → Option Value} (h : IMap w b D n) (o : Obj) : IMap (w.alloc o) b D n := h.keep (Below.heap_alloc w o b h.lt)
theorem IMap.ne {b n g : Nat} {D : Int → Option Value} {t : TypeId} {cs : Array Value} (h : IMap w b D n) (hg : Blk w g t cs) : g ≠ b := by
  rintro rfl
  obtain ⟨es, clock, l, h1, _⟩ := h
  unfold Blk at hg
  rw [h1] at hg
  cases hg
theorem IMap.cell_ne {b n : Nat} {D : Int → Option Value} {p : Addr} {u : Value} (h : IMap w b D n) (hp : w.cell? p = some u) : p.block ≠ b := by
  intro e
  obtain ⟨es, clock, l, h1, _⟩ := h
  unfold World.cell? at hp
  rw [e, h1] at hp
  cases hp
theorem findNow_ints {g : Int} : ∀ (es : List MapEntry) (l : List (Int × Value)) (i : Nat), EntI es l → Instr.findNow (.int .i64) (iK g) es i = some (findI l g i) := by
  intro es
  induction es with
  | nil =>
    intro l i he
    cases l with
    | nil => rfl
    | cons p l => cases he
  | cons e es ih =>
    intro l i he
    cases l with
    | nil => cases he
    | cons p l =>
      have he' : (e.key, e.val) = (iK p.1, p.2) ∧ EntI es l := by
        unfold EntI at he ⊢
        rw [List.map_cons, List.map_cons] at he
        injection he with h1 h2
        exact ⟨h1, h2⟩
      obtain ⟨h1, h2⟩ := he'
      injection h1 with hk hv
      unfold Instr.findNow
      rw [hk]
      unfold findI
      by_cases h : g = p.1
      · rw [if_pos h]; simp [Instr.sameNow, h, hv]
      · rw [if_neg h]
        have : (g == p.1) = false := beq_false_of_ne h
        simp only [Instr.sameNow, this]
        exact ih l (i + 1) h2
theorem run_findInt {kt : TypeId} (hp : P.underlying kt = some (.int .i64)) {g : Int} (es : List MapEntry) (l : List (Int × Value)) (he : EntI es l) : (Instr.findKey kt (iK g) es).run P w = .ok (findI l g 0) w :=
  MapKept.run_findKey hp (findNow_ints es l 0 he)
theorem run_checkInt {kt : TypeId} (hp : P.underlying kt = some (.int .i64)) (c : Bool) (g : Int) : (Instr.checkKey c 10000 kt (iK g)).run P w = .ok () w := by
  show (Instr.checkKey c (9999 + 1) kt (iK g)).run P w = _
  unfold Instr.checkKey
  simp [run_underlying hp]
/-- 'v, ok := m[i]'. -/
theorem IMap.look {b n : Nat} {D : Int → Option Value} (h : IMap w b D n) {T kt E : TypeId} (hT : P.underlying T = some (.map kt E)) (hp : P.underlying kt = some (.int .i64)) {z : Value} (hz : (zeroValue E).run P w = .ok z w)
    (g : Int) : (Instr.lookup T (.map (some b)) (iK g) true).run P w = .ok (.tuple #[(D g).getD z, .bool (D g).isSome]) w := by
  obtain ⟨es, clock, l, h1, h2, h3, h4⟩ := h
  have hf := run_findInt (w := w) hp (g := g) es.toList l h2
  have hc := run_checkInt (w := w) hp es.isEmpty g
  have hd : (findI l g 0).map (·.2) = D g := h3 g
  unfold Instr.lookup
  simp only [Sem.run_bind, run_underlying hT, Result.andThen_ok, MapKept.run_getObj_map h1, Sem.run_pure, hc, hf]
  rw [← hd]
  cases findI l g 0 with
  | none => simp [hz]
  | some q => simp
theorem entI_len {es : List MapEntry} {l : List (Int × Value)} (h : EntI es l) : es.length = l.length := by
  have := congrArg List.length h
  simpa using this
theorem IMap.len {b n : Nat} {D : Int → Option Value} (h : IMap w b D n) {T ty : TypeId} (hT : P.underlying T = some (.map (P.mapKeyOf T) (P.mapElemOf T))) : (Builtin.len_ #[T] ty #[.map (some b)]).run P w = .ok (goInt n) w := by
  obtain ⟨es, clock, l, h1, h2, h3, h4⟩ := h
  rw [run_len_map w T ty b es clock hT h1]
  have := entI_len h2
  rw [Array.length_toList] at this
  rw [this, h4]
def putI : List (Int × Value) → Int → Value → List (Int × Value)
  | [], g, v => [(g, v)]
  | p :: l, g, v => if g = p.1 then (p.1, v) :: l else p :: putI l g v
theorem getI_put (l : List (Int × Value)) (g : Int) (v : Value) (x : Int) : getI (putI l g v) x = if x = g then some v else getI l x := by
  induction l with
  | nil => unfold putI; rw [getI_cons]
  | cons p l ih =>
    unfold putI
    by_cases h : g = p.1
    · rw [if_pos h, getI_cons, getI_cons]
      by_cases hx : x = g
      · rw [if_pos hx, if_pos (hx.trans h)]
      · rw [if_neg hx, if_neg (fun e => hx (e.trans h.symm)), if_neg (fun e => hx (e.trans h.symm))]
    · rw [if_neg h, getI_cons, getI_cons, ih]
      by_cases hx : x = p.1
      · rw [if_pos hx, if_neg (fun e => h (e.symm.trans hx)), if_pos hx]
      · rw [if_neg hx, if_neg hx]
theorem putI_len (l : List (Int × Value)) (g : Int) (v : Value) : (putI l g v).length = if (getI l g).isSome then l.length else l.length + 1 := by
  induction l with
  | nil => rfl
  | cons p l ih =>
    unfold putI
    rw [getI_cons]
    by_cases h : g = p.1
    · rw [if_pos h, if_pos h]; rfl
    · rw [if_neg h, if_neg h, List.length_cons, ih]
      split <;> rfl
theorem entI_put_new {es : List MapEntry} {l : List (Int × Value)} {g : Int} {v : Value} (h : EntI es l) (hn : findI l g 0 = none) (c : Nat) : EntI (es ++ [{ key := iK g, val := v, born := c }]) (putI l g v) := by
  induction l generalizing es with
  | nil =>
    cases es with
    | nil => rfl
    | cons e es => cases h
  | cons p l ih =>
    cases es with
    | nil => cases h
    | cons e es =>
      unfold EntI at h
      rw [List.map_cons, List.map_cons] at h
      injection h with h1 h2
      unfold findI at hn
      split at hn
      · cases hn
      · rename_i hg
        rw [findI_shift] at hn
        have hn' : findI l g 0 = none := by cases hx : findI l g 0 with | none => rfl | some q => rw [hx] at hn; cases hn
        unfold putI
        rw [if_neg hg]
        have := ih h2 hn'
        unfold EntI at this ⊢
        rw [List.cons_append, List.map_cons, List.map_cons, h1, this]
theorem entI_put_old {es : List MapEntry} {l : List (Int × Value)} {g : Int} {v : Value} (h : EntI es l) : ∀ {i : Nat} {u : Value}, findI l g 0 = some (i, u) → EntI (es.modify i fun e => { e with key := iK g, val := v }) (putI l g v) ∧ (es[i]?).map (·.key) = some (iK g) := by
  induction l generalizing es with
  | nil => intro i u hf; cases hf
  | cons p l ih =>
    intro i u hf
    cases es with
    | nil => cases h
    | cons e es =>
      unfold EntI at h
      rw [List.map_cons, List.map_cons] at h
      injection h with h1 h2
      unfold findI at hf
      by_cases hg : g = p.1
      · rw [if_pos hg] at hf
        injection hf with hf
        injection hf with hi hu
        subst hi
        unfold putI
        rw [if_pos hg]
        injection h1 with hk hv
        refine ⟨?_, by simp [hk, hg]⟩
        unfold EntI
        rw [List.modify_zero_cons, List.map_cons, List.map_cons, h2, hg]
      · rw [if_neg hg, findI_shift] at hf
        cases hx : findI l g 0 with
        | none => rw [hx] at hf; cases hf
        | some q =>
          rw [hx] at hf
          injection hf with hf
          injection hf with hi hu
          subst hi
          obtain ⟨h3, h4⟩ := ih (es := es) h2 (i := q.1) (u := q.2) hx
          unfold putI
          rw [if_neg hg]
          refine ⟨?_, by rw [show q.1 + (0 + 1) = q.1 + 1 by omega, List.getElem?_cons_succ]; exact h4⟩
          unfold EntI at h3 ⊢
          rw [show q.1 + (0 + 1) = q.1 + 1 by omega, List.modify_succ_cons, List.map_cons, List.map_cons, h1, h3]
/-- 'm[i] = v'. -/
theorem IMap.store {b n : Nat} {D : Int → Option Value} (h : IMap w b D n) {T kt E : TypeId} (hT : P.underlying T = some (.map kt E)) (hp : P.underlying kt = some (.int .i64))
    (g : Int) (v : Value) : ∃ w', (Instr.mapUpdate T (.map (some b)) (iK g) v).run P w = .ok () w' ∧ IMap w' b (fun x => if x = g then some v else D x) (if (D g).isSome then n else n + 1) ∧ w.grownBy w' (some b) := by
  have hlt := h.lt
  obtain ⟨es, clock, l, h1, h2, h3, h4⟩ := h
  have hf := run_findInt (w := w) hp (g := g) es.toList l h2
  have hc := run_checkInt (w := w) hp false g
  have hset : ∀ o : Obj, w.grownBy { w with heap := w.heap.setIfInBounds b o } (some b) := fun o => ⟨rfl, rfl, rfl, by simp, fun k hk hne => by
    show (w.heap.setIfInBounds b o)[k]? = _
    rw [Array.getElem?_setIfInBounds_ne (fun e => hne (by rw [e]))]⟩
  have hnew : ∀ (es' : Array MapEntry) (c : Nat), ({ w with heap := w.heap.setIfInBounds b (.map es' c) } : World).heap[b]? = some (.map es' c) := fun es' c => by
    show (w.heap.setIfInBounds b _)[b]? = _
    rw [Array.getElem?_setIfInBounds_self_of_lt hlt]
  have hlen : (putI l g v).length = if (D g).isSome then n else n + 1 := by rw [putI_len, h3, h4]
  have hD : ∀ x, getI (putI l g v) x = if x = g then some v else D x := fun x => by rw [getI_put, h3]
  cases hx : findI l g 0 with
  | none =>
    refine ⟨_, ?_, ⟨es.push { key := iK g, val := v, born := clock }, clock + 1, putI l g v, hnew _ _, by rw [Array.toList_push]; exact entI_put_new h2 hx clock, hD, hlen⟩, hset _⟩
    unfold Instr.mapUpdate
    simp only [Sem.run_bind, run_underlying hT, Result.andThen_ok, MapKept.run_getObj_map h1, hc, hf, hx]
    exact MapKept.run_setObj_map _ h1
  | some q =>
    obtain ⟨h6, h7⟩ := entI_put_old (v := v) h2 hx
    refine ⟨_, ?_, ⟨es.modify q.1 fun e => { e with key := iK g, val := v }, clock, putI l g v, hnew _ _, by rw [Array.toList_modify]; exact h6, hD, hlen⟩, hset _⟩
    unfold Instr.mapUpdate
    have hk : ((es[q.1]?).map (·.key)).getD (iK g) = iK g := by
      rw [← Array.getElem?_toList, h7]; rfl
    simp only [Sem.run_bind, run_underlying hT, Result.andThen_ok, MapKept.run_getObj_map h1, hc, hf, hx, hk]
    have hs : (Instr.keyThatStays (iK g) (iK g)).run P w = .ok (iK g) w := by
      have : Instr.sameBits 10000 (iK g) (iK g) = true := by simp [Instr.sameBits]
      unfold Instr.keyThatStays
      rw [if_pos this]
      rfl
    simp only [hs, Result.andThen_ok]
    exact MapKept.run_setObj_map _ h1
end
theorem look66 {W : World} {b n : Nat} {D : Int → Option Value} (h : IMap W b D n) (g : Int) : (Instr.lookup 66 (.map (some b)) (iK g) true).run Tryd.prog W = .ok (.tuple #[(D g).getD (.pointer none), .bool (D g).isSome]) W :=
  h.look Tryd.underlying66 Tryd.underlying3 (by kernel_rfl) g
theorem store66 {W : World} {b n : Nat} {D : Int → Option Value} (h : IMap W b D n) (g : Int) (v : Value) : ∃ w', (Instr.mapUpdate 66 (.map (some b)) (iK g) v).run Tryd.prog W = .ok () w' ∧ IMap w' b (fun x => if x = g then some v else D x) (if (D g).isSome then n else n + 1) ∧ W.grownBy w' (some b) :=
  h.store Tryd.underlying66 Tryd.underlying3 g v
theorem look47 {W : World} {b n : Nat} {D : Int → Option Value} (h : IMap W b D n) (g : Int) : (Instr.lookup 47 (.map (some b)) (iK g) true).run Tryd.prog W = .ok (.tuple #[(D g).getD (.int .i64 0), .bool (D g).isSome]) W :=
  h.look Tryd.underlying47 Tryd.underlying3 (by kernel_rfl) g
theorem store47 {W : World} {b n : Nat} {D : Int → Option Value} (h : IMap W b D n) (g : Int) (v : Value) : ∃ w', (Instr.mapUpdate 47 (.map (some b)) (iK g) v).run Tryd.prog W = .ok () w' ∧ IMap w' b (fun x => if x = g then some v else D x) (if (D g).isSome then n else n + 1) ∧ W.grownBy w' (some b) :=
  h.store Tryd.underlying47 Tryd.underlying3 g v
end Go.Proofs.YtcilodgpbdafeaaDoor
