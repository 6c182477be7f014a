/- Maps keyed by pointers to whole blocks: look-up, store, length, as equations for the walk. -/
import Derived.Test.YtcilodgpbdafeaaDoorGen
import Derived.LaidEqlPtr
import Derived.Carry
import Derived.Maps.Own
namespace Go.Proofs.YtcilodgpbdafeaaDoor
set_option linter.unusedVariables false
set_option linter.unusedSimpArgs false
open Go.ChangeShapes Go.WideShapes Go.ChangeAt Go.RowKit
section
variable {P : Program} {w : World}
abbrev ptr (g : Nat) : Value := .pointer (some ⟨g, 0, none⟩)
theorem run_equal_p {tp te : TypeId} {j : TypeInfo} (hp : P.underlying tp = some (.pointer te)) (hte : P.info? te = some j) (hsz : j.size ≠ 0) {a b : Nat} {ta tb : TypeId} {ca cb : Array Value} (ha : Blk w a ta ca) (hb : Blk w b tb cb) :
    (Op.equal tp (ptr a) (ptr b)).run P w = .ok (a == b) w := by
  by_cases h : a = b
  · subst h
    have : ∀ d : Nat, (Op.equalIn (d + 1) tp (ptr a) (ptr a)).run P w = .ok true w := fun d => by
      simp [Op.equalIn, run_underlying hp, sizeOf, typeInfo, hte, hsz, run_sameAddr_same]
    rw [beq_self_eq_true]
    exact this 9999
  · have hne : (⟨a, 0, none⟩ : Addr) ≠ ⟨b, 0, none⟩ := fun e => h (by injection e)
    have : ∀ d : Nat, (Op.equalIn (d + 1) tp (ptr a) (ptr b)).run P w = .ok false w := fun d => by
      simp [Op.equalIn, run_underlying hp, sizeOf, typeInfo, hte, hsz, run_sameAddr_other w hne ha hb]
    rw [beq_false_of_ne h]
    exact this 9999
theorem run_eql_p {tp te : TypeId} {j : TypeInfo} (hp : P.underlying tp = some (.pointer te)) (hte : P.info? te = some j) (hsz : j.size ≠ 0) {a b : Nat} {ta tb : TypeId} {ca cb : Array Value} (ha : Blk w a ta ca) (hb : Blk w b tb cb) :
    (binOp .eql tp (ptr a) (ptr b)).run P w = .ok (.bool (a == b)) w := by
  simp only [binOp]
  simp [run_equal_p hp hte hsz ha hb]
theorem run_neq_p {tp te : TypeId} {j : TypeInfo} (hp : P.underlying tp = some (.pointer te)) (hte : P.info? te = some j) (hsz : j.size ≠ 0) {a b : Nat} {ta tb : TypeId} {ca cb : Array Value} (ha : Blk w a ta ca) (hb : Blk w b tb cb) :
    (binOp .neq tp (ptr a) (ptr b)).run P w = .ok (.bool (!(a == b))) w := by
  simp only [binOp]
  simp [run_equal_p hp hte hsz ha hb]
def findL : List (Nat × Value) → Nat → Nat → Option (Nat × Value)
  | [], _, _ => none
  | p :: l, g, i => if g = p.1 then some (i, p.2) else findL l g (i + 1)
def getL (l : List (Nat × Value)) (g : Nat) : Option Value := (findL l g 0).map (·.2)
theorem findL_shift (l : List (Nat × Value)) (g : Nat) : ∀ i, findL l g i = (findL l g 0).map fun p => (p.1 + i, p.2) := by
  induction l with
  | nil => intro i; rfl
  | cons p l ih =>
    intro i
    unfold findL
    split
    · simp
    · rw [ih (i + 1), ih (0 + 1)]
      cases findL l g 0 with
      | none => rfl
      | some q => simp; omega
theorem getL_cons (p : Nat × Value) (l : List (Nat × Value)) (g : Nat) : getL (p :: l) g = if g = p.1 then some p.2 else getL l g := by
  unfold getL
  rw [findL]
  split
  · rfl
  · rw [findL_shift]
    cases findL l g 0 <;> rfl
/-- The entries are those of a list. -/
def Ents (es : List MapEntry) (l : List (Nat × Value)) : Prop := es.map (fun e => (e.key, e.val)) = l.map fun p => (ptr p.1, p.2)
/-- Block b is a map keyed by pointers to blocks; it reads as D, with n entries. -/
def PMap (w : World) (b : Nat) (D : Nat → Option Value) (n : Nat) : Prop :=
  ∃ es clock l, w.heap[b]? = some (.map es clock) ∧ Ents es.toList l ∧ (∀ x, getL l x = D x) ∧ l.length = n ∧ ∀ p ∈ l, ∃ cs, Blk w p.1 69 cs
theorem PMap.lt {b n : Nat} {D : Nat → Option Value} (h : PMap w b D n) : b < w.heap.size := by
  obtain ⟨es, clock, l, hb, _⟩ := h
  rcases Nat.lt_or_ge b w.heap.size with h | h
  · exact h
  · rw [Array.getElem?_eq_none h] at hb; cases hb
theorem PMap.made (w : World) : PMap (w.alloc (.map #[] 0)) w.heap.size (fun _ => none) 0 := ⟨#[], 0, [], heap_alloc_new w _, rfl, fun _ => rfl, rfl, fun p hp => by cases hp⟩
theorem PMap.keep {w' : World} {b n : Nat} {D : Nat → Option Value} (h : PMap w b D n) (hb : w'.heap[b]? = w.heap[b]?) (hk : ∀ g cs, Blk w g 69 cs → ∃ cs', Blk w' g 69 cs') : PMap w' b D n := by
  obtain ⟨es, clock, l, h1, h2, h3, h4, h5⟩ := h
  exact ⟨es, clock, l, hb.trans h1, h2, h3, h4, fun p hp => by obtain ⟨cs, h⟩ := h5 p hp; exact hk _ _ h⟩
theorem PMap.next {w' : World} {b n : Nat} {D : Nat → Option Value} (h : PMap w b D n) (hb : Below w.heap.size w w') : PMap w' b D n :=
  h.keep (hb.block b h.lt) fun g cs hg => ⟨cs, hg.next hb⟩
theorem PMap.alloc {b n : Nat} {D : Nat → Option Value} (h : PMap w b D n) (o : Obj) : PMap (w.alloc o) b D n := h.keep (Below.heap_alloc w o b h.lt) fun g cs hg => ⟨cs, hg.alloc o⟩
theorem run_asking {tp te : TypeId} {j : TypeInfo} (hp : P.underlying tp = some (.pointer te)) (hte : P.info? te = some j) (hsz : j.size ≠ 0) {g : Nat} {tg : TypeId} {cg : Array Value} (hg : Blk w g tg cg) :
    ∀ (es : List MapEntry) (l : List (Nat × Value)) (i : Nat), Ents es l → (∀ p ∈ l, ∃ cs, Blk w p.1 69 cs) → (Instr.findAsking tp (ptr g) es i).run P w = .ok (findL l g i) w := by
  intro es
  induction es with
  | nil =>
    intro l i he _
    cases l with
    | nil => rfl
    | cons p l => cases he
  | cons e es ih =>
    intro l i he hl
    cases l with
    | nil => cases he
    | cons p l =>
      have he' : (e.key, e.val) = (ptr p.1, p.2) ∧ Ents es l := by
        unfold Ents at he ⊢
        rw [List.map_cons, List.map_cons] at he
        injection he with h1 h2
        exact ⟨h1, h2⟩
      obtain ⟨h1, h2⟩ := he'
      injection h1 with hk hv
      obtain ⟨cs, hb⟩ := hl p (List.mem_cons_self ..)
      unfold Instr.findAsking
      rw [hk]
      simp only [Sem.run_bind, run_equal_p hp hte hsz hg hb, Result.andThen_ok]
      unfold findL
      by_cases h : g = p.1
      · rw [if_pos h]; simp [h, hv]
      · rw [if_neg h]
        simp only [beq_false_of_ne h]
        exact ih l (i + 1) h2 fun q hq => hl q (List.mem_cons_of_mem _ hq)
theorem run_findKey {tp te : TypeId} {j : TypeInfo} (hp : P.underlying tp = some (.pointer te)) (hte : P.info? te = some j) (hsz : j.size ≠ 0) {g : Nat} {tg : TypeId} {cg : Array Value} (hg : Blk w g tg cg)
    (es : List MapEntry) (l : List (Nat × Value)) (he : Ents es l) (hl : ∀ p ∈ l, ∃ cs, Blk w p.1 69 cs) : (Instr.findKey tp (ptr g) es).run P w = .ok (findL l g 0) w := by
  unfold Instr.findKey
  simp only [Sem.run_bind, run_underlying hp, Result.andThen_ok]
  cases es with
  | nil =>
    cases l with
    | nil => rfl
    | cons p l => cases he
  | cons e es => exact run_asking hp hte hsz hg _ l 0 he hl
theorem run_checkP {tp te : TypeId} (hp : P.underlying tp = some (.pointer te)) (c : Bool) (g : Nat) : (Instr.checkKey c 10000 tp (ptr g)).run P w = .ok () w := by
  show (Instr.checkKey c (9999 + 1) tp (ptr g)).run P w = _
  unfold Instr.checkKey
  simp [run_underlying hp]
/-- 'v, ok := m[p]'. -/
theorem PMap.look {b n : Nat} {D : Nat → Option Value} (h : PMap w b D n) {T tp te E : TypeId} {j : TypeInfo} (hT : P.underlying T = some (.map tp E)) (hp : P.underlying tp = some (.pointer te)) (hte : P.info? te = some j) (hsz : j.size ≠ 0) {z : Value} (hz : (zeroValue E).run P w = .ok z w)
    {g : Nat} {tg : TypeId} {cg : Array Value} (hg : Blk w g tg cg) : (Instr.lookup T (.map (some b)) (ptr g) true).run P w = .ok (.tuple #[(D g).getD z, .bool (D g).isSome]) w := by
  obtain ⟨es, clock, l, h1, h2, h3, h4, h5⟩ := h
  have hf := run_findKey hp hte hsz hg es.toList l h2 h5
  have hc := run_checkP (w := w) hp es.isEmpty g
  have hd : (findL l g 0).map (·.2) = D g := h3 g
  unfold Instr.lookup
  simp only [Sem.run_bind, run_underlying hT, Result.andThen_ok, MapKept.run_getObj_map h1, Sem.run_pure, hc, hf]
  rw [← hd]
  cases findL l g 0 with
  | none => simp [hz]
  | some q => simp
/-- 'm[p]'. -/
theorem PMap.look1 {b n : Nat} {D : Nat → Option Value} (h : PMap w b D n) {T tp te E : TypeId} {j : TypeInfo} (hT : P.underlying T = some (.map tp E)) (hp : P.underlying tp = some (.pointer te)) (hte : P.info? te = some j) (hsz : j.size ≠ 0) {z : Value} (hz : (zeroValue E).run P w = .ok z w)
    {g : Nat} {tg : TypeId} {cg : Array Value} (hg : Blk w g tg cg) : (Instr.lookup T (.map (some b)) (ptr g) false).run P w = .ok ((D g).getD z) w := by
  obtain ⟨es, clock, l, h1, h2, h3, h4, h5⟩ := h
  have hf := run_findKey hp hte hsz hg es.toList l h2 h5
  have hc := run_checkP (w := w) hp es.isEmpty g
  have hd : (findL l g 0).map (·.2) = D g := h3 g
  unfold Instr.lookup
  simp only [Sem.run_bind, run_underlying hT, Result.andThen_ok, MapKept.run_getObj_map h1, Sem.run_pure, hc, hf]
  rw [← hd]
  cases findL l g 0 with
  | none => simp [hz]
  | some q => simp
theorem ents_len {es : List MapEntry} {l : List (Nat × Value)} (h : Ents es l) : es.length = l.length := by
  have := congrArg List.length h
  simpa using this
theorem PMap.len {b n : Nat} {D : Nat → Option Value} (h : PMap w b D n) {T ty : TypeId} (hT : P.underlying T = some (.map (P.mapKeyOf T) (P.mapElemOf T))) : (Builtin.len_ #[T] ty #[.map (some b)]).run P w = .ok (goInt n) w := by
  obtain ⟨es, clock, l, h1, h2, h3, h4, h5⟩ := h
  rw [run_len_map w T ty b es clock hT h1]
  have := ents_len h2
  rw [Array.length_toList] at this
  rw [this, h4]
def putL : List (Nat × Value) → Nat → Value → List (Nat × Value)
  | [], g, v => [(g, v)]
  | p :: l, g, v => if g = p.1 then (p.1, v) :: l else p :: putL l g v
theorem getL_put (l : List (Nat × Value)) (g : Nat) (v : Value) (x : Nat) : getL (putL l g v) x = if x = g then some v else getL l x := by
  induction l with
  | nil => unfold putL; rw [getL_cons]
  | cons p l ih =>
    unfold putL
    by_cases h : g = p.1
    · rw [if_pos h, getL_cons, getL_cons]
      by_cases hx : x = g
      · rw [if_pos hx, if_pos (hx.trans h)]
      · rw [if_neg hx, if_neg (fun e => hx (e.trans h.symm)), if_neg (fun e => hx (e.trans h.symm))]
    · rw [if_neg h, getL_cons, getL_cons, ih]
      by_cases hx : x = p.1
      · rw [if_pos hx, if_neg (fun e => h (e.symm.trans hx)), if_pos hx]
      · rw [if_neg hx, if_neg hx]
theorem putL_len (l : List (Nat × Value)) (g : Nat) (v : Value) : (putL l g v).length = if (getL l g).isSome then l.length else l.length + 1 := by
  induction l with
  | nil => rfl
  | cons p l ih =>
    unfold putL
    rw [getL_cons]
    by_cases h : g = p.1
    · rw [if_pos h, if_pos h]; rfl
    · rw [if_neg h, if_neg h, List.length_cons, ih]
      split <;> rfl
theorem putL_mem {l : List (Nat × Value)} {g : Nat} {v : Value} {p : Nat × Value} (h : p ∈ putL l g v) : p.1 = g ∨ ∃ q ∈ l, q.1 = p.1 := by
  induction l with
  | nil => rw [List.mem_singleton.1 h]; exact .inl rfl
  | cons q l ih =>
    unfold putL at h
    split at h
    · rcases List.mem_cons.1 h with rfl | h
      · exact .inr ⟨q, List.mem_cons_self .., rfl⟩
      · exact .inr ⟨p, List.mem_cons_of_mem _ h, rfl⟩
    · rcases List.mem_cons.1 h with rfl | h
      · exact .inr ⟨p, List.mem_cons_self .., rfl⟩
      · rcases ih h with h | ⟨q', hq, e⟩
        · exact .inl h
        · exact .inr ⟨q', List.mem_cons_of_mem _ hq, e⟩
theorem ents_put_new {es : List MapEntry} {l : List (Nat × Value)} {g : Nat} {v : Value} (h : Ents es l) (hn : findL l g 0 = none) (c : Nat) : Ents (es ++ [{ key := ptr g, val := v, born := c }]) (putL l g v) := by
  induction l generalizing es with
  | nil =>
    cases es with
    | nil => rfl
    | cons e es => cases h
  | cons p l ih =>
    cases es with
    | nil => cases h
    | cons e es =>
      unfold Ents at h
      rw [List.map_cons, List.map_cons] at h
      injection h with h1 h2
      unfold findL at hn
      split at hn
      · cases hn
      · rename_i hg
        rw [findL_shift] at hn
        have hn' : findL l g 0 = none := by cases hx : findL l g 0 with | none => rfl | some q => rw [hx] at hn; cases hn
        unfold putL
        rw [if_neg hg]
        have := ih h2 hn'
        unfold Ents at this ⊢
        rw [List.cons_append, List.map_cons, List.map_cons, h1, this]
theorem ents_put_old {es : List MapEntry} {l : List (Nat × Value)} {g : Nat} {v : Value} (h : Ents es l) : ∀ {i : Nat} {u : Value}, findL l g 0 = some (i, u) → Ents (es.modify i fun e => { e with key := ptr g, val := v }) (putL l g v) ∧ (es[i]?).map (·.key) = some (ptr g) := by
  induction l generalizing es with
  | nil => intro i u hf; cases hf
  | cons p l ih =>
    intro i u hf
    cases es with
    | nil => cases h
    | cons e es =>
      unfold Ents at h
      rw [List.map_cons, List.map_cons] at h
      injection h with h1 h2
      unfold findL at hf
      by_cases hg : g = p.1
      · rw [if_pos hg] at hf
        injection hf with hf
        injection hf with hi hu
        subst hi
        unfold putL
        rw [if_pos hg]
        injection h1 with hk hv
        refine ⟨?_, by simp [hk, hg]⟩
        unfold Ents
        rw [List.modify_zero_cons, List.map_cons, List.map_cons, h2, hg]
      · rw [if_neg hg, findL_shift] at hf
        cases hx : findL l g 0 with
        | none => rw [hx] at hf; cases hf
        | some q =>
          rw [hx] at hf
          injection hf with hf
          injection hf with hi hu
          subst hi
          obtain ⟨h3, h4⟩ := ih (es := es) h2 (i := q.1) (u := q.2) hx
          unfold putL
          rw [if_neg hg]
          refine ⟨?_, by rw [show q.1 + (0 + 1) = q.1 + 1 by omega, List.getElem?_cons_succ]; exact h4⟩
          unfold Ents at h3 ⊢
          rw [show q.1 + (0 + 1) = q.1 + 1 by omega, List.modify_succ_cons, List.map_cons, List.map_cons, h1, h3]
/-- 'm[p] = v'. -/
theorem PMap.store {b n : Nat} {D : Nat → Option Value} (h : PMap w b D n) {T tp te E : TypeId} {j : TypeInfo} (hT : P.underlying T = some (.map tp E)) (hp : P.underlying tp = some (.pointer te)) (hte : P.info? te = some j) (hsz : j.size ≠ 0)
    {g : Nat} {cg : Array Value} (hg : Blk w g 69 cg) (v : Value) : ∃ w', (Instr.mapUpdate T (.map (some b)) (ptr g) v).run P w = .ok () w' ∧ PMap w' b (fun x => if x = g then some v else D x) (if (D g).isSome then n else n + 1) ∧ w.grownBy w' (some b) := by
  have hlt := h.lt
  obtain ⟨es, clock, l, h1, h2, h3, h4, h5⟩ := h
  have hf := run_findKey hp hte hsz hg es.toList l h2 h5
  have hc := run_checkP (w := w) hp false g
  have hset : ∀ o : Obj, w.grownBy { w with heap := w.heap.setIfInBounds b o } (some b) := fun o => ⟨rfl, rfl, rfl, by simp, fun k hk hne => by
    show (w.heap.setIfInBounds b o)[k]? = _
    rw [Array.getElem?_setIfInBounds_ne (fun e => hne (by rw [e]))]⟩
  have hkeep : ∀ (es' : Array MapEntry) (c : Nat) (p : Nat), (∃ cs, Blk w p 69 cs) → ∃ cs, Blk { w with heap := w.heap.setIfInBounds b (.map es' c) } p 69 cs := by
    rintro es' c p ⟨cs, hb⟩
    refine ⟨cs, ?_⟩
    have hne : b ≠ p := by
      rintro rfl
      unfold Blk at hb
      rw [h1] at hb
      cases hb
    show (w.heap.setIfInBounds b _)[p]? = _
    rw [Array.getElem?_setIfInBounds_ne hne]
    exact hb
  have hnew : ∀ (es' : Array MapEntry) (c : Nat), ({ w with heap := w.heap.setIfInBounds b (.map es' c) } : World).heap[b]? = some (.map es' c) := fun es' c => by
    show (w.heap.setIfInBounds b _)[b]? = _
    rw [Array.getElem?_setIfInBounds_self_of_lt hlt]
  have hlen : (putL l g v).length = if (D g).isSome then n else n + 1 := by rw [putL_len, h3, h4]
  have hD : ∀ x, getL (putL l g v) x = if x = g then some v else D x := fun x => by rw [getL_put, h3]
  have hall : ∀ (es' : Array MapEntry) (c : Nat), ∀ p ∈ putL l g v, ∃ cs, Blk { w with heap := w.heap.setIfInBounds b (.map es' c) } p.1 69 cs := fun es' c p hp => by
    refine hkeep es' c _ ?_
    rcases putL_mem hp with e | ⟨q, hq, e⟩
    · rw [e]; exact ⟨_, hg⟩
    · rw [← e]; exact h5 q hq
  cases hx : findL l g 0 with
  | none =>
    refine ⟨_, ?_, ⟨es.push { key := ptr g, val := v, born := clock }, clock + 1, putL l g v, hnew _ _, by rw [Array.toList_push]; exact ents_put_new h2 hx clock, hD, hlen, hall _ _⟩, hset _⟩
    unfold Instr.mapUpdate
    simp only [Sem.run_bind, run_underlying hT, Result.andThen_ok, MapKept.run_getObj_map h1, hc, hf, hx]
    exact MapKept.run_setObj_map _ h1
  | some q =>
    obtain ⟨h6, h7⟩ := ents_put_old (v := v) h2 hx
    refine ⟨_, ?_, ⟨es.modify q.1 fun e => { e with key := ptr g, val := v }, clock, putL l g v, hnew _ _, by rw [Array.toList_modify]; exact h6, hD, hlen, hall _ _⟩, hset _⟩
    unfold Instr.mapUpdate
    have hk : ((es[q.1]?).map (·.key)).getD (ptr g) = ptr g := by
      rw [← Array.getElem?_toList, h7]; rfl
    simp only [Sem.run_bind, run_underlying hT, Result.andThen_ok, MapKept.run_getObj_map h1, hc, hf, hx, hk]
    have hs : (Instr.keyThatStays (ptr g) (ptr g)).run P w = .ok (ptr g) w := by
      have : Instr.sameBits 10000 (ptr g) (ptr g) = true := by simp [Instr.sameBits]
      unfold Instr.keyThatStays
      rw [if_pos this]
      rfl
    simp only [hs, Result.andThen_ok]
    exact MapKept.run_setObj_map _ h1
end
end Go.Proofs.YtcilodgpbdafeaaDoor
