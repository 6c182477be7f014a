/- The document's Match, in plain: pairs that are to be made alike, and what the variables are. -/
import Derived.Test.YtcilodgpbdafeaaDoorZE
import Derived.Test.YtcilodgpbdafeaaDoorTLawO
import Derived.Test.YtcilodgpbdafeaaDoorZB
import Derived.Test.YtcilodgpbdafeaaDoorZC
import Derived.Test.YtcilodgpbdafeaaDoorTMatch
namespace Go.Proofs.YtcilodgpbdafeaaDoor
open Go.ChangeShapes Go.WideShapes Go.ChangeAt Go.RowKit
set_option linter.unusedVariables false
set_option linter.unusedSimpArgs false
structure QP where
  i : Nat
  j : Nat
  S : Ty
  T : Ty
structure BP where
  n : Int
  w : Nat
  U : Ty
def qC (q : QP) : List Value := [.int .i64 (q.i : Int), .int .i64 (q.j : Int)]
def bN (x : BP) : Value := .int .i64 x.n
def bW (x : BP) : Value := .int .i64 (x.w : Int)
def QOk (a b : List Part) (q : QP) : Prop := q.S.wf ∧ q.T.wf ∧ At a q.S q.i ∧ At b q.T q.j
def BOk (b : List Part) (x : BP) : Prop := x.U.wf ∧ At b x.U x.w
def Sat (B : List BP) (Q : List QP) : Prop := ∃ τ : Int → Ty, (∀ x ∈ B, τ x.n = x.U) ∧ ∀ q ∈ Q, sub τ q.S = q.T
def tot : List QP → Nat
  | [] => 0
  | q :: Q => q.S.size + tot Q
theorem tot_append (Q Q' : List QP) : tot (Q ++ Q') = tot Q + tot Q' := by
  induction Q with
  | nil => simp [tot]
  | cons q Q ih => simp only [List.cons_append, tot, ih]; omega
theorem tot_one (q : QP) : tot [q] = q.S.size := by simp [tot]
theorem tot_len (Q : List QP) : Q.length ≤ tot Q := by
  induction Q with
  | nil => simp
  | cons q Q ih => have := q.S.size_pos; simp only [List.length_cons, tot]; omega
structure MatI (a b : List Part) (B : List BP) (Q : List QP) : Prop where
  inst : Inst a b ↔ Sat B Q
  qok : ∀ q ∈ Q, QOk a b q
  bok : ∀ x ∈ B, BOk b x
  fn : ∀ x ∈ B, ∀ y ∈ B, x.n = y.n → x.U = y.U
  few : B.length + tot Q ≤ 200
section
variable {a b : List Part} {B : List BP} {Q : List QP} {q : QP}
theorem MatI.start (ha : gTy a = true) (hb : gTy b = true) : ∃ S T : Ty, MatI a b [] [⟨a.length - 1, b.length - 1, S, T⟩] ∧ S.size = a.length ∧ 0 < b.length := by
  obtain ⟨S, wS, eS, zS⟩ := (gTy_iff a).1 ha
  obtain ⟨T, wT, eT, zT⟩ := (gTy_iff b).1 hb
  have la : a.length = S.size := by rw [eS, enc_len]
  have lb : b.length = T.size := by rw [eT, enc_len]
  have atS : At a S (a.length - 1) := by rw [la, eS]; exact at_of_enc S
  have atT : At b T (b.length - 1) := by rw [lb, eT]; exact at_of_enc T
  refine ⟨S, T, ⟨?_, ?_, fun x hx => (by cases hx), fun x hx => (by cases hx), ?_⟩, la.symm, by have := T.size_pos; omega⟩
  · constructor
    · rintro ⟨S', T', wS', wT', _, _, e1, e2, τ, h⟩
      obtain rfl := enc_inj wS wS' (eS.symm.trans e1)
      obtain rfl := enc_inj wT wT' (eT.symm.trans e2)
      exact ⟨τ, fun x hx => (by cases hx), fun q hq => by rw [List.mem_singleton.1 hq]; exact h⟩
    · rintro ⟨τ, _, h⟩
      exact ⟨S, T, wS, wT, zS, zT, eS, eT, τ, h _ (List.mem_singleton.2 rfl)⟩
  · intro q hq
    rw [List.mem_singleton.1 hq]
    exact ⟨wS, wT, atS, atT⟩
  · show 0 + (S.size + 0) ≤ 200
    omega
theorem MatI.done (h : MatI a b B []) : Inst a b := by
  classical
  refine h.inst.2 ⟨fun n => if hn : ∃ x ∈ B, x.n = n then (Classical.choose hn).U else .var n, fun x hx => ?_, fun q hq => (by cases hq)⟩
  have hn : ∃ y ∈ B, y.n = x.n := ⟨x, hx, rfl⟩
  show (if hn : ∃ y ∈ B, y.n = x.n then (Classical.choose hn).U else .var x.n) = x.U
  rw [dif_pos hn]
  obtain ⟨h1, h2⟩ := Classical.choose_spec hn
  exact h.fn _ h1 _ hx h2
theorem MatI.last (h : MatI a b B (Q ++ [q])) : QOk a b q := h.qok q (by simp)
theorem MatI.rest (h : MatI a b B (Q ++ [q])) : ∀ r ∈ Q, QOk a b r := fun r hr => h.qok r (by simp [hr])
theorem Sat.split : Sat B (Q ++ [q]) ↔ ∃ τ : Int → Ty, (∀ x ∈ B, τ x.n = x.U) ∧ (∀ r ∈ Q, sub τ r.S = r.T) ∧ sub τ q.S = q.T := by
  constructor
  · rintro ⟨τ, h1, h2⟩
    exact ⟨τ, h1, fun r hr => h2 r (by simp [hr]), h2 q (by simp)⟩
  · rintro ⟨τ, h1, h2, h3⟩
    refine ⟨τ, h1, fun r hr => ?_⟩
    rcases List.mem_append.1 hr with hr | hr
    · exact h2 r hr
    · rw [List.mem_singleton.1 hr]; exact h3
theorem MatI.bind (h : MatI a b B (Q ++ [q])) {n : Int} (hn : q.S = .var n) (hc : ∀ x ∈ B, x.n = n → x.U = q.T) : MatI a b (B ++ [⟨n, q.j, q.T⟩]) Q := by
  obtain ⟨w1, w2, a1, a2⟩ := h.last
  refine ⟨h.inst.trans (Sat.split.trans ?_), h.rest, fun x hx => ?_, fun x hx y hy e => ?_, ?_⟩
  · constructor
    · rintro ⟨τ, h1, h2, h3⟩
      refine ⟨τ, fun x hx => ?_, h2⟩
      rcases List.mem_append.1 hx with hx | hx
      · exact h1 x hx
      · rw [List.mem_singleton.1 hx]; rw [hn] at h3; exact h3
    · rintro ⟨τ, h1, h2⟩
      exact ⟨τ, fun x hx => h1 x (by simp [hx]), h2, by rw [hn]; exact h1 ⟨n, q.j, q.T⟩ (by simp)⟩
  · rcases List.mem_append.1 hx with hx | hx
    · exact h.bok x hx
    · rw [List.mem_singleton.1 hx]; exact ⟨w2, a2⟩
  · rcases List.mem_append.1 hx with hx | hx <;> rcases List.mem_append.1 hy with hy | hy
    · exact h.fn x hx y hy e
    · rw [List.mem_singleton.1 hy] at e ⊢; exact hc x hx e
    · rw [List.mem_singleton.1 hx] at e ⊢; exact (hc y hy e.symm).symm
    · rw [List.mem_singleton.1 hx, List.mem_singleton.1 hy]
  · have h1 := h.few
    have h2 := q.S.size_pos
    rw [tot_append, tot_one] at h1
    rw [List.length_append, List.length_singleton]
    omega
theorem MatI.clash (h : MatI a b B (Q ++ [q])) {n : Int} (hn : q.S = .var n) {x : BP} (hx : x ∈ B) (hxn : x.n = n) (hu : x.U ≠ q.T) : ¬ Inst a b := fun hi => by
  obtain ⟨τ, h1, _, h3⟩ := Sat.split.1 (h.inst.1 hi)
  rw [hn] at h3
  exact hu ((h1 x hx).symm.trans ((congrArg τ hxn).trans h3))
theorem MatI.head (h : MatI a b B (Q ++ [q])) (hn : ∀ n, q.S ≠ .var n) (hh : q.S.kind ≠ q.T.kind ∨ q.S.text ≠ q.T.text) : ¬ Inst a b := fun hi => by
  obtain ⟨τ, _, _, h3⟩ := Sat.split.1 (h.inst.1 hi)
  obtain ⟨k1, k2⟩ := sub_kind τ hn
  rw [h3] at k1 k2
  rcases hh with hh | hh
  · exact hh k1.symm
  · exact hh k2.symm
theorem MatI.leaf (h : MatI a b B (Q ++ [q])) {k : Int} {t : List UInt8} (hS : q.S = .leaf k t) (hT : q.T = .leaf k t) : MatI a b B Q := by
  refine ⟨h.inst.trans (Sat.split.trans ?_), h.rest, h.bok, h.fn, ?_⟩
  · constructor
    · rintro ⟨τ, h1, h2, h3⟩; exact ⟨τ, h1, h2⟩
    · rintro ⟨τ, h1, h2⟩; exact ⟨τ, h1, h2, by rw [hS, hT]; rfl⟩
  · have h1 := h.few
    rw [tot_append] at h1
    omega
theorem MatI.one (h : MatI a b B (Q ++ [q])) {k : Int} {s s' : Ty} (hS : q.S = .one k s) (hT : q.T = .one k s') : ∃ j1 j2 : Nat, a[q.i]? = some ⟨k, (j1 : Int), 0, 0, []⟩ ∧ b[q.j]? = some ⟨k, (j2 : Int), 0, 0, []⟩ ∧ MatI a b B (Q ++ [⟨j1, j2, s, s'⟩]) := by
  obtain ⟨w1, w2, a1, a2⟩ := h.last
  rw [hS] at w1 a1
  rw [hT] at w2 a2
  obtain ⟨j1, e1, l1, s1⟩ := a1
  obtain ⟨j2, e2, l2, s2⟩ := a2
  refine ⟨j1, j2, l1, l2, h.inst.trans (Sat.split.trans (Iff.trans ?_ Sat.split.symm)), fun r hr => ?_, h.bok, h.fn, ?_⟩
  · constructor
    · rintro ⟨τ, h1, h2, h3⟩
      rw [hS, hT] at h3
      injection h3 with _ h3
      exact ⟨τ, h1, h2, h3⟩
    · rintro ⟨τ, h1, h2, h3⟩
      refine ⟨τ, h1, h2, ?_⟩
      rw [hS, hT]
      exact congrArg (Ty.one k) h3
  · rcases List.mem_append.1 hr with hr | hr
    · exact h.rest r hr
    · rw [List.mem_singleton.1 hr]; exact ⟨w1.2, w2.2, s1, s2⟩
  · have h1 := h.few
    rw [tot_append, tot_one, hS] at h1
    rw [tot_append, tot_one]
    simp only [Ty.size] at h1 ⊢
    omega
theorem MatI.two (h : MatI a b B (Q ++ [q])) {k : Int} {s u s' u' : Ty} (hS : q.S = .two k s u) (hT : q.T = .two k s' u') : ∃ j1 g1 j2 g2 : Nat, a[q.i]? = some ⟨k, (j1 : Int), (g1 : Int), 0, []⟩ ∧ b[q.j]? = some ⟨k, (j2 : Int), (g2 : Int), 0, []⟩ ∧ MatI a b B (Q ++ [⟨j1, j2, s, s'⟩] ++ [⟨g1, g2, u, u'⟩]) := by
  obtain ⟨w1, w2, a1, a2⟩ := h.last
  rw [hS] at w1 a1
  rw [hT] at w2 a2
  obtain ⟨g1, j1, e1, l1, s1, u1, _⟩ := a1
  obtain ⟨g2, j2, e2, l2, s2, u2, _⟩ := a2
  refine ⟨j1, g1, j2, g2, l1, l2, h.inst.trans (Sat.split.trans (Iff.trans ?_ Sat.split.symm)), fun r hr => ?_, h.bok, h.fn, ?_⟩
  · constructor
    · rintro ⟨τ, h1, h2, h3⟩
      rw [hS, hT] at h3
      injection h3 with _ h3 h4
      refine ⟨τ, h1, fun r hr => ?_, h4⟩
      rcases List.mem_append.1 hr with hr | hr
      · exact h2 r hr
      · rw [List.mem_singleton.1 hr]; exact h3
    · rintro ⟨τ, h1, h2, h4⟩
      refine ⟨τ, h1, fun r hr => h2 r (by simp [hr]), ?_⟩
      have h3 := h2 ⟨j1, j2, s, s'⟩ (by simp)
      rw [hS, hT]
      show Ty.two k (sub τ s) (sub τ u) = _
      rw [show sub τ s = s' from h3, show sub τ u = u' from h4]
  · rcases List.mem_append.1 hr with hr | hr
    · rcases List.mem_append.1 hr with hr | hr
      · exact h.rest r hr
      · rw [List.mem_singleton.1 hr]; exact ⟨w1.2.1, w2.2.1, s1, s2⟩
    · rw [List.mem_singleton.1 hr]; exact ⟨w1.2.2, w2.2.2, u1, u2⟩
  · have h1 := h.few
    rw [tot_append, tot_one, hS] at h1
    rw [tot_append, tot_append, tot_one, tot_one]
    simp only [Ty.size] at h1 ⊢
    omega
/-- The part that the last one of a number tells. -/
def lastAt : List BP → Int → Int
  | [], _ => -1
  | x :: B, n => if lastAt B n = -1 then (if x.n = n then (x.w : Int) else -1) else lastAt B n
theorem lastAt_ge (B : List BP) (n : Int) : -1 ≤ lastAt B n := by
  induction B with
  | nil => exact Int.le_refl _
  | cons x B ih =>
    unfold lastAt
    split
    · split <;> omega
    · exact ih
theorem lastAt_push (B : List BP) (x : BP) (n : Int) : lastAt (B ++ [x]) n = if x.n = n then (x.w : Int) else lastAt B n := by
  induction B with
  | nil =>
    show (if lastAt [] n = -1 then (if x.n = n then (x.w : Int) else -1) else lastAt [] n) = _
    rw [if_pos (show lastAt [] n = -1 from rfl)]
    rfl
  | cons y B ih =>
    show (if lastAt (B ++ [x]) n = -1 then (if y.n = n then (y.w : Int) else -1) else lastAt (B ++ [x]) n) = _
    rw [ih]
    by_cases hx : x.n = n
    · rw [if_pos hx, if_neg (by omega), if_pos hx]
    · rw [if_neg hx, if_neg hx]
      rfl
theorem lastAt_cases (B : List BP) (n : Int) : (lastAt B n = -1 ∧ ∀ x ∈ B, x.n ≠ n) ∨ ∃ x ∈ B, x.n = n ∧ lastAt B n = (x.w : Int) := by
  induction B with
  | nil => exact .inl ⟨rfl, fun x hx => (by cases hx)⟩
  | cons x B ih =>
    rcases ih with ⟨h1, h2⟩ | ⟨y, hy, hn, he⟩
    · by_cases hx : x.n = n
      · refine .inr ⟨x, by simp, hx, ?_⟩
        show (if lastAt B n = -1 then _ else _) = _
        rw [if_pos h1, if_pos hx]
      · refine .inl ⟨?_, fun y hy => ?_⟩
        · show (if lastAt B n = -1 then _ else _) = _
          rw [if_pos h1, if_neg hx]
        · rcases List.mem_cons.1 hy with rfl | hy
          · exact hx
          · exact h2 y hy
    · refine .inr ⟨y, List.mem_cons_of_mem _ hy, hn, ?_⟩
      show (if lastAt B n = -1 then _ else _) = _
      rw [if_neg (by omega), he]
end
/-- The rows of the call's own. -/
structure MatW (W : World) (base : Nat) (v5 v6 v7 : Value) (B : List BP) (Q : List QP) : Prop where
  o5 : W.ownsRow base 3 1 v5 B.length (B.map bN)
  o6 : W.ownsRow base 3 1 v6 B.length (B.map bW)
  o7 : W.ownsRow base 63 2 v7 Q.length (Q.flatMap qC)
  ne : v5.ownBlock = none ∨ v5.ownBlock ≠ v6.ownBlock
section
variable {W W' : World} {base : Nat} {v5 v6 v7 : Value} {B : List BP} {Q : List QP} {q : QP}
theorem MatW.next (h : MatW W base v5 v6 v7 B Q) (hb : Below W.heap.size W W') : MatW W' base v5 v6 v7 B Q := ⟨own_next h.o5 hb, own_next h.o6 hb, own_next h.o7 hb, h.ne⟩
theorem own_less {w : World} {e : TypeId} {size n m : Nat} {A : Option Addr} {c : Nat} {xs ys : List Value} (h : w.ownsRow base e size (.slice A n c) n (xs ++ ys)) (hl : xs.length = m * size) (hm : m ≤ n) (hA : A ≠ none) : w.ownsRow base e size (.slice A m c) m xs := by
  refine ⟨hl, ?_⟩
  rcases h.2 with ⟨e1, _⟩ | ⟨g, cap, cur, e1, hb, hg, h1, h2, h3, h4⟩
  · injection e1 with e1
    exact absurd e1 hA
  · injection e1 with e1 e2 e3
    subst e1 e3
    refine .inr ⟨g, c, cur, rfl, hb, hg, by omega, h2, h3, ?_⟩
    have : cur.toList.take (m * size) = (cur.toList.take (n * size)).take (m * size) := by
      rw [List.take_take, Nat.min_eq_left (Nat.mul_le_mul_right _ hm)]
    rw [this, h4, ← hl, List.take_left']
    rfl
theorem MatW.len_ {A : Option Addr} {c n : Nat} (h : MatW W base v5 v6 (.slice A n c) B (Q ++ [q])) : n = Q.length + 1 := by
  rcases h.o7.2 with ⟨e1, e2⟩ | ⟨g, cap, cur, e1, _⟩
  · simp at e2
  · injection e1 with _ e1
    rw [e1]; simp
theorem MatW.pop {A : Option Addr} {c n : Nat} (h : MatW W base v5 v6 (.slice A n c) B (Q ++ [q])) (hA : A ≠ none) : MatW W base v5 v6 (.slice A Q.length c) B Q := by
  have h7 := h.o7
  have hn := h.len_
  subst hn
  rw [List.flatMap_append, show (Q ++ [q]).length = Q.length + 1 by simp] at h7
  exact ⟨h.o5, h.o6, own_less h7 (by simp [List.length_flatMap, qC]; rw [List.map_const']; simp) (by omega) hA, h.ne⟩
theorem MatW.some_ {A : Option Addr} {c n : Nat} (h : MatW W base v5 v6 (.slice A n c) B (Q ++ [q])) : ∃ ad, A = some ad ∧ ∀ j v, (qC q)[j]? = some v → W.cell? ((ad.add (Q.length * 2)).add j) = some v := by
  have h7 := h.o7
  have hn := h.len_
  subst hn
  rw [show (Q ++ [q]).length = Q.length + 1 by simp] at h7
  obtain ⟨ad, e, _, hc⟩ := Reads.rowAt (f := qC) (m := 2) (fun _ => rfl) (Reads.of_own h7) (by decide) (show (Q ++ [q])[Q.length]? = some q by simp)
  exact ⟨ad, e, hc⟩
end
end Go.Proofs.YtcilodgpbdafeaaDoor
namespace Go.Proofs.YtcilodgpbdafeaaDoor
open Go.ChangeShapes Go.WideShapes Go.ChangeAt Go.RowKit
set_option linter.unusedVariables false
set_option linter.unusedSimpArgs false
/-- Between the two appends. -/
structure MatW2 (W : World) (base : Nat) (v5 v6 v7 : Value) (B : List BP) (n : Int) (Q : List QP) : Prop where
  o5 : W.ownsRow base 3 1 v5 (B.length + 1) (B.map bN ++ [.int .i64 n])
  o6 : W.ownsRow base 3 1 v6 B.length (B.map bW)
  o7 : W.ownsRow base 63 2 v7 Q.length (Q.flatMap qC)
  ne : v5.ownBlock = none ∨ v5.ownBlock ≠ v6.ownBlock
section
variable {w w' : World} {base : Nat} {v5 v6 v7 v5' v6' : Value} {B : List BP} {Q : List QP} {n : Int} {j : Nat}
theorem MatW2.next (h : MatW2 w base v5 v6 v7 B n Q) (hb : Below w.heap.size w w') : MatW2 w' base v5 v6 v7 B n Q := ⟨own_next h.o5 hb, own_next h.o6 hb, own_next h.o7 hb, h.ne⟩
theorem MatW.pushA (h : MatW w base v5 v6 v7 B Q) (oA : w'.ownsRow base 3 1 v5' (B.length + 1) (B.map bN ++ [.int .i64 n])) (gA : w.grownBy w' v5.ownBlock) (nA : v5'.ownBlock = v5.ownBlock ∨ v5'.ownBlock = some w.heap.size) : MatW2 w' base v5' v6 v7 B n Q := by
  have hne : v6.ownBlock = none ∨ v6.ownBlock ≠ v5.ownBlock := by
    rcases h.ne with h1 | h1
    · cases h6 : v6.ownBlock with
      | none => exact .inl rfl
      | some g => exact .inr (by rw [h1]; exact Option.some_ne_none g)
    · exact .inr (Ne.symm h1)
  refine ⟨oA, h.o6.kept gA hne, h.o7.kept gA (own_own_ne h.o7 h.o5 (by decide)), ?_⟩
  rcases nA with e | e
  · rw [e]; exact h.ne
  · right
    rw [e]
    intro e2
    have := (h.o6.lt _ e2.symm).2
    omega
theorem MatW2.pushB (h : MatW2 w base v5 v6 v7 B n Q) (oB : w'.ownsRow base 3 1 v6' (B.length + 1) (B.map bW ++ [.int .i64 (j : Int)])) (gB : w.grownBy w' v6.ownBlock) (nB : v6'.ownBlock = v6.ownBlock ∨ v6'.ownBlock = some w.heap.size) (U : Ty) : MatW w' base v5 v6' v7 (B ++ [⟨n, j, U⟩]) Q := by
  refine ⟨?_, ?_, h.o7.kept gB (own_own_ne h.o7 h.o6 (by decide)), ?_⟩
  · rw [List.length_append, List.map_append]
    exact h.o5.kept gB h.ne
  · rw [List.length_append, List.map_append]
    exact oB
  · rcases nB with e | e
    · rw [e]; exact h.ne
    · cases h5 : v5.ownBlock with
      | none => exact .inl rfl
      | some g =>
        right
        rw [e]
        intro e2
        have := (h.o5.lt _ (h5.trans e2)).2
        omega
end
set_option maxRecDepth 100000 in
set_option maxHeartbeats 8000000 in
theorem reg25b {u0 u1 u2 u3 u4 u10 u11 u12 u13 u14 u15 u16 u17 u18 u19 u20 u21 u22 u23 u24 u25 u26 u27 u28 u29 u30 u31 u32 u33 u34 u35 u36 u37 u38 u39 u40 u41 u42 u43 u44 u45 u46 u47 u48 u49 u50 u51 u52 u53 u54 u55 u56 u57 u58 u59 u60 u61 u62 u63 u64 u65 u66 u67 u68 u69 u70 u71 u72 u73 u74 u75 u76 u77 u78 u79 u80 u81 u82 u83 u84 u85 u86 u87 u88 u89 u90 u91 u92 u93 u94 u95 u96 u97 u98 u99 u100 u101 u102 u103 u104 u105 u106 u107 u108 u109 u110 u111 u112 u113 u114 u115 u116 u117 u118 u119 u120 u121 u122 u123 u124 u125 u126 u127 u128 v7 : Value} {Q : Exit → Act → World → Prop} (W w : World) (A5 A6 : Option Addr) (c5 c6 b7 xb j i : Nat) (B : List BP) (Qs : List QP) (p : Part) (U : Ty)
    (hM : MatW w W.heap.size (.slice A5 B.length c5) (.slice A6 B.length c6) v7 B Qs) (h7 : Blk w b7 29 (partC p).toArray) (hx : Blk w xb 63 #[.int .i64 (i : Int), .int .i64 (j : Int)]) (hb : Below W.heap.size W w) (hfew : B.length ≤ 200)
    (hQ : ∀ c a d v w', Q (.panic c) (a.put d v) w' → Q (.panic c) a w')
    (hend : ∀ (A5' A6' : Value) (w' : World) (v84 v85 v86 v87 v88 v89 v90 v91 v92 v93 : Value), MatW w' W.heap.size A5' A6' v7 (B ++ [⟨p.n, j, U⟩]) Qs → Below W.heap.size W w' → Q .normal ⟨#[u0, u1, u2, u3, u4, A5', A6', v7, ptr xb, ptr b7, u10, u11, u12, u13, u14, u15, u16, u17, u18, u19, u20, u21, u22, u23, u24, u25, u26, u27, u28, u29, u30, u31, u32, u33, u34, u35, u36, u37, u38, u39, u40, u41, u42, u43, u44, u45, u46, u47, u48, u49, u50, u51, u52, u53, u54, u55, u56, u57, u58, u59, u60, u61, u62, u63, u64, u65, u66, u67, u68, u69, u70, u71, u72, u73, u74, u75, u76, u77, u78, u79, u80, u81, u82, u83, v84, v85, v86, v87, v88, v89, v90, v91, v92, v93, u94, u95, u96, u97, u98, u99, u100, u101, u102, u103, u104, u105, u106, u107, u108, u109, u110, u111, u112, u113, u114, u115, u116, u117, u118, u119, u120, u121, u122, u123, u124, u125, u126, u127, u128], []⟩ w') :
    Code.wp Tryd.prog (code25 18) Q ⟨#[u0, u1, u2, u3, u4, .slice A5 B.length c5, .slice A6 B.length c6, v7, ptr xb, ptr b7, u10, u11, u12, u13, u14, u15, u16, u17, u18, u19, u20, u21, u22, u23, u24, u25, u26, u27, u28, u29, u30, u31, u32, u33, u34, u35, u36, u37, u38, u39, u40, u41, u42, u43, u44, u45, u46, u47, u48, u49, u50, u51, u52, u53, u54, u55, u56, u57, u58, u59, u60, u61, u62, u63, u64, u65, u66, u67, u68, u69, u70, u71, u72, u73, u74, u75, u76, u77, u78, u79, u80, u81, u82, u83, u84, u85, u86, u87, u88, u89, u90, u91, u92, u93, u94, u95, u96, u97, u98, u99, u100, u101, u102, u103, u104, u105, u106, u107, u108, u109, u110, u111, u112, u113, u114, u115, u116, u117, u118, u119, u120, u121, u122, u123, u124, u125, u126, u127, u128], []⟩ w := by
  have HEND := Lib.hid hend
  have HQ := Lib.hid hQ
  obtain ⟨i3, fi3, hz0, hz1, hz2⟩ := info_parts int_info
  have H3 := Lib.hid (show i3.zero = some (.int .i64 0) ∧ i3.size = 1 ∧ i3.bytes = 8 from ⟨hz0, hz1, hz2⟩)
  clear hend hQ hz0 hz1 hz2
  conv => arg 2; whnf
  refine wp_region_held_drew (S := fun V => V.cell? ⟨b7, 3, none⟩ = some (.int .i64 p.n) ∧ V.cell? ⟨xb, 1, none⟩ = some (.int .i64 (j : Int))) (by kernel_rfl) ⟨h7.cell 3, hx.cell 1⟩ (fun hHeld => ?_)
  have Md := hM.next (Below.drew (Below.refl _ _))
  have Ld := Below.drew hb
  have Xd := h7.drew
  have Yd := hx.drew
  generalize w.drew = d at Md Ld Xd Yd hHeld ⊢
  clear hM hb h7 hx
  refine wpAnyH_take (i := 0) (oi := ⟨some 84, _, _, _, _, _⟩) (v := ?_) rfl (by kernel_rfl) (by kernel_rfl) (by kernel_rfl) (fun _ _ _ h => HQ.out _ _ _ _ _ h) (Or.inl ⟨by kernel_rfl, ?_⟩) (by assumption) ?_
  rotate_left
  · intro V hSw
    obtain ⟨z1, z2⟩ := hSw
    go_simp
    try with_reducible rfl
  try simp only [Act.put, List.setIfInBounds_toArray, List.set_cons_zero, List.set_cons_succ]
  refine wpAnyH_take (i := 1) (oi := ⟨some 85, _, _, _, _, _⟩) (v := ?_) rfl (by kernel_rfl) (by kernel_rfl) (by kernel_rfl) (fun _ _ _ h => HQ.out _ _ _ _ _ h) (Or.inl ⟨by kernel_rfl, ?_⟩) (by assumption) ?_
  rotate_left
  · intro V hSw
    obtain ⟨z1, z2⟩ := hSw
    go_simp
    try with_reducible rfl
  try simp only [Act.put, List.setIfInBounds_toArray, List.set_cons_zero, List.set_cons_succ]
  refine wpAnyH_take (i := 2) (oi := ⟨some 86, _, _, _, _, _⟩) (v := ?_) rfl (by kernel_rfl) (by kernel_rfl) (by kernel_rfl) (fun _ _ _ h => HQ.out _ _ _ _ _ h) (Or.inl ⟨by kernel_rfl, ?_⟩) (by assumption) ?_
  rotate_left
  · intro V hSw
    obtain ⟨z1, z2⟩ := hSw
    go_simp
    try with_reducible rfl
  try simp only [Act.put, List.setIfInBounds_toArray, List.set_cons_zero, List.set_cons_succ]
  refine wpAnyH_take (i := 5) (oi := ⟨some 89, _, _, _, _, _⟩) (v := ?_) rfl (by kernel_rfl) (by kernel_rfl) (by kernel_rfl) (fun _ _ _ h => HQ.out _ _ _ _ _ h) (Or.inl ⟨by kernel_rfl, ?_⟩) (by assumption) ?_
  rotate_left
  · intro V hSw
    obtain ⟨z1, z2⟩ := hSw
    go_simp
    try with_reducible rfl
  try simp only [Act.put, List.setIfInBounds_toArray, List.set_cons_zero, List.set_cons_succ]
  refine wpAnyH_take (i := 6) (oi := ⟨some 90, _, _, _, _, _⟩) (v := ?_) rfl (by kernel_rfl) (by kernel_rfl) (by kernel_rfl) (fun _ _ _ h => HQ.out _ _ _ _ _ h) (Or.inl ⟨by kernel_rfl, ?_⟩) (by assumption) ?_
  rotate_left
  · intro V hSw
    obtain ⟨z1, z2⟩ := hSw
    go_simp
    try with_reducible rfl
  try simp only [Act.put, List.setIfInBounds_toArray, List.set_cons_zero, List.set_cons_succ]
  refine wpAnyH_take (i := 7) (oi := ⟨some 91, _, _, _, _, _⟩) (v := ?_) rfl (by kernel_rfl) (by kernel_rfl) (by kernel_rfl) (fun _ _ _ h => HQ.out _ _ _ _ _ h) (Or.inl ⟨by kernel_rfl, ?_⟩) (by assumption) ?_
  rotate_left
  · intro V hSw
    obtain ⟨z1, z2⟩ := hSw
    go_simp
    try with_reducible rfl
  try simp only [Act.put, List.setIfInBounds_toArray, List.set_cons_zero, List.set_cons_succ]
  refine wpAnyH_ready (rs := [3, 8]) (by kernel_rfl) (by simp) ?_
  refine (AllReadyH.cons (o := ⟨some 87, _, _, _, _, _⟩) rfl (fun K hK => ?_) (AllReadyH.cons (o := ⟨some 92, _, _, _, _, _⟩) rfl (fun K hK => ?_) AllReadyH.nil))
  · go_simp
    refine hK.out _ _ ?_ (fun hHeld => ?_)
    · exact ⟨(Xd.alloc _).cell 3, (Yd.alloc _).cell 1⟩
    clear hK K
    try simp only [Act.put, List.setIfInBounds_toArray, List.set_cons_zero, List.set_cons_succ]
    have Amd3 := Blk.new d 3 #[.int .i64 p.n]
    have Md3 := Md.next (below_new d (.cells #[.int .i64 p.n] 3))
    have Ld3 := Ld.alloc Ld.size (.cells #[.int .i64 p.n] 3)
    have Xd3 := Xd.alloc (.cells #[.int .i64 p.n] 3)
    have Yd3 := Yd.alloc (.cells #[.int .i64 p.n] 3)
    generalize d.heap.size = b3 at Amd3 ⊢
    generalize d.alloc (.cells #[.int .i64 p.n] 3) = d3 at Md3 Ld3 Xd3 Yd3 Amd3 hHeld ⊢
    refine wpAnyH_ready (rs := [4, 8]) (by kernel_rfl) (by simp) ?_
    refine (AllReadyH.cons (o := ⟨some 88, _, _, _, _, _⟩) rfl (fun K hK => ?_) (AllReadyH.cons (o := ⟨some 92, _, _, _, _, _⟩) rfl (fun K hK => ?_) AllReadyH.nil))
    · refine step_append_any _ (by rfl) (.tmp 84) (.tmp 87) 39 (by rfl) W.heap.size 3 i3 _ 1 8 Tryd.underlying39 fi3 H3.out.1 H3.out.2.1 H3.out.2.2 rfl (by omega) (.slice A5 B.length c5) B.length (B.map bN) (by rfl) Md3.o5 (b3 + 1) (some ⟨b3, 0, none⟩) 1 1 [.int .i64 p.n] (by rfl) (reads_blkN (vs := [.int .i64 p.n]) Amd3 rfl) (by simp [Value.oneCell']) (by unfold maxLen; omega) (by omega) Ld3.size ?_
      intro e4 d34 od34 gd34 nd34
      obtain ⟨V4, d4, rfl⟩ := own_form od34
      have Xd34 := Xd3.grown gd34 (fun e => own_blk_ne Md3.o5 Xd3 (by decide) e.symm)
      have Yd34 := Yd3.grown gd34 (fun e => own_blk_ne Md3.o5 Yd3 (by decide) e.symm)
      have Ld34 := Ld3.grown gd34 Ld3.size (own_base Md3.o5)
      have Md34 := Md3.pushA od34 gd34 nd34
      refine hK.out _ _ ?_ (fun hHeld => ?_)
      · exact ⟨Xd34.cell 3, Yd34.cell 1⟩
      clear hK K
      try simp only [Act.put, List.setIfInBounds_toArray, List.set_cons_zero, List.set_cons_succ]
      refine wpAnyH_ready (rs := [8]) (by kernel_rfl) (by simp) ?_
      refine (AllReadyH.cons (o := ⟨some 92, _, _, _, _, _⟩) rfl (fun K hK => ?_) AllReadyH.nil)
      · go_simp
        refine hK.out _ _ ?_ (fun hHeld => ?_)
        · exact ⟨(Xd34.alloc _).cell 3, (Yd34.alloc _).cell 1⟩
        clear hK K
        try simp only [Act.put, List.setIfInBounds_toArray, List.set_cons_zero, List.set_cons_succ]
        have Bmd348 := Blk.new d34 3 #[.int .i64 (j : Int)]
        have Md348 := Md34.next (below_new d34 (.cells #[.int .i64 (j : Int)] 3))
        have Ld348 := Ld34.alloc Ld34.size (.cells #[.int .i64 (j : Int)] 3)
        have Xd348 := Xd34.alloc (.cells #[.int .i64 (j : Int)] 3)
        have Yd348 := Yd34.alloc (.cells #[.int .i64 (j : Int)] 3)
        generalize d34.heap.size = b8 at Bmd348 ⊢
        generalize d34.alloc (.cells #[.int .i64 (j : Int)] 3) = d348 at Md348 Ld348 Xd348 Yd348 Bmd348 hHeld ⊢
        refine wpAnyH_ready (rs := [9]) (by kernel_rfl) (by simp) ?_
        refine (AllReadyH.cons (o := ⟨some 93, _, _, _, _, _⟩) rfl (fun K hK => ?_) AllReadyH.nil)
        · refine step_append_any _ (by rfl) (.tmp 89) (.tmp 92) 39 (by rfl) W.heap.size 3 i3 _ 1 8 Tryd.underlying39 fi3 H3.out.1 H3.out.2.1 H3.out.2.2 rfl (by omega) (.slice A6 B.length c6) B.length (B.map bW) (by rfl) Md348.o6 (b8 + 1) (some ⟨b8, 0, none⟩) 1 1 [.int .i64 (j : Int)] (by rfl) (reads_blkN (vs := [.int .i64 (j : Int)]) Bmd348 rfl) (by simp [Value.oneCell']) (by unfold maxLen; omega) (by omega) Ld348.size ?_
          intro e9 d3489 od3489 gd3489 nd3489
          obtain ⟨V9, d9, rfl⟩ := own_form od3489
          have Xd3489 := Xd348.grown gd3489 (fun e => own_blk_ne Md348.o6 Xd348 (by decide) e.symm)
          have Yd3489 := Yd348.grown gd3489 (fun e => own_blk_ne Md348.o6 Yd348 (by decide) e.symm)
          have Ld3489 := Ld348.grown gd3489 Ld348.size (own_base Md348.o6)
          have Md3489 := Md348.pushB od3489 gd3489 nd3489 U
          refine hK.out _ _ ?_ (fun hHeld => ?_)
          · exact ⟨Xd3489.cell 3, Yd3489.cell 1⟩
          clear hK K
          try simp only [Act.put, List.setIfInBounds_toArray, List.set_cons_zero, List.set_cons_succ]
          refine wpAnyH_take (i := 10) (oi := ⟨some 5, _, _, _, _, _⟩) (v := ?_) rfl (by kernel_rfl) (by kernel_rfl) (by kernel_rfl) (fun _ _ _ h => HQ.out _ _ _ _ _ h) (Or.inl ⟨by kernel_rfl, ?_⟩) (by assumption) ?_
          rotate_left
          · intro V hSw
            go_simp
            try with_reducible rfl
          try simp only [Act.put, List.setIfInBounds_toArray, List.set_cons_zero, List.set_cons_succ]
          refine wpAnyH_take (i := 11) (oi := ⟨some 6, _, _, _, _, _⟩) (v := ?_) rfl (by kernel_rfl) (by kernel_rfl) (by kernel_rfl) (fun _ _ _ h => HQ.out _ _ _ _ _ h) (Or.inl ⟨by kernel_rfl, ?_⟩) (by assumption) ?_
          rotate_left
          · intro V hSw
            go_simp
            try with_reducible rfl
          try simp only [Act.put, List.setIfInBounds_toArray, List.set_cons_zero, List.set_cons_succ]
          refine wpAnyH_done (by kernel_rfl) ?_ _
          clear hHeld
          exact HEND.out _ _ _ _ _ _ _ _ _ _ _ _ _ Md3489 Ld3489



    · go_simp
      refine hK.out _ _ ?_ (fun hHeld => ?_)
      · exact ⟨(Xd3.alloc _).cell 3, (Yd3.alloc _).cell 1⟩
      clear hK K
      try simp only [Act.put, List.setIfInBounds_toArray, List.set_cons_zero, List.set_cons_succ]
      have Bmd38 := Blk.new d3 3 #[.int .i64 (j : Int)]
      have Md38 := Md3.next (below_new d3 (.cells #[.int .i64 (j : Int)] 3))
      have Ld38 := Ld3.alloc Ld3.size (.cells #[.int .i64 (j : Int)] 3)
      have Xd38 := Xd3.alloc (.cells #[.int .i64 (j : Int)] 3)
      have Yd38 := Yd3.alloc (.cells #[.int .i64 (j : Int)] 3)
      have Amd38 := Amd3.alloc (.cells #[.int .i64 (j : Int)] 3)
      have FB := fun g (e : (Value.slice A5 B.length c5).ownBlock = some g) => (Md3.o5.lt g e).2
      generalize d3.heap.size = b8 at Bmd38 FB ⊢
      generalize d3.alloc (.cells #[.int .i64 (j : Int)] 3) = d38 at Md38 Ld38 Xd38 Yd38 Bmd38 Amd38 hHeld ⊢
      refine wpAnyH_ready (rs := [4]) (by kernel_rfl) (by simp) ?_
      refine (AllReadyH.cons (o := ⟨some 88, _, _, _, _, _⟩) rfl (fun K hK => ?_) AllReadyH.nil)
      · refine step_append_any _ (by rfl) (.tmp 84) (.tmp 87) 39 (by rfl) W.heap.size 3 i3 _ 1 8 Tryd.underlying39 fi3 H3.out.1 H3.out.2.1 H3.out.2.2 rfl (by omega) (.slice A5 B.length c5) B.length (B.map bN) (by rfl) Md38.o5 (b3 + 1) (some ⟨b3, 0, none⟩) 1 1 [.int .i64 p.n] (by rfl) (reads_blkN (vs := [.int .i64 p.n]) Amd38 rfl) (by simp [Value.oneCell']) (by unfold maxLen; omega) (by omega) Ld38.size ?_
        intro e4 d384 od384 gd384 nd384
        obtain ⟨V4, d4, rfl⟩ := own_form od384
        have Xd384 := Xd38.grown gd384 (fun e => own_blk_ne Md38.o5 Xd38 (by decide) e.symm)
        have Yd384 := Yd38.grown gd384 (fun e => own_blk_ne Md38.o5 Yd38 (by decide) e.symm)
        have Ld384 := Ld38.grown gd384 Ld38.size (own_base Md38.o5)
        have Bmd384 := Bmd38.grown gd384 (fun e => absurd (FB _ e.symm) (Nat.lt_irrefl _))
        have Md384 := Md38.pushA od384 gd384 nd384
        refine hK.out _ _ ?_ (fun hHeld => ?_)
        · exact ⟨Xd384.cell 3, Yd384.cell 1⟩
        clear hK K
        try simp only [Act.put, List.setIfInBounds_toArray, List.set_cons_zero, List.set_cons_succ]
        refine wpAnyH_ready (rs := [9]) (by kernel_rfl) (by simp) ?_
        refine (AllReadyH.cons (o := ⟨some 93, _, _, _, _, _⟩) rfl (fun K hK => ?_) AllReadyH.nil)
        · refine step_append_any _ (by rfl) (.tmp 89) (.tmp 92) 39 (by rfl) W.heap.size 3 i3 _ 1 8 Tryd.underlying39 fi3 H3.out.1 H3.out.2.1 H3.out.2.2 rfl (by omega) (.slice A6 B.length c6) B.length (B.map bW) (by rfl) Md384.o6 (b8 + 1) (some ⟨b8, 0, none⟩) 1 1 [.int .i64 (j : Int)] (by rfl) (reads_blkN (vs := [.int .i64 (j : Int)]) Bmd384 rfl) (by simp [Value.oneCell']) (by unfold maxLen; omega) (by omega) Ld384.size ?_
          intro e9 d3849 od3849 gd3849 nd3849
          obtain ⟨V9, d9, rfl⟩ := own_form od3849
          have Xd3849 := Xd384.grown gd3849 (fun e => own_blk_ne Md384.o6 Xd384 (by decide) e.symm)
          have Yd3849 := Yd384.grown gd3849 (fun e => own_blk_ne Md384.o6 Yd384 (by decide) e.symm)
          have Ld3849 := Ld384.grown gd3849 Ld384.size (own_base Md384.o6)
          have Md3849 := Md384.pushB od3849 gd3849 nd3849 U
          refine hK.out _ _ ?_ (fun hHeld => ?_)
          · exact ⟨Xd3849.cell 3, Yd3849.cell 1⟩
          clear hK K
          try simp only [Act.put, List.setIfInBounds_toArray, List.set_cons_zero, List.set_cons_succ]
          refine wpAnyH_take (i := 10) (oi := ⟨some 5, _, _, _, _, _⟩) (v := ?_) rfl (by kernel_rfl) (by kernel_rfl) (by kernel_rfl) (fun _ _ _ h => HQ.out _ _ _ _ _ h) (Or.inl ⟨by kernel_rfl, ?_⟩) (by assumption) ?_
          rotate_left
          · intro V hSw
            go_simp
            try with_reducible rfl
          try simp only [Act.put, List.setIfInBounds_toArray, List.set_cons_zero, List.set_cons_succ]
          refine wpAnyH_take (i := 11) (oi := ⟨some 6, _, _, _, _, _⟩) (v := ?_) rfl (by kernel_rfl) (by kernel_rfl) (by kernel_rfl) (fun _ _ _ h => HQ.out _ _ _ _ _ h) (Or.inl ⟨by kernel_rfl, ?_⟩) (by assumption) ?_
          rotate_left
          · intro V hSw
            go_simp
            try with_reducible rfl
          try simp only [Act.put, List.setIfInBounds_toArray, List.set_cons_zero, List.set_cons_succ]
          refine wpAnyH_done (by kernel_rfl) ?_ _
          clear hHeld
          exact HEND.out _ _ _ _ _ _ _ _ _ _ _ _ _ Md3849 Ld3849




  · go_simp
    refine hK.out _ _ ?_ (fun hHeld => ?_)
    · exact ⟨(Xd.alloc _).cell 3, (Yd.alloc _).cell 1⟩
    clear hK K
    try simp only [Act.put, List.setIfInBounds_toArray, List.set_cons_zero, List.set_cons_succ]
    have Bmd8 := Blk.new d 3 #[.int .i64 (j : Int)]
    have Md8 := Md.next (below_new d (.cells #[.int .i64 (j : Int)] 3))
    have Ld8 := Ld.alloc Ld.size (.cells #[.int .i64 (j : Int)] 3)
    have Xd8 := Xd.alloc (.cells #[.int .i64 (j : Int)] 3)
    have Yd8 := Yd.alloc (.cells #[.int .i64 (j : Int)] 3)
    have FB := fun g (e : (Value.slice A5 B.length c5).ownBlock = some g) => (Md.o5.lt g e).2
    generalize d.heap.size = b8 at Bmd8 FB ⊢
    generalize d.alloc (.cells #[.int .i64 (j : Int)] 3) = d8 at Md8 Ld8 Xd8 Yd8 Bmd8 hHeld ⊢
    refine wpAnyH_ready (rs := [3]) (by kernel_rfl) (by simp) ?_
    refine (AllReadyH.cons (o := ⟨some 87, _, _, _, _, _⟩) rfl (fun K hK => ?_) AllReadyH.nil)
    · go_simp
      refine hK.out _ _ ?_ (fun hHeld => ?_)
      · exact ⟨(Xd8.alloc _).cell 3, (Yd8.alloc _).cell 1⟩
      clear hK K
      try simp only [Act.put, List.setIfInBounds_toArray, List.set_cons_zero, List.set_cons_succ]
      have Amd83 := Blk.new d8 3 #[.int .i64 p.n]
      have Md83 := Md8.next (below_new d8 (.cells #[.int .i64 p.n] 3))
      have Ld83 := Ld8.alloc Ld8.size (.cells #[.int .i64 p.n] 3)
      have Xd83 := Xd8.alloc (.cells #[.int .i64 p.n] 3)
      have Yd83 := Yd8.alloc (.cells #[.int .i64 p.n] 3)
      have Bmd83 := Bmd8.alloc (.cells #[.int .i64 p.n] 3)
      generalize d8.heap.size = b3 at Amd83 ⊢
      generalize d8.alloc (.cells #[.int .i64 p.n] 3) = d83 at Md83 Ld83 Xd83 Yd83 Amd83 Bmd83 hHeld ⊢
      refine wpAnyH_ready (rs := [4]) (by kernel_rfl) (by simp) ?_
      refine (AllReadyH.cons (o := ⟨some 88, _, _, _, _, _⟩) rfl (fun K hK => ?_) AllReadyH.nil)
      · refine step_append_any _ (by rfl) (.tmp 84) (.tmp 87) 39 (by rfl) W.heap.size 3 i3 _ 1 8 Tryd.underlying39 fi3 H3.out.1 H3.out.2.1 H3.out.2.2 rfl (by omega) (.slice A5 B.length c5) B.length (B.map bN) (by rfl) Md83.o5 (b3 + 1) (some ⟨b3, 0, none⟩) 1 1 [.int .i64 p.n] (by rfl) (reads_blkN (vs := [.int .i64 p.n]) Amd83 rfl) (by simp [Value.oneCell']) (by unfold maxLen; omega) (by omega) Ld83.size ?_
        intro e4 d834 od834 gd834 nd834
        obtain ⟨V4, d4, rfl⟩ := own_form od834
        have Xd834 := Xd83.grown gd834 (fun e => own_blk_ne Md83.o5 Xd83 (by decide) e.symm)
        have Yd834 := Yd83.grown gd834 (fun e => own_blk_ne Md83.o5 Yd83 (by decide) e.symm)
        have Ld834 := Ld83.grown gd834 Ld83.size (own_base Md83.o5)
        have Bmd834 := Bmd83.grown gd834 (fun e => absurd (FB _ e.symm) (Nat.lt_irrefl _))
        have Md834 := Md83.pushA od834 gd834 nd834
        refine hK.out _ _ ?_ (fun hHeld => ?_)
        · exact ⟨Xd834.cell 3, Yd834.cell 1⟩
        clear hK K
        try simp only [Act.put, List.setIfInBounds_toArray, List.set_cons_zero, List.set_cons_succ]
        refine wpAnyH_ready (rs := [9]) (by kernel_rfl) (by simp) ?_
        refine (AllReadyH.cons (o := ⟨some 93, _, _, _, _, _⟩) rfl (fun K hK => ?_) AllReadyH.nil)
        · refine step_append_any _ (by rfl) (.tmp 89) (.tmp 92) 39 (by rfl) W.heap.size 3 i3 _ 1 8 Tryd.underlying39 fi3 H3.out.1 H3.out.2.1 H3.out.2.2 rfl (by omega) (.slice A6 B.length c6) B.length (B.map bW) (by rfl) Md834.o6 (b8 + 1) (some ⟨b8, 0, none⟩) 1 1 [.int .i64 (j : Int)] (by rfl) (reads_blkN (vs := [.int .i64 (j : Int)]) Bmd834 rfl) (by simp [Value.oneCell']) (by unfold maxLen; omega) (by omega) Ld834.size ?_
          intro e9 d8349 od8349 gd8349 nd8349
          obtain ⟨V9, d9, rfl⟩ := own_form od8349
          have Xd8349 := Xd834.grown gd8349 (fun e => own_blk_ne Md834.o6 Xd834 (by decide) e.symm)
          have Yd8349 := Yd834.grown gd8349 (fun e => own_blk_ne Md834.o6 Yd834 (by decide) e.symm)
          have Ld8349 := Ld834.grown gd8349 Ld834.size (own_base Md834.o6)
          have Md8349 := Md834.pushB od8349 gd8349 nd8349 U
          refine hK.out _ _ ?_ (fun hHeld => ?_)
          · exact ⟨Xd8349.cell 3, Yd8349.cell 1⟩
          clear hK K
          try simp only [Act.put, List.setIfInBounds_toArray, List.set_cons_zero, List.set_cons_succ]
          refine wpAnyH_take (i := 10) (oi := ⟨some 5, _, _, _, _, _⟩) (v := ?_) rfl (by kernel_rfl) (by kernel_rfl) (by kernel_rfl) (fun _ _ _ h => HQ.out _ _ _ _ _ h) (Or.inl ⟨by kernel_rfl, ?_⟩) (by assumption) ?_
          rotate_left
          · intro V hSw
            go_simp
            try with_reducible rfl
          try simp only [Act.put, List.setIfInBounds_toArray, List.set_cons_zero, List.set_cons_succ]
          refine wpAnyH_take (i := 11) (oi := ⟨some 6, _, _, _, _, _⟩) (v := ?_) rfl (by kernel_rfl) (by kernel_rfl) (by kernel_rfl) (fun _ _ _ h => HQ.out _ _ _ _ _ h) (Or.inl ⟨by kernel_rfl, ?_⟩) (by assumption) ?_
          rotate_left
          · intro V hSw
            go_simp
            try with_reducible rfl
          try simp only [Act.put, List.setIfInBounds_toArray, List.set_cons_zero, List.set_cons_succ]
          refine wpAnyH_done (by kernel_rfl) ?_ _
          clear hHeld
          exact HEND.out _ _ _ _ _ _ _ _ _ _ _ _ _ Md8349 Ld8349




end Go.Proofs.YtcilodgpbdafeaaDoor
namespace Go.Proofs.YtcilodgpbdafeaaDoor
open Go.ChangeShapes Go.WideShapes Go.ChangeAt Go.RowKit
set_option linter.unusedVariables false
set_option linter.unusedSimpArgs false
theorem exists_min {P : Nat → Prop} : ∀ n, P n → ∃ k, P k ∧ ∀ m, P m → k ≤ m := by
  intro n
  induction n using Nat.strongRecOn with
  | ind n ih =>
    intro h
    by_cases hm : ∃ m, m < n ∧ P m
    · obtain ⟨m, h1, h2⟩ := hm
      exact ih m h1 h2
    · exact ⟨n, h, fun m hp => Nat.le_of_not_lt fun hlt => hm ⟨m, hlt, hp⟩⟩
open Classical in
noncomputable def low (P : Nat → Prop) : Nat := if h : ∃ k, P k ∧ ∀ m, P m → k ≤ m then Classical.choose h else 0
theorem low_both {P : Nat → Prop} {n : Nat} (h : P n) : P (low P) ∧ ∀ m, P m → low P ≤ m := by
  have h1 := exists_min n h
  unfold low
  rw [dif_pos h1]
  exact Classical.choose_spec h1
theorem low_spec {P : Nat → Prop} (h : ∃ n, P n) : P (low P) := by
  obtain ⟨n, h⟩ := h
  exact (low_both h).1
theorem low_le {P : Nat → Prop} {n : Nat} (h : P n) : low P ≤ n := (low_both h).2 n h
theorem wrap_pred {n : Nat} (h : 0 < n) (h2 : n ≤ 3000) : IntKind.i64.wrap ((n : Int) - 1) = ((n - 1 : Nat) : Int) := (IntWalk.i64_in _ (by omega)).trans (by omega)
theorem wrap_succ {k n : Nat} (h : k < n) (h2 : n ≤ 200) : Value.int .i64 (wrap64 ((k : Int) + 1)) = .int .i64 ((k + 1 : Nat) : Int) := congrArg (Value.int .i64) ((IntWalk.wrap64_in _ ⟨by omega, by omega⟩).trans (by omega))
theorem meas_succ {k n : Nat} (h : k < n) (h2 : n ≤ 200) : n - (intOf (.int .i64 (wrap64 ((k : Int) + 1)))).toNat < n - (intOf (.int .i64 (k : Int))).toNat := by
  rw [wrap_succ h h2]
  simp only [intOf]
  omega
/-- The loop's state, with so much left to do. -/
def MRel (a b : List Part) (W : World) (n : Nat) (v5 v6 v7 : Value) (w : World) : Prop :=
  ∃ B Q, MatI a b B Q ∧ MatW w W.heap.size v5 v6 v7 B Q ∧ tot Q = n ∧ Below W.heap.size W w
noncomputable def left (a b : List Part) (W : World) (v5 v6 v7 : Value) (w : World) : Nat := low fun n => MRel a b W n v5 v6 v7 w
theorem MRel.less {a b : List Part} {W : World} {n : Nat} {v5 v6 v7 v5' v6' v7' : Value} {w w' : World} (h : MRel a b W n v5' v6' v7' w') (hn : n < left a b W v5 v6 v7 w) : left a b W v5' v6' v7' w' < left a b W v5 v6 v7 w :=
  Nat.lt_of_le_of_lt (low_le (P := fun n => MRel a b W n v5' v6' v7' w') h) hn
theorem MRel.best {a b : List Part} {W : World} {v5 v6 v7 : Value} {w : World} (h : ∃ n, MRel a b W n v5 v6 v7 w) : MRel a b W (left a b W v5 v6 v7 w) v5 v6 v7 w := low_spec h
theorem own_cap2 {w : World} {base : Nat} {e : TypeId} {size n m : Nat} {ad : Addr} {c : Nat} {xs : List Value} (h : w.ownsRow base e size (.slice (some ad) n c) m xs) : n ≤ c := by
  rcases h.2 with ⟨e1, _⟩ | ⟨g, cap, cur, e1, _, _, h1, _⟩
  · injection e1 with e1; cases e1
  · injection e1 with e1 e2 e3
    omega
theorem MatW.push7 {w w' : World} {base : Nat} {v5 v6 v7 v7' : Value} {B : List BP} {Q : List QP} {q : QP} (h : MatW w base v5 v6 v7 B Q) {o : Obj} (oA : w'.ownsRow base 63 2 v7' (Q.length + 1) (Q.flatMap qC ++ qC q)) (gA : (w.alloc o).grownBy w' v7.ownBlock) : MatW w' base v5 v6 v7' B (Q ++ [q]) := by
  have h1 := h.next (below_new w o)
  refine ⟨h1.o5.kept gA (own_own_ne h1.o5 h1.o7 (by decide)), h1.o6.kept gA (own_own_ne h1.o6 h1.o7 (by decide)), ?_, h1.ne⟩
  rw [List.length_append, List.flatMap_append, show [q].flatMap qC = qC q by simp]
  exact oA
theorem MatW.far7 {w w' : World} {base g : Nat} {v5 v6 v7 : Value} {B : List BP} {Q : List QP} {cs : Array Value} (h : MatW w base v5 v6 v7 B Q) (hk : Blk w g 29 cs) {o : Obj} (gA : (w.alloc o).grownBy w' v7.ownBlock) : Blk w' g 29 cs :=
  (hk.next (below_new w o)).grown gA (fun e => own_blk_ne (own_next h.o7 (below_new w o)) (hk.next (below_new w o)) (by decide) e.symm)
theorem MatW.below7 {w w' W : World} {v5 v6 v7 : Value} {B : List BP} {Q : List QP} (h : MatW w W.heap.size v5 v6 v7 B Q) (hb : Below W.heap.size W w) {o : Obj} (gA : (w.alloc o).grownBy w' v7.ownBlock) : Below W.heap.size W w' :=
  (hb.alloc hb.size o).grown gA (by rw [World.size_alloc]; have := hb.size; omega) (own_base (own_next h.o7 (below_new w o)))
theorem num_zero {T : Ty} (h : ∀ n, T ≠ .var n) : T.num = 0 := by
  cases T with
  | var n => exact absurd rfl (h n)
  | leaf k t => rfl
  | one k s => rfl
  | two k s u => rfl
theorem leaf_of {S : Ty} (w : S.wf) (h : ∀ n, S ≠ .var n) (k7 : S.kind ≠ 7) (k9 : S.kind ≠ 9) (k6 : S.kind ≠ 6) (k8 : S.kind ≠ 8) : ∃ k t, S = .leaf k t := by
  cases S with
  | var n => exact absurd rfl (h n)
  | leaf k t => exact ⟨k, t, rfl⟩
  | one k s => have := w.1; simp only [Ty.kind] at k7 k9; omega
  | two k s u => have := w.1; simp only [Ty.kind] at k6 k8; omega
theorem kids_one {k : Int} (h : k = 7 ∨ k = 9) : kids k = 1 := by rcases h with rfl | rfl <;> rfl
theorem kids_two {k : Int} (h : k = 6 ∨ k = 8) : kids k = 2 := by rcases h with rfl | rfl <;> rfl
theorem inst_bad {a b : List Part} (h : gTy a = false ∨ gTy b = false) : ¬ Inst a b := fun hi => by
  rcases h with h | h
  · rw [hi.good.1] at h; cases h
  · rw [hi.good.2] at h; cases h
theorem MatchEnd.no {a b : List Part} {W W' : World} (h : ¬ Inst a b) (hb : Below W.heap.size W W') : MatchEnd a b W (.returned (.bool false)) W' := ⟨false, rfl, ⟨fun h => (by cases h), fun hi => (h hi).elim⟩, hb⟩
theorem MatchEnd.yes {a b : List Part} {W W' : World} (h : Inst a b) (hb : Below W.heap.size W W') : MatchEnd a b W (.returned (.bool true)) W' := ⟨true, rfl, ⟨fun _ => h, fun _ => rfl⟩, hb⟩
set_option maxRecDepth 100000 in
set_option maxHeartbeats 8000000 in
theorem c25 (a b : List Part) (A A' : Option Addr) (c c' : Nat) (W : World) (ha : RT W A a) (hb : RT W A' b) : Calls Tryd.prog 25 #[.slice A a.length c, .slice A' b.length c'] W (MatchEnd a b W) := by
  have HA := Lib.hid ha
  have HB := Lib.hid hb
  clear ha hb
  go_enter Tryd.func25, Tryd.ntmps25
  go_wp2_with fail
  refine (c9b a A c _ HA.out).mono ?_
  rintro e w1 ⟨rfl, b1⟩
  have B1 := Lib.hid b1
  clear b1
  cases hga : gTy a with
  | false =>
    have HR := Lib.hid (inst_bad (a := a) (b := b) (.inl hga))
    clear hga
    go_wp2_with fail
    go_ret
    exact MatchEnd.no HR.out B1.out
  | true =>
  have HGA := Lib.hid hga
  clear hga
  go_wp2_with fail
  refine (c9b b A' c' _ (HB.out.next B1.out)).mono ?_
  rintro e w2 ⟨rfl, b2⟩
  have B2 := Lib.hid (next_ B1.out b2)
  clear b2
  cases hgb : gTy b with
  | false =>
    have HR := Lib.hid (inst_bad (a := a) (b := b) (.inr hgb))
    clear hgb
    go_wp2_with fail
    go_ret
    exact MatchEnd.no HR.out B2.out
  | true =>
  obtain ⟨S, T, hI, hSa, hTb⟩ := MatI.start HGA.out hgb
  have HI := Lib.hid hI
  have ga : a.length ≤ 200 := by have := hI.few; simp only [tot, List.length_nil] at this; omega
  have gb : b.length ≤ 200 := by obtain ⟨T, _, e, z⟩ := (gTy_iff b).1 hgb; rw [e, enc_len]; exact z
  have ea : ((a.length - 1 : Nat) : Int) = (a.length : Int) - 1 := by have := S.size_pos; omega
  have eb : ((b.length - 1 : Nat) : Int) = (b.length : Int) - 1 := by omega
  have fa : IntKind.i64.wrap ((a.length : Int) - 1) = ((a.length - 1 : Nat) : Int) := wrap_pred (by have := S.size_pos; omega) (by omega)
  have fb : IntKind.i64.wrap ((b.length : Int) - 1) = ((b.length - 1 : Nat) : Int) := wrap_pred hTb (by omega)
  clear hgb hI hSa hTb ea eb ga gb
  go_wp2_with fail
  go_loopw [5, 6, 7] (fun v5 v6 v7 wr => ∃ n, MRel a b W n v5 v6 v7 wr) (fun v5 v6 v7 wr => left a b W v5 v6 v7 wr)
  case atStart =>
    refine ⟨_, [], _, HI.out, ⟨World.ownsRow_nil _ _ _ _, World.ownsRow_nil _ _ _ _, own_new w2 (xs := qC _) (n := 1) (s := 2) (e := 63) B2.out.size rfl (by unfold maxLen; decide), .inl rfl⟩, rfl, B2.out.alloc B2.out.size _⟩
  case round =>
    have hrel := MRel.best hrel
    generalize hmn : left a b W u5 u6 u7 wr = mn at hrel
    have ML := Lib.hid hmn
    obtain ⟨B, Q, hI, hM, ht, hb⟩ := hrel
    have MI := Lib.hid hI
    have HT := Lib.hid ht
    have HBw := Lib.hid hb
    obtain ⟨A5, c5, rfl⟩ := own_form hM.o5
    obtain ⟨A6, c6, rfl⟩ := own_form hM.o6
    obtain ⟨A7, c7, rfl⟩ := own_form hM.o7
    clear hmn hI ht hb fa fb B1 B2
    rcases List.eq_nil_or_concat Q with rfl | ⟨Q, q, rfl⟩
    · have HR := Lib.hid MI.out.done
      rw [show ([] : List QP).length = 0 from rfl]
      clear hM
      go_wp2_with fail
      go_ret
      exact MatchEnd.yes HR.out HBw.out
    rw [List.concat_eq_append] at *
    generalize hn : (Q ++ [q]).length = n at hM ML ⊢
    have hnm := hM.len_
    obtain ⟨ad7, rfl, hcs⟩ := hM.some_
    have hcap := own_cap2 hM.o7
    have HP := Lib.hid (hM.pop (by simp))
    have FEW := Lib.hid MI.out.few
    have HCS := Lib.hid hcs
    have few := MI.out.few
    have hql := tot_len (Q ++ [q])
    rw [show (Q ++ [q]).length = Q.length + 1 by simp] at hql
    have fn1 : IntKind.i64.wrap ((n : Int) - 1) = (Q.length : Int) := (IntWalk.i64_in _ (by omega)).trans (by omega)
    have fn2 : (0 : Int) < (n : Int) := by omega
    have fn3 : (Q.length : Int) < (n : Int) := by omega
    have fn4 : (0 : Int) ≤ (Q.length : Int) := by omega
    have fn5 : (Q.length : Int) ≤ (c7 : Int) := by omega
    have fn6 : Q.length ≤ c7 := by omega
    have HM := Lib.hid hM
    clear hn hnm hcs hcap few hql hM
    go_upto_region 7 with (first | (refine wpList_load_at rfl 63 (.tmp 37) rfl (ad7.add (Q.length * 2)) rfl [.int .i64 (q.i : Int), .int .i64 (q.j : Int)] _ HCS.out Tryd.underlying63 rfl (by kernel_rfl) ?_))
    have HM := Lib.hid (HP.out.next (below_new wr (.cells #[.int .i64 (q.i : Int), .int .i64 (q.j : Int)] 63)))
    have HX := Lib.hid (Blk.new wr 63 #[.int .i64 (q.i : Int), .int .i64 (q.j : Int)])
    have HBw := Lib.hid (HBw.out.alloc HBw.out.size (.cells #[.int .i64 (q.i : Int), .int .i64 (q.j : Int)] 63))
    have hxlt : wr.heap.size < (wr.alloc (.cells #[.int .i64 (q.i : Int), .int .i64 (q.j : Int)] 63)).heap.size := by rw [World.size_alloc]; omega
    go_upto_region 8 with fail
    generalize wr.alloc (.cells #[.int .i64 (q.i : Int), .int .i64 (q.j : Int)] 63) = w0 at HM HX HBw hxlt ⊢
    generalize wr.heap.size = xb at HX hxlt ⊢
    obtain ⟨wS, wT, aS, aT⟩ := MI.out.last
    obtain ⟨p, hp, kp, tp, np⟩ := aS.top
    obtain ⟨p', hp', kp', tp', np'⟩ := aT.top
    have li := aS.lt
    have lj := aT.lt
    obtain ⟨ad, rfl, hadb, hcp⟩ := Reads.partAt (HA.out.next HBw.out) hp
    obtain ⟨ad', rfl, hadb', hcq⟩ := Reads.partAt (HB.out.next HBw.out) hp'
    have F1 := Lib.hid hp
    have F2 := Lib.hid hp'
    have F3 := Lib.hid (show p.k = q.S.kind ∧ p.t = q.S.text ∧ p.n = q.S.num from ⟨kp, tp, np⟩)
    have F4 := Lib.hid (show p'.k = q.T.kind ∧ p'.t = q.T.text ∧ p'.n = q.T.num from ⟨kp', tp', np'⟩)
    have WS := Lib.hid wS
    have WT := Lib.hid wT
    have AS := Lib.hid aS
    have AT := Lib.hid aT
    have hm1 := HX.out.cell 0
    have hm2 := HX.out.cell 1
    clear hp hp' kp tp np kp' tp' np' wS wT aS aT fn1 fn2 fn3 fn4 fn5 fn6
    refine reg25 xb q.i q.j a.length b.length c c' p p' ad ad' w0 li lj hxlt hm1 hm2 hadb hadb' hcp hcq (fun _ _ d _ _ h => by cases d <;> exact h) ?_
    intro b7 b8 w1 v44 v45 v46 v47 v48 v49 v50 v51 v52 v53 h7 h8 hb1
    have HM := Lib.hid (HM.out.next hb1)
    have HBw := Lib.hid (next_ HBw.out hb1)
    have HX := Lib.hid (HX.out.next hb1)
    clear hb1 hcp hcq hadb hadb' hm1 hm2 hxlt hrel
    by_cases hv : ∃ n, q.S = .var n
    · obtain ⟨n, hqS⟩ := hv
      have eS := Lib.hid hqS
      have ep := F1.out
      have e2 := AS.out
      rw [hqS] at e2
      obtain rfl := Option.some.inj (ep.symm.trans e2)
      clear ep e2 hqS
      have x0 : w1.cell? ⟨b7, 0, none⟩ = some (.int .i64 11) := h7.cell 0
      have H7 := Lib.hid h7
      have H8 := Lib.hid h8
      clear h7 h8
      go_wp2_with fail
      go_loopw [11, 12] (fun v i wr => ∃ k : Nat, k ≤ B.length ∧ i = .int .i64 k ∧ v = .int .i64 (lastAt (B.take k) n) ∧ Below w1.heap.size w1 wr) (fun _ i _ => B.length - (intOf i).toNat)
      case atStart => exact ⟨0, by omega, rfl, by simp [lastAt], Below.refl _ _⟩
      case round =>
        obtain ⟨k, hk, rfl, rfl, hbi⟩ := hrel
        have HBI := Lib.hid hbi
        clear hbi
        by_cases hlt : k < B.length
        · have hlk : (k : Int) < (B.length : Int) := by omega
          have hk0 : (0 : Int) ≤ (k : Int) := by omega
          have hpk : B[k]? = some B[k] := List.getElem?_eq_getElem hlt
          obtain ⟨adn, u, rfl, _, hu, hcn⟩ := Reads.at_ (Reads.of_own (own_next HM.out.o5 HBI.out)) hlt
          rw [List.getElem?_map, hpk] at hu
          obtain rfl : bN B[k] = u := Option.some.inj hu
          obtain ⟨adw, u, rfl, _, hu2, hcw⟩ := Reads.at_ (Reads.of_own (own_next HM.out.o6 HBI.out)) hlt
          rw [List.getElem?_map, hpk] at hu2
          obtain rfl : bW B[k] = u := Option.some.inj hu2
          have LT := Lib.hid (show lastAt (B.take (k + 1)) n = if B[k].n = n then (B[k].w : Int) else lastAt (B.take k) n by
            rw [List.take_add_one, hpk]; exact lastAt_push _ _ _)
          generalize B[k] = x at hcn hcw LT hpk
          clear hu hu2 hpk
          simp only [bN, bW] at hcn hcw
          have HCW := Lib.hid hcw
          have HLT := Lib.hid (show k < B.length ∧ B.length ≤ 200 from ⟨hlt, by have := FEW.out; omega⟩)
          have x3 : wr.cell? ⟨b7, 3, none⟩ = some (.int .i64 n) := (H7.out.next HBI.out).cell 3
          clear hcw x0
          by_cases hxn : x.n = n
          · rw [if_pos hxn] at LT
            have ff : (x.n == n) = true := beq_iff_eq.2 hxn
            clear hxn
            go_wp2_with fail
            go_quiet (fail)
            have hbi := below_drewN HBI.out nq
            have hcw : (wr.drewN nq).cell? (adw.add k) = some (.int .i64 (x.w : Int)) := HCW.out
            clear hcn x3 HBI HCW
            generalize wr.drewN nq = w3 at hbi hcw ⊢
            have HBI := Lib.hid hbi
            clear hbi
            go_wp2_with fail
            go_roundw
            case rel => exact ⟨k + 1, HLT.out.1, wrap_succ HLT.out.1 HLT.out.2, by rw [LT.out], HBI.out⟩
            case measure => exact meas_succ HLT.out.1 HLT.out.2
          · rw [if_neg hxn] at LT
            have ff : (x.n == n) = false := beq_false_of_ne hxn
            clear hxn
            go_wp2_with fail
            go_quiet (fail)
            have hbi := below_drewN HBI.out nq
            clear hcn x3 HBI HCW
            generalize wr.drewN nq = w3 at hbi ⊢
            have HBI := Lib.hid hbi
            clear hbi
            go_wp2_with fail
            go_roundw
            case rel => exact ⟨k + 1, HLT.out.1, wrap_succ HLT.out.1 HLT.out.2, by rw [LT.out], HBI.out⟩
            case measure => exact meas_succ HLT.out.1 HLT.out.2
        · obtain rfl : k = B.length := by omega
          have hlk : ¬ ((B.length : Int) < (B.length : Int)) := by omega
          rw [List.take_length]
          clear hk hlt x0
          rcases lastAt_cases B n with ⟨hl, hno⟩ | ⟨x, hx, hxn, hl⟩
          · rw [hl]
            have HI6 := Lib.hid (MI.out.bind eS.out (fun x hx e => absurd e (hno x hx)))
            have HM5 := Lib.hid (HM.out.next HBI.out)
            have H75 := Lib.hid (H7.out.next HBI.out)
            have HX5 := Lib.hid (HX.out.next HBI.out)
            have HB5 := Lib.hid (next_ HBw.out HBI.out)
            clear hl hno HBI H7 HX HM HBw
            generalize wr = w5 at HM5 H75 HX5 HB5 ⊢
            go_upto_region 18 with fail
            refine reg25b W w5 _ _ _ _ b7 xb q.j q.i B Q _ q.T HM5.out H75.out HX5.out HB5.out (by have := FEW.out; omega) (fun _ _ d _ _ h => by cases d <;> exact h) ?_
            intro A5' A6' w6 v84 v85 v86 v87 v88 v89 v90 v91 v92 v93 hM6 hb6
            have HM6 := Lib.hid hM6
            have HB6 := Lib.hid hb6
            clear hM6 hb6
            go_wp2_with fail
            go_roundw
            case rel => exact ⟨_, _, _, HI6.out, HM6.out, rfl, HB6.out⟩
            case measure => exact MRel.less ⟨_, _, HI6.out, HM6.out, rfl, HB6.out⟩ (by rw [ML.out, ← HT.out, tot_append, tot_one]; have := q.S.size_pos; omega)
          · rw [hl]
            have BO := Lib.hid (MI.out.bok x hx)
            have XM := Lib.hid (show x ∈ B ∧ x.n = n from ⟨hx, hxn⟩)
            have HM5 := Lib.hid (HM.out.next HBI.out)
            have H75 := Lib.hid (H7.out.next HBI.out)
            have HX5 := Lib.hid (HX.out.next HBI.out)
            have HB5 := Lib.hid (next_ HBw.out HBI.out)
            have y1 := HX5.out.cell 1
            have hxw : ¬ ((x.w : Int) < 0) := by omega
            have hxw0 : (0 : Int) ≤ (x.w : Int) := by omega
            clear hl hx hxn HBI H7 HX HM HBw
            go_wp2_with fail
            refine (c38 _ x.U q.T x.w q.j _ (Nat.le_refl _) BO.out.1 WT.out BO.out.2 AT.out (HB.out.next HB5.out)).mono ?_
            rintro e w5 ⟨rfl, hb5⟩
            have HM5 := Lib.hid (HM5.out.next hb5)
            have H75 := Lib.hid (H75.out.next hb5)
            have HX5 := Lib.hid (HX5.out.next hb5)
            have HB5 := Lib.hid (next_ HB5.out hb5)
            clear y1 hxw hb5
            by_cases hu : x.U = q.T
            · have HI6 := Lib.hid (MI.out.bind eS.out (fun y hy e => (MI.out.fn y hy x XM.out.1 (e.trans XM.out.2.symm)).trans hu))
              rw [decide_eq_true hu]
              clear hu
              go_upto_region 18 with fail
              refine reg25b W w5 _ _ _ _ b7 xb q.j q.i B Q _ q.T HM5.out H75.out HX5.out HB5.out (by have := FEW.out; omega) (fun _ _ d _ _ h => by cases d <;> exact h) ?_
              intro A5' A6' w6 v84 v85 v86 v87 v88 v89 v90 v91 v92 v93 hM6 hb6
              have HM6 := Lib.hid hM6
              have HB6 := Lib.hid hb6
              clear hM6 hb6
              go_wp2_with fail
              go_roundw
              case rel => exact ⟨_, _, _, HI6.out, HM6.out, rfl, HB6.out⟩
              case measure => exact MRel.less ⟨_, _, HI6.out, HM6.out, rfl, HB6.out⟩ (by rw [ML.out, ← HT.out, tot_append, tot_one]; have := q.S.size_pos; omega)
            · have HR := Lib.hid (MI.out.clash eS.out XM.out.1 XM.out.2 hu)
              rw [decide_eq_false hu]
              clear hu
              go_wp2_with fail
              go_ret
              exact MatchEnd.no HR.out HB5.out
    · have hnv : ∀ n, q.S ≠ .var n := fun n e => hv ⟨n, e⟩
      have hk11 : (p.k == 11) = false := beq_false_of_ne (by rw [F3.out.1]; exact nonvar_kind WS.out hnv)
      have HNV := Lib.hid hnv
      have H7 := Lib.hid h7
      have H8 := Lib.hid h8
      clear hv hnv h7 h8
      obtain ⟨pk, pa, pb, pn, pt⟩ := p
      obtain ⟨qk, qa, qb, qn, qt⟩ := p'
      simp only at hk11
      have F3' := Lib.hid (show pk = q.S.kind ∧ pt = q.S.text ∧ pn = q.S.num from F3.out)
      have F4' := Lib.hid (show qk = q.T.kind ∧ qt = q.T.text ∧ qn = q.T.num from F4.out)
      clear F3 F4
      by_cases hk : pk = qk
      · have f1 : (pk != qk) = false := bne_eq_false_iff_eq.2 hk
        by_cases ht : pt = qt
        · have f2 : (pt == qt) = true := beq_iff_eq.2 ht
          have hnT : ∀ n, q.T ≠ .var n := fun n e => nonvar_kind WS.out HNV.out (by rw [← F3'.out.1, hk, F4'.out.1, e]; rfl)
          have hsame := Ty.same WS.out WT.out (by rw [← F3'.out.1, ← F4'.out.1, hk]) (by rw [← F3'.out.2.1, ← F4'.out.2.1, ht]) (by rw [num_zero HNV.out, num_zero hnT])
          clear hnT
          rcases hsame with ⟨k7, k9, k6, k8, hUV⟩ | ⟨k, s, s', hk', hS, hT⟩ | ⟨k, s, u, s', u', hk', hS, hT⟩
          · obtain ⟨k, t, hS⟩ := leaf_of WS.out HNV.out k7 k9 k6 k8
            have HI6 := Lib.hid (MI.out.leaf hS (hUV.symm.trans hS))
            have HKK := Lib.hid (show kids pk = 0 by rw [F3'.out.1]; exact kids_zero WS.out k7 k9 k6 k8)
            have x0 : w1.cell? ⟨b7, 0, none⟩ = some (.int .i64 pk) := H7.out.cell 0
            have x1 : w1.cell? ⟨b7, 1, none⟩ = some (.int .i64 pa) := H7.out.cell 1
            have x2 : w1.cell? ⟨b7, 2, none⟩ = some (.int .i64 pb) := H7.out.cell 2
            have x3 : w1.cell? ⟨b7, 3, none⟩ = some (.int .i64 pn) := H7.out.cell 3
            have x4 : w1.cell? ⟨b7, 4, none⟩ = some (strV pt) := H7.out.cell 4
            have y0 : w1.cell? ⟨b8, 0, none⟩ = some (.int .i64 qk) := H8.out.cell 0
            have y1 : w1.cell? ⟨b8, 1, none⟩ = some (.int .i64 qa) := H8.out.cell 1
            have y2 : w1.cell? ⟨b8, 2, none⟩ = some (.int .i64 qb) := H8.out.cell 2
            have y3 : w1.cell? ⟨b8, 3, none⟩ = some (.int .i64 qn) := H8.out.cell 3
            have y4 : w1.cell? ⟨b8, 4, none⟩ = some (strV qt) := H8.out.cell 4
            clear hk ht k7 k9 k6 k8 hUV hS
            go_wp2_with fail
            refine (c27 pk _).mono ?_
            rintro e wk ⟨rfl, rfl⟩
            rw [HKK.out]
            go_wp2_with fail
            go_roundw
            case rel => exact ⟨_, _, _, HI6.out, HM.out, rfl, HBw.out⟩
            case measure => exact MRel.less ⟨_, _, HI6.out, HM.out, rfl, HBw.out⟩ (by rw [ML.out, ← HT.out, tot_append, tot_one]; have := q.S.size_pos; omega)
          · obtain ⟨j1, j2, l1, l2, hI6⟩ := MI.out.one hS hT
            have ep := Option.some.inj (F1.out.symm.trans l1)
            have eq := Option.some.inj (F2.out.symm.trans l2)
            injection ep with p1 p2 p3 p4 p5
            injection eq with q1 q2 q3 q4 q5
            have HSz := Lib.hid (show q.S.size = s.size + 1 by rw [hS]; rfl)
            have HKK := Lib.hid (show kids pk = 1 by rw [p1]; exact kids_one hk')
            have HI6 := Lib.hid hI6
            subst p2 p3 p4 p5 q2 q3 q4 q5
            subst hk
            have f2 : (([] : List UInt8) == []) = true := rfl
            clear p1 q1 l1 l2 hI6 hS hT hk' ht
            obtain ⟨i63, fi63, hz0, hz1, hz2⟩ := info_parts pair_info
            have H63 := Lib.hid (show i63.zero = some (.agg #[.int .i64 0, .int .i64 0]) ∧ i63.size = 2 ∧ i63.bytes = 16 from ⟨hz0, hz1, hz2⟩)
            have hxs : W.heap.size ≤ w1.heap.size := HBw.out.size
            have hqf : Q.length + 1 ≤ 200 := by have h1 := FEW.out; have h2 := tot_len (Q ++ [q]); rw [show (Q ++ [q]).length = Q.length + 1 by simp] at h2; omega
            clear hz0 hz1 hz2
            have x0 : w1.cell? ⟨b7, 0, none⟩ = some (.int .i64 pk) := H7.out.cell 0
            have x1 : w1.cell? ⟨b7, 1, none⟩ = some (.int .i64 (j1 : Int)) := H7.out.cell 1
            have x2 : w1.cell? ⟨b7, 2, none⟩ = some (.int .i64 0) := H7.out.cell 2
            have x3 : w1.cell? ⟨b7, 3, none⟩ = some (.int .i64 0) := H7.out.cell 3
            have x4 : w1.cell? ⟨b7, 4, none⟩ = some (strV []) := H7.out.cell 4
            have y0 : w1.cell? ⟨b8, 0, none⟩ = some (.int .i64 pk) := H8.out.cell 0
            have y1 : w1.cell? ⟨b8, 1, none⟩ = some (.int .i64 (j2 : Int)) := H8.out.cell 1
            have y2 : w1.cell? ⟨b8, 2, none⟩ = some (.int .i64 0) := H8.out.cell 2
            have y3 : w1.cell? ⟨b8, 3, none⟩ = some (.int .i64 0) := H8.out.cell 3
            have y4 : w1.cell? ⟨b8, 4, none⟩ = some (strV []) := H8.out.cell 4
            go_upto_region 21 with fail
            go_wp2_with fail
            refine (c27 pk _).mono ?_
            rintro e wk ⟨rfl, rfl⟩
            rw [HKK.out]
            go_upto_region 23 with fail
            go_wp2_with (at_builtin; refine wpList_append_any _ rfl (.tmp 111) (.tmp 117) 64 rfl W.heap.size 63 i63 _ 2 16 Tryd.underlying64 fi63 H63.out.1 H63.out.2.1 H63.out.2.2 rfl (by omega) (.slice (some ad7) Q.length c7) Q.length (Q.flatMap qC) rfl (own_next HM.out.o7 (below_new _ _)) ((w1).heap.size + 1) (some ⟨(w1).heap.size, 0, none⟩) 1 1 (pairC (j1, j2)) rfl (reads_pair (w1) (j1, j2) (w1).heap.size rfl) (pair_one (j1, j2)) (by unfold maxLen; omega) (by omega) (by rw [World.size_alloc]; omega) ?_; intro v9 w9 oA gA _; obtain ⟨A9, c9, rfl⟩ := own_form oA; have HO9 := Lib.hid oA; have HG9 := Lib.hid gA; clear oA gA)
            go_roundw
            case rel => exact ⟨_, _, _, HI6.out, HM.out.push7 HO9.out HG9.out, rfl, HM.out.below7 HBw.out HG9.out⟩
            case measure => exact MRel.less ⟨_, _, HI6.out, HM.out.push7 HO9.out HG9.out, rfl, HM.out.below7 HBw.out HG9.out⟩ (by rw [ML.out, ← HT.out, tot_append, tot_append, tot_one, tot_one]; have := HSz.out; simp only; omega)
          · obtain ⟨j1, g1, j2, g2, l1, l2, hI6⟩ := MI.out.two hS hT
            have ep := Option.some.inj (F1.out.symm.trans l1)
            have eq := Option.some.inj (F2.out.symm.trans l2)
            injection ep with p1 p2 p3 p4 p5
            injection eq with q1 q2 q3 q4 q5
            have HSz := Lib.hid (show q.S.size = s.size + u.size + 1 by rw [hS]; rfl)
            have HKK := Lib.hid (show kids pk = 2 by rw [p1]; exact kids_two hk')
            have HI6 := Lib.hid hI6
            subst p2 p3 p4 p5 q2 q3 q4 q5
            subst hk
            have f2 : (([] : List UInt8) == []) = true := rfl
            clear p1 q1 l1 l2 hI6 hS hT hk' ht
            obtain ⟨i63, fi63, hz0, hz1, hz2⟩ := info_parts pair_info
            have H63 := Lib.hid (show i63.zero = some (.agg #[.int .i64 0, .int .i64 0]) ∧ i63.size = 2 ∧ i63.bytes = 16 from ⟨hz0, hz1, hz2⟩)
            have hxs : W.heap.size ≤ w1.heap.size := HBw.out.size
            have hqf : Q.length + 1 ≤ 200 := by have h1 := FEW.out; have h2 := tot_len (Q ++ [q]); rw [show (Q ++ [q]).length = Q.length + 1 by simp] at h2; omega
            clear hz0 hz1 hz2
            have x0 : w1.cell? ⟨b7, 0, none⟩ = some (.int .i64 pk) := H7.out.cell 0
            have x1 : w1.cell? ⟨b7, 1, none⟩ = some (.int .i64 (j1 : Int)) := H7.out.cell 1
            have x2 : w1.cell? ⟨b7, 2, none⟩ = some (.int .i64 (g1 : Int)) := H7.out.cell 2
            have x3 : w1.cell? ⟨b7, 3, none⟩ = some (.int .i64 0) := H7.out.cell 3
            have x4 : w1.cell? ⟨b7, 4, none⟩ = some (strV []) := H7.out.cell 4
            have y0 : w1.cell? ⟨b8, 0, none⟩ = some (.int .i64 pk) := H8.out.cell 0
            have y1 : w1.cell? ⟨b8, 1, none⟩ = some (.int .i64 (j2 : Int)) := H8.out.cell 1
            have y2 : w1.cell? ⟨b8, 2, none⟩ = some (.int .i64 (g2 : Int)) := H8.out.cell 2
            have y3 : w1.cell? ⟨b8, 3, none⟩ = some (.int .i64 0) := H8.out.cell 3
            have y4 : w1.cell? ⟨b8, 4, none⟩ = some (strV []) := H8.out.cell 4
            go_upto_region 21 with fail
            go_wp2_with fail
            refine (c27 pk _).mono ?_
            rintro e wk ⟨rfl, rfl⟩
            rw [HKK.out]
            go_upto_region 23 with fail
            go_upto_region 24 with (at_builtin; refine wpList_append_any _ rfl (.tmp 111) (.tmp 117) 64 rfl W.heap.size 63 i63 _ 2 16 Tryd.underlying64 fi63 H63.out.1 H63.out.2.1 H63.out.2.2 rfl (by omega) (.slice (some ad7) Q.length c7) Q.length (Q.flatMap qC) rfl (own_next HM.out.o7 (below_new _ _)) ((w1).heap.size + 1) (some ⟨(w1).heap.size, 0, none⟩) 1 1 (pairC (j1, j2)) rfl (reads_pair (w1) (j1, j2) (w1).heap.size rfl) (pair_one (j1, j2)) (by unfold maxLen; omega) (by omega) (by rw [World.size_alloc]; omega) ?_; intro v9 w9 oA gA _; obtain ⟨A9, c9, rfl⟩ := own_form oA; have HO9 := Lib.hid oA; have HG9 := Lib.hid gA; clear oA gA)
            have HM9 := Lib.hid (HM.out.push7 (q := ⟨j1, j2, s, s'⟩) HO9.out HG9.out)
            have H79 := Lib.hid (HM.out.far7 H7.out HG9.out)
            have H89 := Lib.hid (HM.out.far7 H8.out HG9.out)
            have HB9 := Lib.hid (HM.out.below7 HBw.out HG9.out)
            have hl9 : (Q ++ [(⟨j1, j2, s, s'⟩ : QP)]).length = Q.length + 1 := by simp
            have hxs9 : W.heap.size ≤ w9.heap.size := HB9.out.size
            clear x0 x1 x2 x3 x4 y0 y1 y2 y3 y4 hxs
            have x2 : w9.cell? ⟨b7, 2, none⟩ = some (.int .i64 (g1 : Int)) := H79.out.cell 2
            have y2 : w9.cell? ⟨b8, 2, none⟩ = some (.int .i64 (g2 : Int)) := H89.out.cell 2
            have HL9 := Lib.hid hl9
            clear hl9
            go_upto_region 25 with fail
            go_wp2_with (at_builtin; refine wpList_append_any _ rfl (.tmp 121) (.tmp 127) 64 rfl W.heap.size 63 i63 _ 2 16 Tryd.underlying64 fi63 H63.out.1 H63.out.2.1 H63.out.2.2 rfl (by omega) (.slice A9 (Q.length + 1) c9) (Q ++ [(⟨j1, j2, s, s'⟩ : QP)]).length ((Q ++ [(⟨j1, j2, s, s'⟩ : QP)]).flatMap qC) rfl (own_next HM9.out.o7 (below_new _ _)) ((w9).heap.size + 1) (some ⟨(w9).heap.size, 0, none⟩) 1 1 (pairC (g1, g2)) rfl (reads_pair (w9) (g1, g2) (w9).heap.size rfl) (pair_one (g1, g2)) (by rw [HL9.out]; unfold maxLen; omega) (by rw [HL9.out]; omega) (by rw [World.size_alloc]; omega) ?_; intro v8 w8 oA gA _; obtain ⟨A8, c8, rfl⟩ := own_form oA; have HO8 := Lib.hid oA; have HG8 := Lib.hid gA; clear oA gA)
            have HO8 := Lib.hid (show w8.ownsRow W.heap.size 63 2 (.slice A8 (Q.length + 1 + 1) c8) ((Q ++ [(⟨j1, j2, s, s'⟩ : QP)]).length + 1) ((Q ++ [(⟨j1, j2, s, s'⟩ : QP)]).flatMap qC ++ qC ⟨g1, g2, u, u'⟩) from by have h := HO8.out; have e := HL9.out; rw [e] at h ⊢; exact h)
            go_roundw
            case rel => exact ⟨_, _, _, HI6.out, HM9.out.push7 HO8.out HG8.out, rfl, HM9.out.below7 HB9.out HG8.out⟩
            case measure => exact MRel.less ⟨_, _, HI6.out, HM9.out.push7 HO8.out HG8.out, rfl, HM9.out.below7 HB9.out HG8.out⟩ (by rw [ML.out, ← HT.out, tot_append, tot_append, tot_append, tot_one, tot_one, tot_one]; have := HSz.out; simp only; omega)
        · have f2 : (pt == qt) = false := beq_false_of_ne ht
          have HR := Lib.hid (MI.out.head HNV.out (.inr (by rw [← F3'.out.2.1, ← F4'.out.2.1]; exact ht)))
          have x0 : w1.cell? ⟨b7, 0, none⟩ = some (.int .i64 pk) := H7.out.cell 0
          have x1 : w1.cell? ⟨b7, 1, none⟩ = some (.int .i64 pa) := H7.out.cell 1
          have x2 : w1.cell? ⟨b7, 2, none⟩ = some (.int .i64 pb) := H7.out.cell 2
          have x3 : w1.cell? ⟨b7, 3, none⟩ = some (.int .i64 pn) := H7.out.cell 3
          have x4 : w1.cell? ⟨b7, 4, none⟩ = some (strV pt) := H7.out.cell 4
          have y0 : w1.cell? ⟨b8, 0, none⟩ = some (.int .i64 qk) := H8.out.cell 0
          have y1 : w1.cell? ⟨b8, 1, none⟩ = some (.int .i64 qa) := H8.out.cell 1
          have y2 : w1.cell? ⟨b8, 2, none⟩ = some (.int .i64 qb) := H8.out.cell 2
          have y3 : w1.cell? ⟨b8, 3, none⟩ = some (.int .i64 qn) := H8.out.cell 3
          have y4 : w1.cell? ⟨b8, 4, none⟩ = some (strV qt) := H8.out.cell 4
          clear hk ht
          go_wp2_with fail
          go_ret
          exact MatchEnd.no HR.out HBw.out
      · have f1 : (pk != qk) = true := bne_iff_ne.2 hk
        have HR := Lib.hid (MI.out.head HNV.out (.inl (by rw [← F3'.out.1, ← F4'.out.1]; exact hk)))
        have x0 : w1.cell? ⟨b7, 0, none⟩ = some (.int .i64 pk) := H7.out.cell 0
        have x1 : w1.cell? ⟨b7, 1, none⟩ = some (.int .i64 pa) := H7.out.cell 1
        have x2 : w1.cell? ⟨b7, 2, none⟩ = some (.int .i64 pb) := H7.out.cell 2
        have x3 : w1.cell? ⟨b7, 3, none⟩ = some (.int .i64 pn) := H7.out.cell 3
        have x4 : w1.cell? ⟨b7, 4, none⟩ = some (strV pt) := H7.out.cell 4
        have y0 : w1.cell? ⟨b8, 0, none⟩ = some (.int .i64 qk) := H8.out.cell 0
        have y1 : w1.cell? ⟨b8, 1, none⟩ = some (.int .i64 qa) := H8.out.cell 1
        have y2 : w1.cell? ⟨b8, 2, none⟩ = some (.int .i64 qb) := H8.out.cell 2
        have y3 : w1.cell? ⟨b8, 3, none⟩ = some (.int .i64 qn) := H8.out.cell 3
        have y4 : w1.cell? ⟨b8, 4, none⟩ = some (strV qt) := H8.out.cell 4
        clear hk
        go_wp2_with fail
        go_ret
        exact MatchEnd.no HR.out HBw.out
end Go.Proofs.YtcilodgpbdafeaaDoor
