/- Rows of the call's own, blocks, and small reads; lists of rows (turned from seat b's Lite, Pro, Frm, Open). -/
import Derived.Test.YtphojigdapaaiaaDoorOps
import Derived.Deep.RegionLaw
import Derived.Deep.RegionHeld3
import Derived.WalkSpells
namespace Go.Proofs.YtphojigdapaaiaaDoor
open Go.ChangeShapes Go.WideShapes Go.ChangeAt Go.RowKit
abbrev strV (l : List UInt8) : Value := .string ⟨l.toArray⟩
abbrev byV (b : UInt8) : Value := .int .u8 (b.toNat : Int)
def cellsB (l : List UInt8) : List Value := l.map byV
theorem grown_set (w : World) (g i : Nat) (v : Value) : w.grownBy (w.setCell ⟨g, i, none⟩ v) (some g) :=
  ⟨rfl, rfl, rfl, by rw [World.size_setCell]; exact Nat.le_refl _, fun k _ hk => Below.heap_setCell w ⟨g, i, none⟩ v k (by intro e; exact hk (by rw [e]))⟩
theorem grown_of_below {w w' : World} (hb : Below w.heap.size w w') (row : Option Nat) : w.grownBy w' row := ⟨hb.os, hb.tape, hb.output, hb.size, fun k hk _ => hb.block k hk⟩
theorem own_next {w w' : World} {base : Nat} {e : TypeId} {size n : Nat} {v : Value} {xs : List Value} (h : w.ownsRow base e size v n xs) (hb : Below w.heap.size w w') : w'.ownsRow base e size v n xs :=
  h.kept (row := none) (grown_of_below hb none) (by cases hv : v.ownBlock <;> simp)
theorem own_form {w : World} {base : Nat} {e : TypeId} {size n : Nat} {v : Value} {xs : List Value} (h : w.ownsRow base e size v n xs) : ∃ A c, v = .slice A n c := by
  rcases h.2 with ⟨rfl, rfl⟩ | ⟨g, cap, _, rfl, _⟩
  · exact ⟨none, 0, rfl⟩
  · exact ⟨_, _, rfl⟩
section
variable {w w' : World} {base base' : Nat} {e e' : TypeId} {size size' n n' : Nat} {v v' : Value} {xs xs' : List Value}
theorem own_own_ne (h : w.ownsRow base e size v n xs) (h' : w.ownsRow base' e' size' v' n' xs') (hne : e ≠ e') : v.ownBlock = none ∨ v.ownBlock ≠ v'.ownBlock := by
  rcases h.2 with ⟨rfl, _⟩ | ⟨g, cap, cur, rfl, _, hh, _⟩
  · exact .inl rfl
  · refine .inr fun he => ?_
    rcases h'.2 with ⟨rfl, _⟩ | ⟨g', cap', cur', rfl, _, hh', _⟩
    · cases he
    · have : g = g' := by simpa [Value.ownBlock] using he
      subst this
      exact Blk.ne_ (t := e) hh hh' hne rfl
theorem own_row (h : w.ownsRow base e size v n xs) (h' : w.ownsRow base' e' size' v' n' xs') (hg : w.grownBy w' v'.ownBlock) (hne : e ≠ e') : w'.ownsRow base e size v n xs := h.kept hg (own_own_ne h h' hne)
theorem blk_row {g : Nat} {t : TypeId} {cs : Array Value} (h : Blk w g t cs) (h' : w.ownsRow base' e' size' v' n' xs') (hg : w.grownBy w' v'.ownBlock) (hne : e' ≠ t) : Blk w' g t cs := h.grown hg (fun e => own_blk_ne h' h hne e.symm)
theorem own_set {g i : Nat} {u : Value} {t : TypeId} {cs : Array Value} (h : w.ownsRow base e size v n xs) (hb : Blk w g t cs) (hne : e ≠ t) : (w.setCell ⟨g, i, none⟩ u).ownsRow base e size v n xs := h.kept (grown_set w g i u) (.inr (own_blk_ne h hb hne))
theorem own_cap {A : Option Addr} {c : Nat} (h : w.ownsRow base e size (.slice A n c) n xs) : n ≤ c ∧ c ≤ maxLen := by
  rcases h.2 with ⟨hv, rfl⟩ | ⟨g, cap, cur, hv, _, _, h1, h2, _⟩
  · injection hv with _ _ hc
    subst hc
    exact ⟨Nat.le_refl _, Nat.zero_le _⟩
  · injection hv with _ _ hc
    subst hc
    exact ⟨h1, h2⟩
end
theorem reads_row3 {w : World} {t : TypeId} {x y z : Value} {b : Nat} (h : Blk w b t #[x, y, z]) : Reads w (b + 1) 3 (some ⟨b, 0, none⟩) 1 [x, y, z] :=
  ⟨rfl, fun _ => ⟨_, rfl, Nat.lt_succ_self _, fun j u hj => by
    match j, hj with
    | 0, hj => rw [← hj]; exact h.cell 0
    | 1, hj => rw [← hj]; exact h.cell 1
    | 2, hj => rw [← hj]; exact h.cell 2⟩⟩
theorem reads_row4 {w : World} {t : TypeId} {x y z u : Value} {b : Nat} (h : Blk w b t #[x, y, z, u]) : Reads w (b + 1) 4 (some ⟨b, 0, none⟩) 1 [x, y, z, u] :=
  ⟨rfl, fun _ => ⟨_, rfl, Nat.lt_succ_self _, fun j v hj => by
    match j, hj with
    | 0, hj => rw [← hj]; exact h.cell 0
    | 1, hj => rw [← hj]; exact h.cell 1
    | 2, hj => rw [← hj]; exact h.cell 2
    | 3, hj => rw [← hj]; exact h.cell 3⟩⟩
theorem reads_blkN {w : World} {t : TypeId} {vs : List Value} {b size n : Nat} (h : Blk w b t vs.toArray) (hn : vs.length = n * size) : Reads w (b + 1) size (some ⟨b, 0, none⟩) n vs :=
  ⟨hn, fun _ => ⟨_, rfl, Nat.lt_succ_self _, fun j u hj => by
    have h1 := h.cell j
    rw [List.getElem?_toArray, hj] at h1
    unfold Addr.add
    split
    · rename_i e; subst e; exact h1
    · simpa using h1⟩⟩
theorem flatN {α : Type} (f : α → List Value) (m : Nat) (hf : ∀ x, (f x).length = m) (l : List α) : ∀ (k j : Nat) (x : α), l[k]? = some x → j < m → (l.flatMap f)[k * m + j]? = (f x)[j]? := by
  induction l with
  | nil => intro k j x hx; simp at hx
  | cons y l ih =>
    intro k j x hx hj
    cases k with
    | zero =>
      obtain rfl : y = x := by simpa using hx
      rw [List.flatMap_cons, List.getElem?_append_left (by rw [hf]; omega)]
      simp
    | succ k =>
      rw [List.flatMap_cons, List.getElem?_append_right (by rw [hf]; rw [Nat.succ_mul]; omega), hf, show (k + 1) * m + j - m = k * m + j from by rw [Nat.succ_mul]; omega]
      exact ih k j x (by simpa using hx) hj
theorem flat_len {α : Type} (f : α → List Value) (m : Nat) (hf : ∀ x, (f x).length = m) (l : List α) : (l.flatMap f).length = l.length * m := by
  induction l with
  | nil => simp
  | cons y l ih => rw [List.flatMap_cons, List.length_append, ih, hf, List.length_cons, Nat.succ_mul]; omega
theorem Reads.rowAt {α : Type} {f : α → List Value} {m : Nat} (hf : ∀ x, (f x).length = m) {w : World} {B n : Nat} {A : Option Addr} {l : List α} (h : Reads w B m A n (l.flatMap f)) (hm : 0 < m) {k : Nat} {x : α} (hk : l[k]? = some x) :
    ∃ ad, A = some ad ∧ ad.block < B ∧ ∀ j v, (f x)[j]? = some v → w.cell? ((ad.add (k * m)).add j) = some v := by
  have hlt : k < l.length := by
    rcases Nat.lt_or_ge k l.length with h1 | h1
    · exact h1
    · rw [List.getElem?_eq_none h1] at hk; cases hk
  have hn : 0 < n := by
    have h1 := h.1
    rw [flat_len f m hf] at h1
    have := Nat.eq_of_mul_eq_mul_right hm h1
    omega
  obtain ⟨ad, e, hb, hc⟩ := h.2 hn
  refine ⟨ad, e, hb, fun j v hv => ?_⟩
  rw [add_of_add]
  refine hc _ _ ?_
  have hj : j < m := by
    rcases Nat.lt_or_ge j m with h1 | h1
    · exact h1
    · rw [List.getElem?_eq_none (by rw [hf]; exact h1)] at hv; cases hv
  rw [flatN f m hf l k j x hk hj]
  exact hv
theorem drop_at {α : Type} {l : List α} {k : Nat} (h : k < l.length) : l.drop k = l[k] :: l.drop (k + 1) := List.drop_eq_getElem_cons h
theorem all_take1 {α : Type} {l : List α} {p : α → Bool} {k : Nat} (h : k < l.length) (h1 : (l.take k).all p = true) (h2 : p l[k] = true) : (l.take (k + 1)).all p = true := by
  rw [List.take_add_one, List.all_append, h1, List.getElem?_eq_getElem h]
  simp [h2]
theorem all_not1 {α : Type} {l : List α} {p : α → Bool} {k : Nat} (h : k < l.length) (h2 : p l[k] = false) : l.all p = false := by
  rw [List.all_eq_false]
  exact ⟨_, List.getElem_mem h, by simp [h2]⟩
theorem exists_list {α : Type} {P : Nat → α → Prop} : ∀ n : Nat, (∀ i, i < n → ∃ x, P i x) → ∃ L : List α, L.length = n ∧ ∀ (i : Nat) (x : α), L[i]? = some x → P i x := by
  intro n
  induction n with
  | zero => intro _; exact ⟨[], rfl, fun i x h => by simp at h⟩
  | succ n ih =>
    intro h
    obtain ⟨L, hl, hP⟩ := ih (fun i hi => h i (by omega))
    obtain ⟨y, hy⟩ := h n (by omega)
    refine ⟨L ++ [y], by simp [hl], fun i x hx => ?_⟩
    rcases Nat.lt_or_ge i n with hi | hi
    · rw [List.getElem?_append_left (by omega)] at hx
      exact hP i x hx
    · have hin : i = n := by
        have := (List.getElem?_eq_some_iff.1 hx).1
        simp [hl] at this
        omega
      subst hin
      rw [List.getElem?_append_right (by omega)] at hx
      simp [hl] at hx
      subst hx
      exact hy
theorem reads_of_cells {α : Type} {f : α → List Value} {m : Nat} (hf : ∀ x, (f x).length = m) (hm : 0 < m) {w : World} {a : Addr} {n : Nat} {L : List α} (hL : L.length = n)
    (h : ∀ i x, L[i]? = some x → ∀ j v, (f x)[j]? = some v → w.cell? (a.add (i * m + j)) = some v) : Reads w w.heap.size m (some a) n (L.flatMap f) := by
  refine ⟨by rw [flat_len f m hf, hL], fun hn => ⟨a, rfl, ?_, fun j u hu => ?_⟩⟩
  · obtain ⟨x, hx⟩ : ∃ x, L[0]? = some x := ⟨L[0]'(by omega), List.getElem?_eq_getElem (by omega)⟩
    have h0 := h 0 x hx 0 ((f x)[0]'(by rw [hf]; exact hm)) (List.getElem?_eq_getElem _)
    have := World.block_lt_of_cell? w _ h0
    rw [block_of_add] at this
    exact this
  · have hj : j < L.length * m := by
      have := (List.getElem?_eq_some_iff.1 hu).1
      rw [flat_len f m hf] at this
      exact this
    have hi : j / m < L.length := Nat.div_lt_of_lt_mul (by rw [Nat.mul_comm]; exact hj)
    have hr : j % m < m := Nat.mod_lt _ hm
    have hjm : j / m * m + j % m = j := by rw [Nat.mul_comm]; exact Nat.div_add_mod j m
    have h1 := flatN f m hf L (j / m) (j % m) _ (List.getElem?_eq_getElem hi) hr
    rw [hjm, hu] at h1
    have h2 := h (j / m) _ (List.getElem?_eq_getElem hi) (j % m) u h1.symm
    rw [hjm] at h2
    exact h2
theorem flat_single {α : Type} (f : α → Value) : ∀ l : List α, l.flatMap (fun x => [f x]) = l.map f
  | [] => rfl
  | x :: l => by rw [List.flatMap_cons, List.map_cons, flat_single f l]; rfl
end Go.Proofs.YtphojigdapaaiaaDoor
