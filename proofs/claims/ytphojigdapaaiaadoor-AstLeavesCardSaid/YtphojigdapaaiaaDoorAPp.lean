/- Plain laws: Plus is a tree; a node more that is nobody's child, or that has the root twice, makes none. -/
import Derived.Test.YtphojigdapaaiaaDoorADp
import Derived.Test.YtphojigdapaaiaaDoorASm
namespace Go.Proofs.YtphojigdapaaiaaDoor
open Go.ChangeShapes Go.WideShapes Go.ChangeAt Go.RowKit
set_option linter.unusedVariables false
set_option linter.unusedSimpArgs false
def plusV (h n : Int) : Tre := ⟨[⟨5, [120], [], 0, 0, 0, 0, h⟩, ⟨1, [], [], n, 0, 0, 0, 0⟩, ⟨15, [], [], 12, 0, 1, 0, 0⟩, ⟨10, [120], [], 0, 2, 0, 0, 0⟩], [], 3⟩
theorem plus_nodes (h n : Int) : NodesOk (plusV h n) 4 := by
  intro i hi x hx
  rcases (by omega : i = 0 ∨ i = 1 ∨ i = 2 ∨ i = 3) with rfl | rfl | rfl | rfl
  all_goals
    obtain rfl := Option.some.inj hx
    refine ⟨rfl, rfl, rfl, rfl⟩
theorem plus_ends (h n : Int) : psEnd (plusV h n) = [1, 1, 1, 1] := by kernel_rfl
theorem plus_good (h n : Int) : GoodN (plusV h n) :=
  ⟨by show 1 ≤ 4; omega, by show 4 ≤ 500; omega, rfl, plus_nodes h n, fun i hi => absurd (show i < 0 from hi) (by omega), fun v hv => by
    rw [plus_ends] at hv
    simpa using hv, fun x hx => by
    obtain rfl := Option.some.inj hx
    rfl⟩
theorem isL_x : isL [120] 1 = true := by decide
theorem plus_sure (h n : Int) (h0 : 0 ≤ n) (h1 : n ≤ 4611686018427387903) : SureAll (plusV h n) := by
  intro x hx
  simp only [plusV, List.mem_cons, List.not_mem_nil, or_false] at hx
  rcases hx with rfl | rfl | rfl | rfl
  · exact ⟨by show (0 : Int) ≤ 0; omega, by show (0 : Int) ≤ 0; omega, by show (1 : Int) ≠ 4; omega, by show (0 : Int) ≠ 4; omega, isL_x, rfl, by show (5 : Int) ≠ 24; omega, by show (5 : Int) ≠ 25; omega, fun h => absurd (show (5 : Int) = 15 from h) (by omega)⟩
  · exact ⟨h0, h1, by show (0 : Int) ≠ 4; omega, by show (0 : Int) ≠ 4; omega, rfl, rfl, by show (1 : Int) ≠ 24; omega, by show (1 : Int) ≠ 25; omega, fun h => absurd (show (1 : Int) = 15 from h) (by omega)⟩
  · exact ⟨by show (0 : Int) ≤ 12; omega, by show (12 : Int) ≤ 38; omega, by show (0 : Int) ≠ 4; omega, by show (0 : Int) ≠ 4; omega, rfl, rfl, by show (15 : Int) ≠ 24; omega, by show (15 : Int) ≠ 25; omega, fun _ => rfl⟩
  · exact ⟨by show (0 : Int) ≤ 0; omega, by show (0 : Int) ≤ 0; omega, by show (2 : Int) ≠ 4; omega, by show (0 : Int) ≠ 4; omega, by show (([120] : List UInt8) == [95] || isL [120] 1) = true; rw [isL_x]; rfl, rfl, by show (10 : Int) ≠ 24; omega, by show (10 : Int) ≠ 25; omega, fun h => absurd (show (10 : Int) = 15 from h) (by omega)⟩
theorem plus_deep (h n : Int) : deepL (plusV h n) = 3 := by kernel_rfl
/-- A node more, that is the root. -/
def ext (a : Tre) (z : Nod) : Tre := ⟨a.l ++ [z], a.y, (a.l.length : Int)⟩
theorem bumpL_far (is at_ : Int) {me j : Nat} (h : me ≤ j) (ps : List Int) : (bumpL is at_ me ps).getD j 0 = ps.getD j 0 := by
  unfold bumpL
  split
  · rfl
  · split
    · rfl
    · split
      case isTrue h1 =>
        have hne : at_.toNat ≠ j := by omega
        rw [List.getD_eq_getElem?_getD, List.getD_eq_getElem?_getD, List.getElem?_modify]
        cases ps[j]? <;> simp [hne]
      case isFalse => rfl
theorem psAll_far (t : Tre) {j : Nat} : ∀ k, k ≤ j + 1 → (psAll t k).getD j 0 = 0 := by
  intro k
  induction k with
  | zero =>
    intro _
    simp only [psAll, List.getD_eq_getElem?_getD]
    rw [List.getElem?_replicate]
    split <;> rfl
  | succ k ih =>
    intro hk
    unfold psAll
    split
    · unfold psK
      simp only
      rw [bumpL_far _ _ (by omega), bumpL_far _ _ (by omega), bumpL_far _ _ (by omega)]
      exact ih (by omega)
    · exact ih (by omega)
theorem psY_far (j : Nat) : ∀ (ys : List Int) (ps : List Int), (∀ k ∈ ys, k.toNat ≠ j) → (psY ps ys).getD j 0 = ps.getD j 0 := by
  intro ys
  induction ys with
  | nil => intro ps _; rfl
  | cons y ys ih =>
    intro ps h
    show (psY (ps.modify y.toNat bump) ys).getD j 0 = _
    rw [ih _ fun k hk => h k (List.mem_cons_of_mem _ hk)]
    have hne := h y (List.mem_cons_self ..)
    rw [List.getD_eq_getElem?_getD, List.getD_eq_getElem?_getD, List.getElem?_modify]
    cases ps[j]? <;> simp [hne]
/-- How often the old root is had. -/
theorem ext_count {a : Tre} {z : Nod} (ha : RefN a) (hg : GoodN (ext a z)) : (psAll (ext a z) (a.l.length + 1)).getD (a.l.length - 1) 0 = 1 := by
  have hn := ha.n1
  have h1 := hg.ones
  have hlen : (ext a z).l.length = a.l.length + 1 := by simp [ext]
  have hpl : (psEnd (ext a z)).length = a.l.length + 1 := by unfold psEnd; rw [List.length_modify, psY_len, psAll_len, hlen]
  have hv := h1 ((psEnd (ext a z))[a.l.length - 1]'(by omega)) (List.getElem_mem _)
  have hroot : (a.l[a.l.length - 1]'(by omega)).k ≠ 42 := by
    intro h
    have h2 := ha.is_ _ (List.getElem?_eq_getElem (l := a.l) (i := a.l.length - 1) (by omega))
    rw [h] at h2
    exact absurd h2 (by decide)
  have hy : ∀ k ∈ (ext a z).y, k.toNat ≠ a.l.length - 1 := by
    intro k hk he
    obtain ⟨i, hi, hik⟩ := List.mem_iff_getElem.1 hk
    obtain ⟨_, _, x, hx, hx42⟩ := hg.types i hi k (by rw [List.getElem?_eq_getElem hi, hik])
    rw [he] at hx
    have h3 : (ext a z).l[a.l.length - 1]? = some (a.l[a.l.length - 1]'(by omega)) := by
      show (a.l ++ [z])[a.l.length - 1]? = _
      rw [List.getElem?_append_left (by omega), List.getElem?_eq_getElem]
    rw [h3] at hx
    have e9 := Option.some.inj hx
    rw [← e9] at hx42
    exact hroot hx42
  have h4 : (psEnd (ext a z)).getD (a.l.length - 1) 0 = (psAll (ext a z) (a.l.length + 1)).getD (a.l.length - 1) 0 := by
    unfold psEnd
    have hne : (ext a z).r.toNat ≠ a.l.length - 1 := by show ((a.l.length : Int)).toNat ≠ _; omega
    rw [← psY_far _ _ (psAll (ext a z) (a.l.length + 1)) hy, hlen, List.getD_eq_getElem?_getD, List.getElem?_modify, List.getD_eq_getElem?_getD]
    cases (psY (psAll (ext a z) (a.l.length + 1)) (ext a z).y)[a.l.length - 1]? <;> simp [hne]
  rw [← h4, List.getD_eq_getElem?_getD, List.getElem?_eq_getElem (by omega)]
  exact hv
theorem ext_last (a : Tre) (z : Nod) : psAll (ext a z) (a.l.length + 1) = psK (ofL z).1 z a.l.length (psAll (ext a z) a.l.length) 3 := by
  show (match (ext a z).l[a.l.length]? with | some x => psK (ofL x).1 x a.l.length (psAll (ext a z) a.l.length) 3 | none => psAll (ext a z) a.l.length) = _
  rw [show (ext a z).l[a.l.length]? = some z by show (a.l ++ [z])[a.l.length]? = _; simp]
/-- A node more without children is no tree. -/
theorem no_leaf {a : Tre} {z : Nod} (ha : RefN a) (h0 : (ofL z).1.a = 0) (h1 : (ofL z).1.b = 0) (h2 : (ofL z).1.c = 0) : ¬ GoodN (ext a z) := by
  intro hg
  have h3 := ext_count ha hg
  rw [ext_last] at h3
  unfold psK at h3
  simp only [h0, h1, h2] at h3
  have hb : ∀ at_ me ps, bumpL 0 at_ me ps = ps := fun _ _ _ => rfl
  rw [hb, hb, hb, psAll_far _ _ (by have := ha.n1; omega)] at h3
  exact absurd h3 (by decide)
/-- Nor is a pair of the old root with itself. -/
theorem no_twice {a : Tre} {z : Nod} (ha : RefN a) (h0 : (ofL z).1.a = 101) (h1 : (ofL z).1.b = 101) (h2 : (ofL z).1.c = 0) (hza : z.a = a.r) (hzb : z.b = a.r) : ¬ GoodN (ext a z) := by
  intro hg
  have hn := ha.n1
  have h3 := ext_count ha hg
  rw [ext_last] at h3
  unfold psK at h3
  simp only [h0, h1, h2, hza, hzb] at h3
  have hb : ∀ at_ me ps, bumpL 0 at_ me ps = ps := fun _ _ _ => rfl
  rw [hb] at h3
  have hr : a.r.toNat = a.l.length - 1 := by have := ha.root; omega
  have hlen : (psAll (ext a z) a.l.length).length = a.l.length + 1 := by rw [psAll_len]; simp [ext]
  have hbb : ∀ ps, bumpL 101 a.r a.l.length ps = ps.modify (a.l.length - 1) bump := fun ps => by
    unfold bumpL
    rw [if_neg (by decide), if_neg (by rintro ⟨h, _⟩; exact absurd h (by decide)), if_pos (by have := ha.root; omega), hr]
  rw [hbb, hbb] at h3
  have h5 := psAll_far (ext a z) (j := a.l.length - 1) a.l.length (by omega)
  rw [List.getD_eq_getElem?_getD, List.getElem?_eq_getElem (by omega)] at h5
  rw [List.getD_eq_getElem?_getD, List.getElem?_modify, List.getElem?_modify, List.getElem?_eq_getElem (by omega)] at h3
  simp only [Option.getD_some] at h5
  simp only [if_true, Option.map_eq_map, Option.map_some, Option.getD_some, h5] at h3
  rw [show bump (bump 0) = 2 by kernel_rfl] at h3
  exact absurd h3 (by decide)
end Go.Proofs.YtphojigdapaaiaaDoor
