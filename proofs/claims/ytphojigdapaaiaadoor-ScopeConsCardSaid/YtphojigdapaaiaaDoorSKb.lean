/- The source that the law of constructors builds: its tree. -/
import Derived.Test.YtphojigdapaaiaaDoorSKa
namespace Go.Proofs.YtphojigdapaaiaaDoor
open Go.ChangeShapes Go.WideShapes Go.ChangeAt Go.RowKit
set_option linter.unusedVariables false
set_option linter.unusedSimpArgs false
def tokIs (k : Int) (s : ByteArray) (t : Tok) : Bool := t.k == k && (s == ⟨#[]⟩ || t.s == s)
section
variable {L : List Tok} {en : Int} {a : Nat} {N : List Nod} {Y : List Int} {d : Nat} {t : Tok}
theorem is_at {k : Int} {s : ByteArray} (h : L[a]? = some t) : isF k s ⟨L, en, a, N, Y, d⟩ = tokIs k s t := by unfold isF; simp only [h]; rfl
theorem is_no {k : Int} {s : ByteArray} (h : L[a]? = none) : isF k s ⟨L, en, a, N, Y, d⟩ = false := by unfold isF; simp only [h]
theorem take_at {k : Int} {s : ByteArray} (h : L[a]? = some t) (ht : tokIs k s t = true) : takeF k s ⟨L, en, a, N, Y, d⟩ = some (⟨L, en, a + 1, N, Y, d⟩, t) := by
  unfold takeF
  rw [is_at h, ht]
  simp only [h]
  rfl
theorem here_at (h : L[a]? = some t) : hereF ⟨L, en, a, N, Y, d⟩ = t.at_ := by unfold hereF; simp only [h]
theorem node_at (x : Nod) (h : N.length < 500) : nodeF x ⟨L, en, a, N, Y, d⟩ = some (⟨L, en, a, N ++ [x], Y, d⟩, (N.length : Int)) := by
  unfold nodeF req
  simp only [h, decide_true, if_true]
theorem open_at (h : d < 160) : openF ⟨L, en, a, N, Y, d⟩ = some ⟨L, en, a, N, Y, d + 1⟩ := by
  unfold openF req
  simp only [h, decide_true, if_true]
theorem close_at : closeF ⟨L, en, a, N, Y, d + 1⟩ = some ⟨L, en, a, N, Y, d⟩ := by
  unfold closeF req
  simp only [Nat.zero_lt_succ, decide_true, if_true, Nat.add_sub_cancel]
theorem req_t {α : Type} (x : Option α) : req true x = x := rfl
/-- A type of one word: string, or int. -/
theorem ty_string {p : Int} {u : Tok} (h : L[a]? = some ⟨5, sString, p⟩) (h1 : L[a + 1]? = some u) (e1 : tokIs 5 sList u = false) (e2 : tokIs 6 sStar u = false) (hN : N.length < 500) (hd : d < 100) :
    tyF ⟨L, en, a, N, Y, d⟩ = some (⟨L, en, a + 1, N ++ [⟨38, [], [], 0, 0, 0, 0, p⟩], Y, d⟩, (N.length : Int)) := by
  have f1 : tokIs 5 sInt ⟨5, sString, p⟩ = false := by kernel_rfl
  have f2 : tokIs 5 sBool ⟨5, sString, p⟩ = false := by kernel_rfl
  have f3 : tokIs 5 sUnit ⟨5, sString, p⟩ = false := by kernel_rfl
  have f4 : tokIs 5 sString ⟨5, sString, p⟩ = true := by kernel_rfl
  have f5 : tokIs 5 sE ⟨5, sString, p⟩ = true := by kernel_rfl
  unfold tyF tyatomF
  simp only [Option.bind_eq_bind, open_at (show d < 160 by omega), Option.bind_some, open_at (show d + 1 < 160 by omega), is_at h, f1, f2, f3, f4, Bool.false_eq_true, if_false, Bool.not_false, Bool.and_true, Bool.true_and, req_t, take_at h f5, here_at h, node_at _ hN, close_at, is_at h1, e1, e2]
theorem ty_int {p : Int} {u : Tok} (h : L[a]? = some ⟨5, sInt, p⟩) (h1 : L[a + 1]? = some u) (e1 : tokIs 5 sList u = false) (e2 : tokIs 6 sStar u = false) (hN : N.length < 500) (hd : d < 100) :
    tyF ⟨L, en, a, N, Y, d⟩ = some (⟨L, en, a + 1, N ++ [⟨35, [], [], 0, 0, 0, 0, p⟩], Y, d⟩, (N.length : Int)) := by
  have f1 : tokIs 5 sInt ⟨5, sInt, p⟩ = true := by kernel_rfl
  have f5 : tokIs 5 sE ⟨5, sInt, p⟩ = true := by kernel_rfl
  unfold tyF tyatomF
  simp only [Option.bind_eq_bind, open_at (show d < 160 by omega), Option.bind_some, open_at (show d + 1 < 160 by omega), is_at h, f1, if_true, take_at h f5, here_at h, node_at _ hN, close_at, is_at h1, e1, e2, Bool.not_false, Bool.and_true, req_t]
theorem of_none (h : L[a]? = some t) (e : tokIs 5 sOf t = false) : ofTyF ⟨L, en, a, N, Y, d⟩ = some (⟨L, en, a, N, Y, d⟩, -1) := by
  unfold ofTyF
  simp only [is_at h, e, Bool.false_eq_true, if_false]
theorem of_some {p : Int} (h : L[a]? = some ⟨5, sOf, p⟩) : ofTyF ⟨L, en, a, N, Y, d⟩ = tyF ⟨L, en, a + 1, N, Y, d⟩ := by
  unfold ofTyF
  have f1 : tokIs 5 sOf ⟨5, sOf, p⟩ = true := by kernel_rfl
  simp only [is_at h, f1, if_true, take_at h f1, Option.bind_eq_bind, Option.bind_some]
end
theorem get_drop {L : List Tok} {a : Nat} {t : Tok} {T : List Tok} (h : L.drop a = t :: T) : L[a]? = some t := by
  rw [← List.head?_drop, h]
  rfl
theorem drop_next {L : List Tok} {a : Nat} {t : Tok} {T : List Tok} (h : L.drop a = t :: T) : L.drop (a + 1) = T := by
  rw [← List.tail_drop, h]
  rfl
/-! ### The constructors of a type -/
def strN : Nat → Nat → List Bool → List Nod
  | _, _, [] => []
  | i, k, b :: r => (if b then [⟨38, [], [], 0, 0, 0, 0, ((cPos i k + 6 : Nat) : Int)⟩] else []) ++ strN (i + 1) (iEnd i b k) r
def accN : Nat → Nat → Nat → List Bool → List Nod
  | _, _, _, [] => []
  | i, k, n, b :: r => ⟨43, nmB i, [], 0, if b then (n : Int) else -1, 0, 0, (cPos i k : Int)⟩ :: accN (i + 1) (iEnd i b k) (if b then n + 1 else n) r
theorem is_con {i : Nat} {p : Int} {k : Int} {s : ByteArray} (h : k ≠ 2) : tokIs k s ⟨2, ⟨(nmB i).toArray⟩, p⟩ = false := by
  unfold tokIs
  rw [show ((2 : Int) == k) = false from beq_false_of_ne (fun e => h e.symm)]
  rfl
theorem con_ok {i : Nat} {p : Int} : tokIs 2 sE ⟨2, ⟨(nmB i).toArray⟩, p⟩ = true := by kernel_rfl
/-- What stands behind a constructor: a bar, or the end. -/
def Sep (t : Tok) (q : Bool) : Prop := ∃ p, t = ⟨6, if q then sBar else sSemi, p⟩
theorem sep_no {t : Tok} {q : Bool} (h : Sep t q) : tokIs 5 sOf t = false ∧ tokIs 5 sList t = false ∧ tokIs 6 sStar t = false ∧ tokIs 6 sBar t = q := by
  obtain ⟨p, rfl⟩ := h
  cases q with
  | true => exact ⟨by kernel_rfl, by kernel_rfl, by kernel_rfl, by kernel_rfl⟩
  | false => exact ⟨by kernel_rfl, by kernel_rfl, by kernel_rfl, by kernel_rfl⟩
/-- One constructor: what it leaves. -/
theorem con_step (n i : Nat) (b : Bool) (L : List Tok) (en : Int) (a k c : Nat) (N acc : List Nod) (Y : List Int) (d : Nat) (u : Tok) (T : List Tok) (q : Bool) (hu : Sep u q) (h : L.drop a = conT i b c ++ u :: T) (hN : N.length < 500) (hd : d < 100) :
    ∃ a', L.drop a' = u :: T ∧ conLoopF (n + 1) ⟨L, en, a, N, Y, d⟩ acc = (if q then conLoopF n ⟨L, en, a' + 1, N ++ (if b then [⟨38, [], [], 0, 0, 0, 0, ((c + 6 : Nat) : Int)⟩] else []), Y, d⟩ (acc ++ [⟨43, nmB i, [], 0, if b then (N.length : Int) else -1, 0, 0, (c : Int)⟩])
      else some (⟨L, en, a', N ++ (if b then [⟨38, [], [], 0, 0, 0, 0, ((c + 6 : Nat) : Int)⟩] else []), Y, d⟩, acc ++ [⟨43, nmB i, [], 0, if b then (N.length : Int) else -1, 0, 0, (c : Int)⟩])) := by
  obtain ⟨g1, g2, g3, g4⟩ := sep_no hu
  cases b with
  | false =>
    have h0 := get_drop h
    have h1 := drop_next h
    have h2 := get_drop h1
    refine ⟨a + 1, h1, ?_⟩
    rw [conLoopF]
    simp only [Option.bind_eq_bind, take_at h0 con_ok, Option.bind_some, of_none h2 g1, is_at h2, g4, here_at h0, Bool.false_eq_true, if_false, List.append_nil]
    cases q with
    | true =>
      simp only [if_true, take_at h2 g4, Option.bind_some]
    | false => rfl
  | true =>
    have h0 := get_drop h
    have h1 := drop_next h
    have h2 := get_drop h1
    have h3 := drop_next h1
    have h4 := get_drop h3
    have h5 := drop_next h3
    have h6 := get_drop h5
    refine ⟨a + 1 + 1 + 1, h5, ?_⟩
    rw [conLoopF]
    simp only [Option.bind_eq_bind, take_at h0 con_ok, Option.bind_some, of_some h2, ty_string h4 h6 g2 g3 hN hd, is_at h6, g4, here_at h0, if_true]
    cases q with
    | true =>
      simp only [if_true, take_at h6 g4, Option.bind_some]
    | false => rfl
theorem con_items (en : Int) (L : List Tok) (Y : List Int) (d : Nat) (p : Int) (T : List Tok) (hd : d < 100) : ∀ (its : List Bool) (n i k a : Nat) (b : Bool) (N acc : List Nod), its.length < n → N.length + its.length < 450 → L.drop a = conT i b (cPos i k) ++ (itsT (i + 1) (iEnd i b k) its ++ ⟨6, sSemi, p⟩ :: T) →
    ∃ a', L.drop a' = ⟨6, sSemi, p⟩ :: T ∧ conLoopF n ⟨L, en, a, N, Y, d⟩ acc = some (⟨L, en, a', N ++ strN i k (b :: its), Y, d⟩, acc ++ accN i k N.length (b :: its)) := by
  intro its
  induction its with
  | nil =>
    intro n i k a b N acc hn hN h
    obtain ⟨n, rfl⟩ : ∃ m, n = m + 1 := ⟨n - 1, by simp only [List.length_nil] at hn; omega⟩
    obtain ⟨a', h1, h2⟩ := con_step n i b L en a k (cPos i k) N acc Y d _ T false ⟨p, rfl⟩ h (by simp only [List.length_nil] at hN; omega) hd
    refine ⟨a', h1, ?_⟩
    rw [h2]
    simp only [Bool.false_eq_true, if_false, strN, accN, List.append_nil]
  | cons b' its ih =>
    intro n i k a b N acc hn hN h
    simp only [List.length_cons] at hn hN
    obtain ⟨n, rfl⟩ : ∃ m, n = m + 1 := ⟨n - 1, by omega⟩
    rw [itsT, itT, if_neg (by omega)] at h
    simp only [List.append_assoc, List.cons_append, List.nil_append] at h
    obtain ⟨a', h1, h2⟩ := con_step n i b L en a k (cPos i k) N acc Y d _ _ true ⟨_, rfl⟩ h (by omega) hd
    obtain ⟨a2, h3, h4⟩ := ih n (i + 1) (iEnd i b k) (a' + 1) b' (N ++ (if b then [⟨38, [], [], 0, 0, 0, 0, ((cPos i k + 6 : Nat) : Int)⟩] else [])) (acc ++ [⟨43, nmB i, [], 0, if b then (N.length : Int) else -1, 0, 0, (cPos i k : Int)⟩]) (by omega) (by rw [List.length_append]; cases b <;> simp <;> omega) (drop_next h1)
    refine ⟨a2, h3, ?_⟩
    rw [h2, if_pos rfl, h4]
    cases b with
    | false => simp only [strN, accN, List.append_assoc, List.cons_append, List.nil_append, Bool.false_eq_true, if_false, List.append_nil]
    | true => simp only [strN, accN, List.append_assoc, List.cons_append, List.nil_append, if_true, List.length_append, List.length_cons, List.length_nil]
/-! ### The chain, backwards -/
def backN (f : Nod → Int → Nod) : List Nod → Int → Nat → List Nod
  | [], _, _ => []
  | x :: xs, nx, k => f x nx :: backN f xs (k : Int) (k + 1)
def backE : List Nod → Int → Nat → Int
  | [], nx, _ => nx
  | _ :: xs, _, k => backE xs (k : Int) (k + 1)
theorem back_all (f : Nod → Int → Nod) (L : List Tok) (en : Int) (a : Nat) (Y : List Int) (d : Nat) : ∀ (l N : List Nod) (nx : Int), N.length + l.length ≤ 500 → backF f l nx ⟨L, en, a, N, Y, d⟩ = some (⟨L, en, a, N ++ backN f l nx N.length, Y, d⟩, backE l nx N.length) := by
  intro l
  induction l with
  | nil => intro N nx _; simp [backF, backN, backE]
  | cons x xs ih =>
    intro N nx h
    simp only [List.length_cons] at h
    rw [backF]
    simp only [Option.bind_eq_bind, node_at _ (show N.length < 500 by omega), Option.bind_some]
    rw [ih _ _ (by rw [List.length_append]; simp; omega)]
    simp only [backN, backE, List.append_assoc, List.cons_append, List.nil_append, List.length_append, List.length_cons, List.length_nil]
/-- A datatype. -/
def dat (nm : List UInt8) (p : Int) (N acc : List Nod) : List Nod := N ++ backN setB acc.reverse (-1) N.length ++ [⟨42, nm, [], 0, backE acc.reverse (-1) N.length, 0, 0, p⟩]
theorem typ_all (L : List Tok) (en : Int) (a : Nat) (N : List Nod) (Y : List Int) (d : Nat) (nm : List UInt8) (p0 p1 p2 p3 : Int) (T U : List Tok) (acc' N' : List Nod) (h : L.drop a = ⟨5, sType, p0⟩ :: ⟨1, ⟨nm.toArray⟩, p1⟩ :: ⟨6, sEq, p2⟩ :: U)
    (hc : ∃ a', L.drop a' = ⟨6, sSemi, p3⟩ :: T ∧ conLoopF 20 ⟨L, en, a + 1 + 1 + 1, N, Y, d⟩ [] = some (⟨L, en, a', N', Y, d⟩, acc')) (hN : N'.length + acc'.length < 450) (hY : Y.length < 500) :
    ∃ a', L.drop a' = T ∧ typF ⟨L, en, a, N, Y, d⟩ = some ⟨L, en, a', dat nm p0 N' acc', Y ++ [((dat nm p0 N' acc').length : Int) - 1], d⟩ := by
  obtain ⟨a', h9, hc⟩ := hc
  have h0 := get_drop h
  have h1 := get_drop (drop_next h)
  have h2 := get_drop (drop_next (drop_next h))
  have h4 := get_drop h9
  have hlen : ∀ (l : List Nod) (x : Int) (k : Nat), (backN setB l x k).length = l.length := by
    intro l
    induction l with
    | nil => intro x k; rfl
    | cons y l ih => intro x k; rw [backN, List.length_cons, ih, List.length_cons]
  refine ⟨a' + 1, drop_next h9, ?_⟩
  have f0 : tokIs 5 sType ⟨5, sType, p0⟩ = true := by kernel_rfl
  have f1 : tokIs 1 sE ⟨1, ⟨nm.toArray⟩, p1⟩ = true := by kernel_rfl
  have f2 : tokIs 6 sEq ⟨6, sEq, p2⟩ = true := by kernel_rfl
  have f3 : tokIs 6 sSemi ⟨6, sSemi, p3⟩ = true := by kernel_rfl
  unfold typF
  simp only [Option.bind_eq_bind, take_at h0 f0, Option.bind_some, take_at h1 f1, take_at h2 f2, hc, take_at h4 f3, here_at h0]
  rw [back_all setB _ _ _ _ _ _ _ _ (by rw [List.length_reverse]; omega)]
  simp only [Option.bind_some]
  rw [node_at _ (by rw [List.length_append, hlen, List.length_reverse]; omega)]
  simp only [Option.bind_some, hY, decide_true, req_t]
  have q : (((N' ++ backN setB acc'.reverse (-1) N'.length).length : Nat) : Int) = ((dat nm p0 N' acc').length : Int) - 1 := by
    unfold dat
    simp only [List.length_append, List.length_cons, List.length_nil]
    omega
  rw [q]
  rfl
end Go.Proofs.YtphojigdapaaiaaDoor
