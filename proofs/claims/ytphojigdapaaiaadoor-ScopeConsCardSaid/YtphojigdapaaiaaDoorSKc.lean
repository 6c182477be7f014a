/- The source that the law of constructors builds: its tree, whole. -/
import Derived.Test.YtphojigdapaaiaaDoorSKb
namespace Go.Proofs.YtphojigdapaaiaaDoor
open Go.ChangeShapes Go.WideShapes Go.ChangeAt Go.RowKit
set_option linter.unusedVariables false
set_option linter.unusedSimpArgs false
theorem tok3 {k p : Int} {s : ByteArray} (h : k ≠ 3) : tokIs k s ⟨3, sOne, p⟩ = false := by
  unfold tokIs
  rw [show ((3 : Int) == k) = false from beq_false_of_ne (fun e => h e.symm)]
  rfl
theorem expr_one {L : List Tok} {en : Int} {a : Nat} {N : List Nod} {Y : List Int} {d : Nat} {p : Int} (h : L.drop a = [⟨3, sOne, p⟩]) (hN : N.length < 500) (hd : d < 100) :
    exprF 30 ⟨L, en, a, N, Y, d⟩ = some (⟨L, en, a + 1, N ++ [⟨1, [], [], 1, 0, 0, 0, p⟩], Y, d⟩, (N.length : Int)) := by
  have h0 := get_drop h
  have h1 : L[a + 1]? = none := by
    rw [← List.head?_drop, drop_next h]
    rfl
  have k1 : ∀ s, tokIs 5 s ⟨3, sOne, p⟩ = false := fun s => tok3 (by decide)
  have k2 : ∀ s, tokIs 6 s ⟨3, sOne, p⟩ = false := fun s => tok3 (by decide)
  have k3 : ∀ s, tokIs 2 s ⟨3, sOne, p⟩ = false := fun s => tok3 (by decide)
  have k4 : ∀ s, tokIs 4 s ⟨3, sOne, p⟩ = false := fun s => tok3 (by decide)
  have k5 : tokIs 3 sE ⟨3, sOne, p⟩ = true := by kernel_rfl
  have k6 : wordOk ⟨L, en, a, N, Y, d + 1 + 1⟩ = true := by
    unfold wordOk
    simp only [h0]
    kernel_rfl
  have k7 : (sOne == sOne) = true := by kernel_rfl
  show exprF (29 + 1) _ = _
  rw [exprF]
  generalize exprF 29 = ex
  simp only [Option.bind_eq_bind, open_at (show d < 160 by omega), Option.bind_some]
  unfold exprOfF setF cmpF consF sumF prodF appF atomF atomOfF
  simp only [is_at h0, k1, k2, k3, k4, k5, k7, Bool.false_eq_true, if_false, Bool.not_false, Bool.and_true, req_t, Option.bind_eq_bind, open_at (show d + 1 < 160 by omega), open_at (show d + 1 + 1 < 160 by omega), Option.bind_some, if_true, take_at h0 k5, k6, node_at _ hN, here_at h0, close_at]
  have hb : begF ⟨L, en, a + 1, N ++ [⟨1, [], [], 1, 0, 0, 0, p⟩], Y, d + 1 + 1⟩ = false := by
    unfold begF
    simp only [is_no h1, Bool.or_false]
  rw [appLoopF]
  simp only [hb, Bool.false_eq_true, if_false, Option.bind_some, is_no h1, Bool.not_false, Bool.and_true, req_t, close_at]
/-! ### Two datatypes, an expression -/
def n1 (has : List Bool) : List Nod := dat [116] 0 (strN 0 8 has) (accN 0 8 0 has)
def acc2 (e n : Nat) : List Nod := [⟨43, [68], [], 0, -1, 0, 0, ((e + 12 : Nat) : Int)⟩, ⟨43, [67, 97], [], 0, (n : Int), 0, 0, ((e + 16 : Nat) : Int)⟩]
def n2 (has : List Bool) : List Nod := dat [117] ((lEnd 0 8 has + 3 : Nat) : Int) (n1 has ++ [⟨35, [], [], 0, 0, 0, 0, ((lEnd 0 8 has + 22 : Nat) : Int)⟩]) (acc2 (lEnd 0 8 has) (n1 has).length)
def treeOf (has : List Bool) : Tre :=
  ⟨n2 has ++ [⟨1, [], [], 1, 0, 0, 0, ((lEnd 0 8 has + 28 : Nat) : Int)⟩], [((n1 has).length : Int) - 1, ((n2 has).length : Int) - 1], ((n2 has).length : Int)⟩
theorem backN_len (f : Nod → Int → Nod) : ∀ (l : List Nod) (x : Int) (k : Nat), (backN f l x k).length = l.length := by
  intro l
  induction l with
  | nil => intro x k; rfl
  | cons y l ih => intro x k; rw [backN, List.length_cons, ih, List.length_cons]
theorem accN_len : ∀ (its : List Bool) (i k n : Nat), (accN i k n its).length = its.length := by
  intro its
  induction its with
  | nil => intro i k n; rfl
  | cons b its ih => intro i k n; rw [accN, List.length_cons, ih, List.length_cons]
theorem strN_len : ∀ (its : List Bool) (i k : Nat), (strN i k its).length = its.count true := by
  intro its
  induction its with
  | nil => intro i k; rfl
  | cons b its ih => intro i k; rw [strN, List.length_append, ih]; cases b <;> simp <;> omega
theorem dat_len (nm : List UInt8) (p : Int) (N acc : List Nod) : (dat nm p N acc).length = N.length + acc.length + 1 := by
  unfold dat
  simp only [List.length_append, backN_len, List.length_reverse, List.length_cons, List.length_nil]
theorem n1_len (has : List Bool) : (n1 has).length = has.count true + has.length + 1 := by
  unfold n1
  rw [dat_len, strN_len, accN_len]
theorem n2_len (has : List Bool) : (n2 has).length = has.count true + has.length + 5 := by
  unfold n2
  rw [dat_len, List.length_append, n1_len]
  simp only [acc2, List.length_cons, List.length_nil]
theorem con_tail (L : List Tok) (en : Int) (a e : Nat) (N : List Nod) (Y : List Int) (d : Nat) (T : List Tok) (hN : N.length < 450) (hd : d < 100)
    (h : L.drop a = ⟨2, ⟨#[68]⟩, ((e + 12 : Nat) : Int)⟩ :: ⟨6, sBar, ((e + 14 : Nat) : Int)⟩ :: ⟨2, ⟨#[67, 97]⟩, ((e + 16 : Nat) : Int)⟩ :: ⟨5, sOf, ((e + 19 : Nat) : Int)⟩ :: ⟨5, sInt, ((e + 22 : Nat) : Int)⟩ :: ⟨6, sSemi, ((e + 26 : Nat) : Int)⟩ :: T) :
    ∃ a', L.drop a' = ⟨6, sSemi, ((e + 26 : Nat) : Int)⟩ :: T ∧ conLoopF 20 ⟨L, en, a, N, Y, d⟩ [] = some (⟨L, en, a', N ++ [⟨35, [], [], 0, 0, 0, 0, ((e + 22 : Nat) : Int)⟩], Y, d⟩, acc2 e N.length) := by
  have d1 := drop_next h
  have d2 := drop_next d1
  have d3 := drop_next d2
  have d4 := drop_next d3
  have d5 := drop_next d4
  have g0 := get_drop h
  have g1 := get_drop d1
  have g2 := get_drop d2
  have g3 := get_drop d3
  have g4 := get_drop d4
  have g5 := get_drop d5
  refine ⟨_, d5, ?_⟩
  have k0 : tokIs 2 sE ⟨2, ⟨#[68]⟩, ((e + 12 : Nat) : Int)⟩ = true := by kernel_rfl
  have k1 : tokIs 2 sE ⟨2, ⟨#[67, 97]⟩, ((e + 16 : Nat) : Int)⟩ = true := by kernel_rfl
  obtain ⟨b1, b2, b3, b4⟩ := sep_no (t := ⟨6, sBar, ((e + 14 : Nat) : Int)⟩) (q := true) ⟨_, rfl⟩
  obtain ⟨c1, c2, c3, c4⟩ := sep_no (t := ⟨6, sSemi, ((e + 26 : Nat) : Int)⟩) (q := false) ⟨_, rfl⟩
  show conLoopF (18 + 1 + 1) _ _ = _
  rw [conLoopF]
  simp only [Option.bind_eq_bind, take_at g0 k0, Option.bind_some, of_none g1 b1, is_at g1, b4, here_at g0, if_true, take_at g1 b4]
  rw [conLoopF]
  simp only [Option.bind_eq_bind, take_at g2 k1, Option.bind_some, of_some g3, ty_int g4 g5 c2 c3 (show N.length < 500 by omega) hd, is_at g5, c4, here_at g2, Bool.false_eq_true, if_false]
  rfl
theorem tree_src (has : List Bool) (h1 : 1 ≤ has.length) (h2 : has.length ≤ 12) (en : Int) : (do
    let S1 ← typesF 3 ⟨srcT has, en, 0, [], [], 0⟩
    let (S2, k) ← exprF 30 S1
    req (S2.at_ == S2.L.length) (some ⟨S2.nodes, S2.types, k⟩) : Option Tre) = some (treeOf has) := by
  have hc : has.count true ≤ has.length := List.count_le_length
  obtain ⟨b, its, rfl⟩ : ∃ b its, has = b :: its := by
    cases has with
    | nil => simp at h1
    | cons b its => exact ⟨b, its, rfl⟩
  have hd0 : (srcT (b :: its)).drop 0 = ⟨5, sType, 0⟩ :: ⟨1, ⟨([116] : List UInt8).toArray⟩, 5⟩ :: ⟨6, sEq, 7⟩ :: (itsT 0 8 (b :: its) ++ tailT (lEnd 0 8 (b :: its))) := rfl
  have hd3 : (srcT (b :: its)).drop (0 + 1 + 1 + 1) = conT 0 b (cPos 0 8) ++ (itsT (0 + 1) (iEnd 0 b 8) its ++ ⟨6, sSemi, ((lEnd 0 8 (b :: its) + 1 : Nat) : Int)⟩ :: (tailT (lEnd 0 8 (b :: its))).tail) := by
    show itsT 0 8 (b :: its) ++ tailT (lEnd 0 8 (b :: its)) = _
    rw [itsT, itT, if_pos rfl, List.nil_append, List.append_assoc]
    rfl
  simp only [List.length_cons] at h2
  have hcc := con_items en (srcT (b :: its)) [] 0 ((lEnd 0 8 (b :: its) + 1 : Nat) : Int) _ (by omega) its 20 0 8 (0 + 1 + 1 + 1) b [] [] (by omega) (by simp only [List.length_nil]; omega) hd3
  obtain ⟨a1, ha1, ht1⟩ := typ_all (srcT (b :: its)) en 0 [] [] 0 [116] 0 5 7 _ _ _ _ _ hd0 hcc (by simp only [List.nil_append, List.length_nil, strN_len, accN_len, List.length_cons] at hc ⊢; omega) (by simp)
  simp only [List.nil_append, List.length_nil] at ht1
  have ha1' : (srcT (b :: its)).drop a1 = ⟨5, sType, ((lEnd 0 8 (b :: its) + 3 : Nat) : Int)⟩ :: ⟨1, ⟨([117] : List UInt8).toArray⟩, ((lEnd 0 8 (b :: its) + 8 : Nat) : Int)⟩ :: ⟨6, sEq, ((lEnd 0 8 (b :: its) + 10 : Nat) : Int)⟩ :: _ := ha1
  have hl1 := n1_len (b :: its)
  simp only [List.length_cons] at hl1 hc
  have hct := con_tail (srcT (b :: its)) en (a1 + 1 + 1 + 1) (lEnd 0 8 (b :: its)) (n1 (b :: its)) [((n1 (b :: its)).length : Int) - 1] 0 _ (by omega) (by omega) (drop_next (drop_next (drop_next ha1')))
  obtain ⟨a2, ha2, ht2⟩ := typ_all (srcT (b :: its)) en a1 (n1 (b :: its)) [((n1 (b :: its)).length : Int) - 1] 0 [117] ((lEnd 0 8 (b :: its) + 3 : Nat) : Int) ((lEnd 0 8 (b :: its) + 8 : Nat) : Int) ((lEnd 0 8 (b :: its) + 10 : Nat) : Int) ((lEnd 0 8 (b :: its) + 26 : Nat) : Int) _ _ _ _ ha1' hct (by simp only [List.length_append, acc2, List.length_cons, List.length_nil]; omega) (by simp)
  have f0 : tokIs 5 sType ⟨5, sType, 0⟩ = true := by kernel_rfl
  have f1 : tokIs 5 sType ⟨5, sType, ((lEnd 0 8 (b :: its) + 3 : Nat) : Int)⟩ = true := by kernel_rfl
  have h9 : (n2 (b :: its)).length < 500 := by
    have := n2_len (b :: its)
    simp only [List.length_cons] at this
    omega
  have hx := expr_one (en := en) (Y := [((n1 (b :: its)).length : Int) - 1] ++ [((n2 (b :: its)).length : Int) - 1]) (d := 0) (p := ((lEnd 0 8 (b :: its) + 28 : Nat) : Int)) (N := n2 (b :: its)) ha2 h9 (by omega)
  have hlen : a2 + 1 = (srcT (b :: its)).length := by
    have h := congrArg List.length ha2
    simp only [List.length_drop, List.length_cons, List.length_nil] at h
    omega
  have e1 : typesF 3 ⟨srcT (b :: its), en, 0, [], [], 0⟩ = some ⟨srcT (b :: its), en, a2, n2 (b :: its), [((n1 (b :: its)).length : Int) - 1] ++ [((n2 (b :: its)).length : Int) - 1], 0⟩ := by
    show typesF (2 + 1) _ = _
    rw [typesF, is_at (get_drop hd0), f0, if_pos rfl]
    simp only [Option.bind_eq_bind, ht1, Option.bind_some]
    show typesF (1 + 1) _ = _
    rw [typesF, is_at (get_drop ha1'), f1, if_pos rfl]
    simp only [Option.bind_eq_bind]
    have ht3 := ht2
    rw [show typF ⟨srcT (b :: its), en, a1, dat [116] 0 (strN 0 8 (b :: its)) (accN 0 8 0 (b :: its)), [((dat [116] 0 (strN 0 8 (b :: its)) (accN 0 8 0 (b :: its))).length : Int) - 1], 0⟩ = _ from ht2]
    simp only [Option.bind_some]
    show typesF (0 + 1) _ = _
    rw [typesF, is_at (get_drop ha2), tok3 (by decide), if_neg (by decide)]
    rfl
  rw [e1]
  simp only [Option.bind_eq_bind, Option.bind_some, hx]
  rw [beq_iff_eq.2 hlen, req_t]
  unfold treeOf
  rfl
end Go.Proofs.YtphojigdapaaiaaDoor
