/- The source that the law of constructors builds: its bytes, its tokens. -/
import Derived.Test.YtphojigdapaaiaaDoorZBo
namespace Go.Proofs.YtphojigdapaaiaaDoor
open Go.ChangeShapes Go.WideShapes Go.ChangeAt Go.RowKit
set_option linter.unusedVariables false
set_option linter.unusedSimpArgs false
def chB (i : Nat) : UInt8 := UInt8.ofNat (97 + i)
def nmB (i : Nat) : List UInt8 := [67, chB i]
abbrev ofS : List UInt8 := [32, 111, 102, 32, 115, 116, 114, 105, 110, 103]
def pieceL (i : Nat) (b : Bool) : List UInt8 := (if i = 0 then [] else [32, 124]) ++ (32 :: 67 :: chB i :: (if b then ofS else []))
def itemsL : Nat → List Bool → List UInt8
  | _, [] => []
  | i, b :: r => pieceL i b ++ itemsL (i + 1) r
abbrev headS : List UInt8 := [116, 121, 112, 101, 32, 116, 32, 61]
abbrev tailR : List UInt8 := [59, 32, 116, 121, 112, 101, 32, 117, 32, 61, 32, 68, 32, 124, 32, 67, 97, 32, 111, 102, 32, 105, 110, 116, 32, 59, 32, 49]
def srcB (has : List Bool) : List UInt8 := headS ++ (itemsL 0 has ++ 32 :: tailR)
/-! ### Tokens -/
def cPos (i k : Nat) : Nat := if i = 0 then k + 1 else k + 3
def iEnd (i : Nat) (b : Bool) (k : Nat) : Nat := if b then cPos i k + 12 else cPos i k + 2
def lEnd : Nat → Nat → List Bool → Nat
  | _, k, [] => k
  | i, k, b :: r => lEnd (i + 1) (iEnd i b k) r
def conT (i : Nat) (b : Bool) (c : Nat) : List Tok := ⟨2, ⟨(nmB i).toArray⟩, (c : Int)⟩ :: (if b then [⟨5, sOf, ((c + 3 : Nat) : Int)⟩, ⟨5, sString, ((c + 6 : Nat) : Int)⟩] else [])
def itT (i : Nat) (b : Bool) (k : Nat) : List Tok := (if i = 0 then [] else [⟨6, sBar, ((k + 1 : Nat) : Int)⟩]) ++ conT i b (cPos i k)
def itsT : Nat → Nat → List Bool → List Tok
  | _, _, [] => []
  | i, k, b :: r => itT i b k ++ itsT (i + 1) (iEnd i b k) r
def headT : List Tok := [⟨5, sType, 0⟩, ⟨1, ⟨#[116]⟩, 5⟩, ⟨6, sEq, 7⟩]
def tailT (e : Nat) : List Tok := [⟨6, sSemi, ((e + 1 : Nat) : Int)⟩, ⟨5, sType, ((e + 3 : Nat) : Int)⟩, ⟨1, ⟨#[117]⟩, ((e + 8 : Nat) : Int)⟩, ⟨6, sEq, ((e + 10 : Nat) : Int)⟩, ⟨2, ⟨#[68]⟩, ((e + 12 : Nat) : Int)⟩, ⟨6, sBar, ((e + 14 : Nat) : Int)⟩, ⟨2, ⟨#[67, 97]⟩, ((e + 16 : Nat) : Int)⟩, ⟨5, sOf, ((e + 19 : Nat) : Int)⟩, ⟨5, sInt, ((e + 22 : Nat) : Int)⟩, ⟨6, sSemi, ((e + 26 : Nat) : Int)⟩, ⟨3, sOne, ((e + 28 : Nat) : Int)⟩]
/-! ### The lexer -/
def LexOk (l : List UInt8) (k : Nat) (T : List Tok) : Prop := ∃ n, lexL n l k = some T
theorem LexOk.skip {c : UInt8} {r : List UInt8} {k : Nat} {T : List Tok} (h : stepL (c :: r) = some (.skip 1)) (h2 : LexOk r (k + 1) T) : LexOk (c :: r) k T := by
  obtain ⟨n, hn⟩ := h2
  refine ⟨n + 1, ?_⟩
  simp only [lexL, h]
  exact hn
theorem LexOk.tok {l r : List UInt8} {κ : Int} {σ : List UInt8} {m k : Nat} {T : List Tok} (h : stepL l = some (.tok κ σ m)) (hl : l.drop m = r) (h2 : LexOk r (k + m) T) : LexOk l k (⟨κ, ⟨σ.toArray⟩, (k : Int)⟩ :: T) := by
  obtain ⟨n, hn⟩ := h2
  cases l with
  | nil => cases h
  | cons c q =>
    refine ⟨n + 1, ?_⟩
    simp only [lexL, h, hl, hn]
    rfl
theorem step_sp (r : List UInt8) : stepL (32 :: r) = some (.skip 1) := rfl
theorem LexOk.sp {r : List UInt8} {k : Nat} {T : List Tok} (h : LexOk r (k + 1) T) : LexOk (32 :: r) k T := LexOk.skip (step_sp r) h
set_option maxRecDepth 100000 in
theorem step_con {i : Nat} (h : i < 12) (r : List UInt8) : stepL (67 :: chB i :: 32 :: r) = some (.tok 2 (nmB i) 2) := by
  rcases (by omega : i = 0 ∨ i = 1 ∨ i = 2 ∨ i = 3 ∨ i = 4 ∨ i = 5 ∨ i = 6 ∨ i = 7 ∨ i = 8 ∨ i = 9 ∨ i = 10 ∨ i = 11) with rfl | rfl | rfl | rfl | rfl | rfl | rfl | rfl | rfl | rfl | rfl | rfl <;> kernel_rfl
set_option maxRecDepth 100000 in
theorem step_of (r : List UInt8) : stepL (111 :: 102 :: 32 :: r) = some (.tok 5 [111, 102] 2) := by kernel_rfl
set_option maxRecDepth 100000 in
theorem step_string (r : List UInt8) : stepL (115 :: 116 :: 114 :: 105 :: 110 :: 103 :: 32 :: r) = some (.tok 5 [115, 116, 114, 105, 110, 103] 6) := by kernel_rfl
set_option maxRecDepth 100000 in
theorem step_bar (r : List UInt8) : stepL (124 :: r) = some (.tok 6 [124] 1) := by kernel_rfl
set_option maxRecDepth 100000 in
theorem step_type (r : List UInt8) : stepL (116 :: 121 :: 112 :: 101 :: 32 :: r) = some (.tok 5 [116, 121, 112, 101] 4) := by kernel_rfl
set_option maxRecDepth 100000 in
theorem step_t (r : List UInt8) : stepL (116 :: 32 :: r) = some (.tok 1 [116] 1) := by kernel_rfl
set_option maxRecDepth 100000 in
theorem step_eq (r : List UInt8) : stepL (61 :: r) = some (.tok 6 [61] 1) := by kernel_rfl
set_option maxRecDepth 100000 in
theorem lex_tail (e : Nat) : LexOk (32 :: tailR) e (tailT e) := ⟨60, by kernel_rfl⟩
theorem lex_con {i : Nat} (h : i < 12) (b : Bool) {r : List UInt8} {k : Nat} {T : List Tok} (h2 : LexOk (32 :: r) (if b then k + 12 else k + 2) T) : LexOk (67 :: chB i :: ((if b then ofS else []) ++ 32 :: r)) k (conT i b k ++ T) := by
  cases b with
  | false => exact LexOk.tok (step_con h r) rfl h2
  | true =>
    refine LexOk.tok (step_con h _) rfl ?_
    refine LexOk.sp ?_
    refine LexOk.tok (k := k + 3) (step_of _) rfl ?_
    refine LexOk.sp ?_
    exact LexOk.tok (k := k + 6) (step_string _) rfl h2
theorem lex_item {i : Nat} (h : i < 12) (b : Bool) {r : List UInt8} {k : Nat} {T : List Tok} (h2 : LexOk (32 :: r) (iEnd i b k) T) : LexOk (pieceL i b ++ 32 :: r) k (itT i b k ++ T) := by
  unfold pieceL itT
  by_cases h0 : i = 0
  · rw [if_pos h0, if_pos h0]
    unfold iEnd cPos at h2
    unfold cPos
    rw [if_pos h0] at h2 ⊢
    exact LexOk.sp (lex_con h b h2)
  · rw [if_neg h0, if_neg h0]
    unfold iEnd cPos at h2
    unfold cPos
    rw [if_neg h0] at h2 ⊢
    refine LexOk.sp ?_
    refine LexOk.tok (k := k + 1) (step_bar _) rfl ?_
    exact LexOk.sp (k := k + 2) (lex_con h b h2)
theorem items_sp (i : Nat) (its : List Bool) (r : List UInt8) : ∃ r', itemsL i its ++ 32 :: r = 32 :: r' := by
  cases its with
  | nil => exact ⟨r, rfl⟩
  | cons b its =>
    unfold itemsL pieceL
    by_cases h0 : i = 0
    · rw [if_pos h0]; exact ⟨_, rfl⟩
    · rw [if_neg h0]; exact ⟨_, rfl⟩
theorem lex_items (r : List UInt8) (T : List Tok) : ∀ (its : List Bool) (i k : Nat), i + its.length ≤ 12 → LexOk (32 :: r) (lEnd i k its) T → LexOk (itemsL i its ++ 32 :: r) k (itsT i k its ++ T) := by
  intro its
  induction its with
  | nil => intro i k _ h; exact h
  | cons b its ih =>
    intro i k hi h
    simp only [List.length_cons] at hi
    have h1 := ih (i + 1) (iEnd i b k) (by omega) h
    obtain ⟨r', hr⟩ := items_sp (i + 1) its r
    rw [hr] at h1
    have h2 := lex_item (i := i) (by omega) b h1
    unfold itemsL itsT
    rw [List.append_assoc, hr, List.append_assoc]
    exact h2
def srcT (has : List Bool) : List Tok := headT ++ (itsT 0 8 has ++ tailT (lEnd 0 8 has))
theorem lex_src {has : List Bool} (h : has.length ≤ 12) : LexOk (srcB has) 0 (srcT has) := by
  have h1 := lex_items tailR (tailT (lEnd 0 8 has)) has 0 8 (by omega) (lex_tail _)
  obtain ⟨r', hr⟩ := items_sp 0 has tailR
  unfold srcB srcT
  rw [hr] at h1 ⊢
  refine LexOk.tok (k := 0) (step_type _) rfl ?_
  refine LexOk.sp ?_
  refine LexOk.tok (k := 5) (step_t _) rfl ?_
  refine LexOk.sp ?_
  exact LexOk.tok (k := 7) (step_eq _) rfl h1
theorem items_len : ∀ (its : List Bool) (i k : Nat), k + (itemsL i its).length = lEnd i k its := by
  intro its
  induction its with
  | nil => intro i k; rfl
  | cons b its ih =>
    intro i k
    unfold itemsL lEnd
    rw [← ih, List.length_append]
    unfold pieceL iEnd cPos
    by_cases h0 : i = 0
    · rw [if_pos h0, if_pos h0]; cases b <;> simp only [List.length_append, List.length_cons, List.length_nil, if_true, if_false, Bool.false_eq_true] <;> omega
    · rw [if_neg h0, if_neg h0]; cases b <;> simp only [List.length_append, List.length_cons, List.length_nil, if_true, if_false, Bool.false_eq_true] <;> omega
theorem lEnd_le : ∀ (its : List Bool) (i k : Nat), lEnd i k its ≤ k + 15 * its.length := by
  intro its
  induction its with
  | nil => intro i k; exact Nat.le_refl _
  | cons b its ih =>
    intro i k
    unfold lEnd
    refine Nat.le_trans (ih _ _) ?_
    unfold iEnd cPos
    simp only [List.length_cons]
    split <;> split <;> omega
theorem src_len (has : List Bool) : (srcB has).length = lEnd 0 8 has + 29 := by
  have h := items_len has 0 8
  unfold srcB
  simp only [List.length_append, List.length_cons, List.length_nil]
  omega
theorem items_snoc : ∀ (its : List Bool) (i : Nat) (b : Bool), itemsL i (its ++ [b]) = itemsL i its ++ pieceL (i + its.length) b := by
  intro its
  induction its with
  | nil => intro i b; simp [itemsL]
  | cons c its ih =>
    intro i b
    show pieceL i c ++ itemsL (i + 1) (its ++ [b]) = _
    rw [ih]
    show _ = (pieceL i c ++ itemsL (i + 1) its) ++ _
    rw [List.append_assoc, List.length_cons, show i + (its.length + 1) = i + 1 + its.length by omega]
end Go.Proofs.YtphojigdapaaiaaDoor
