/- The source that the law of constructors builds: what the program's functions answer of it. -/
import Derived.Test.YtphojigdapaaiaaDoorSKf
namespace Go.Proofs.YtphojigdapaaiaaDoor
open Go.ChangeShapes Go.WideShapes Go.ChangeAt Go.RowKit
set_option linter.unusedVariables false
set_option linter.unusedSimpArgs false
theorem src_all {has : List Bool} (h1 : 1 ≤ has.length) (h2 : has.length ≤ 12) {s : ByteArray} (hs : lis s = srcB has) : Src s (treeOf has) := by
  have T := tree_tr has h1 h2
  have hz : s.size = (srcB has).length := by rw [← hs]; rfl
  have hl := src_len has
  have hle := lEnd_le has 0 8
  refine ⟨by omega, ?_, tr_good T, fun tab => tr_sure T tab, ?_⟩
  · obtain ⟨n, hn⟩ := lex_src h2
    exact ⟨n, _, by rw [hs]; exact hn, tree_src has h1 h2 _⟩
  · have hlen := T.len
    have hm := T.hm
    exact ⟨by omega, by rw [T.y]; show 2 ≤ _; omega, fun p hp => by have := tr_text T p hp; omega⟩
theorem Src.con_ {s : ByteArray} {t : Tre} (h : Src s t) {tab : Nat → OpRow} {A A' : Option Addr} {c c' : Nat} (nm : KS) (w : World) (ht : TreIs w A A' t) (hS : TabsX tab w) : Calls Tryd.prog 17 #[treV A c A' c' t, strV nm] w (ConEnd t nm w) :=
  c17 nm w ht hS h.sm h.good (h.sure tab)
theorem Src.check_ {s : ByteArray} {t : Tre} (h : Src s t) {tab : Nat → OpRow} {A A' : Option Addr} {c c' : Nat} (w : World) (ht : TreIs w A A' t) (hS : TabsX tab w) : Calls Tryd.prog 15 #[treV A c A' c' t] w (FaultEnd (faultF t) w) := by
  refine (c15 w ht hS h.sm).mono ?_
  rintro e w' ⟨f, rfl, hb, _, hf⟩
  rw [hf h.good (h.sure tab)]
  exact ⟨rfl, hb⟩
theorem con_i {has : List Bool} (h1 : 1 ≤ has.length) (h2 : has.length ≤ 12) {i : Nat} (hi : i < has.length) {w w' : World} {e : Ending} (h : ConEnd (treeOf has) (nmB i) w e w') :
    e = .returned (.tuple #[.string ⟨#[116]⟩, .int .i64 (i : Int), .bool (hbK has i), .bool true]) ∧ Below w.heap.size w w' := by
  have hm := (tr_map (tree_tr has h1 h2)).1 i hi
  refine h.of (a := [116]) ?_ ?_ ?_ ?_ <;> first | (unfold conOf; rw [hm]; rfl) | (rw [hm]; rfl)
theorem con_d {has : List Bool} (h1 : 1 ≤ has.length) (h2 : has.length ≤ 12) {w w' : World} {e : Ending} (h : ConEnd (treeOf has) [68] w e w') :
    e = .returned (.tuple #[.string ⟨#[117]⟩, .int .i64 0, .bool false, .bool true]) ∧ Below w.heap.size w w' := by
  have hm := (tr_map (tree_tr has h1 h2)).2
  refine h.of (a := [117]) ?_ ?_ ?_ ?_ <;> first | (unfold conOf; rw [hm]; rfl) | (rw [hm]; rfl)
theorem fault_e {has : List Bool} (h1 : 1 ≤ has.length) (h2 : has.length ≤ 12) {w w' : World} {e : Ending} (h : FaultEnd (faultF (treeOf has)) w e w') : ∃ q, e = .returned (.agg #[.int .i64 13, .int .i64 q]) ∧ Below w.heap.size w w' := by
  obtain ⟨rfl, hb⟩ := h
  rw [tr_fault (tree_tr has h1 h2)]
  exact ⟨_, rfl, hb⟩
/-! ### The source's text -/
theorem lis_app (a b : ByteArray) : lis (a ++ b) = lis a ++ lis b := by
  unfold lis
  rw [ByteArray.data_append, Array.toList_append]
theorem lis_inj {a b : ByteArray} (h : lis a = lis b) : a = b := by
  cases a
  cases b
  unfold lis at h
  simp only at h
  rw [Array.toList_inj.1 h]
theorem nm_app (i : Nat) : ((⟨#[67]⟩ : ByteArray) ++ ⟨#[chB i]⟩) = ⟨(nmB i).toArray⟩ := lis_inj (by rw [lis_app]; rfl)
theorem ch_val {i : Nat} (h : i < 12) : ((chB i).toNat : Int) = 97 + (i : Int) := by
  unfold chB
  rw [UInt8.toNat_ofNat']
  omega
def headB (has : List Bool) (k : Nat) : List UInt8 := headS ++ itemsL 0 (has.take k)
theorem head_len {has : List Bool} {k : Nat} (hk : k ≤ has.length) (h2 : has.length ≤ 12) {B : ByteArray} (h : lis B = headB has k) : B.size ≤ 300 := by
  have h1 := congrArg List.length h
  have h3 := items_len (has.take k) 0 8
  have h4 := lEnd_le (has.take k) 0 8
  unfold headB at h1
  rw [List.length_append, show headS.length = 8 from rfl, dr_size] at h1
  rw [List.length_take] at h4
  omega
theorem head_next {has : List Bool} {k : Nat} (hk : k < has.length) : headB has (k + 1) = headB has k ++ pieceL k (hbK has k) := by
  unfold headB hbK
  rw [List.take_add_one, List.getElem?_eq_getElem hk, Option.toList_some, items_snoc, List.length_take, Nat.min_eq_left (Nat.le_of_lt hk), Nat.zero_add, List.append_assoc, List.getD_eq_getElem?_getD, List.getElem?_eq_getElem hk]
  rfl
theorem head_end (has : List Bool) {B : ByteArray} (h : lis B = headB has has.length) : lis (B ++ ⟨(32 :: tailR).toArray⟩) = srcB has := by
  rw [lis_app, h]
  unfold headB srcB
  rw [List.take_length, List.append_assoc]
/-- One constructor's text, with a bar ahead or none, with a string behind or none. -/
theorem head_step {has : List Bool} {k : Nat} (hk : k < has.length) {B : ByteArray} (h : lis B = headB has k) : ∃ C, C = ((if k = 0 then B else B ++ ⟨#[32, 124]⟩) ++ (⟨#[32, 67]⟩ ++ ⟨#[chB k]⟩)) ∧ lis (if hbK has k then C ++ ⟨#[32, 111, 102, 32, 115, 116, 114, 105, 110, 103]⟩ else C) = headB has (k + 1) := by
  refine ⟨_, rfl, ?_⟩
  rw [head_next hk, ← h]
  unfold pieceL
  by_cases h0 : k = 0
  · rw [if_pos h0, if_pos h0]
    cases hbK has k with
    | false => simp only [Bool.false_eq_true, if_false, lis_app]; rfl
    | true => simp only [if_true, lis_app, List.append_assoc]; rfl
  · rw [if_neg h0, if_neg h0]
    cases hbK has k with
    | false => simp only [Bool.false_eq_true, if_false, lis_app, List.append_assoc]; rfl
    | true => simp only [if_true, lis_app, List.append_assoc]; rfl
end Go.Proofs.YtphojigdapaaiaaDoor
