/- The document's names, constructors, quotes: they answer. -/
import Derived.Test.YtphojigdapaaiaaDoorATk
namespace Go.Proofs.YtphojigdapaaiaaDoor
open Go.ChangeShapes Go.WideShapes Go.ChangeAt Go.RowKit
set_option linter.unusedVariables false
set_option linter.unusedSimpArgs false
theorem Reads.tokAt {w : World} {B n : Nat} {A : Option Addr} {l : List Tok} (h : Reads w B 3 A n (l.flatMap tokC)) {k : Nat} {p : Tok} (hk : l[k]? = some p) :
    ∃ ad, A = some ad ∧ ad.block < B ∧ ∀ j v, (tokC p)[j]? = some v → w.cell? ((ad.add (k * 3)).add j) = some v :=
  Reads.rowAt (f := tokC) (m := 3) (fun _ => rfl) h (by decide) hk
set_option maxRecDepth 100000 in
set_option maxHeartbeats 4000000 in
theorem c49 (s : ByteArray) (kind : Int) (hs : s.size ≤ 3000) (w : World) : Calls Tryd.prog 49 #[.string s, .int .i64 kind] w (BoolEnd w) := by
  have HC := Lib.hid (c43 s hs w)
  go_enter Tryd.func49, Tryd.ntmps49
  go_wp2_with fail
  refine HC.out.mono ?_
  rintro e w1 ⟨T, A, c, X, Y, rfl, hr, hb⟩
  have HR := Lib.hid hr
  have HB := Lib.hid hb
  clear hr hb HC
  have hx := Blk.new w1 92 #[.slice A T.length c, .int .i64 X, .int .i64 Y]
  have hb2 := below_new w1 (.cells #[.slice A T.length c, .int .i64 X, .int .i64 Y] 92)
  have HR2 := Lib.hid (HR.out.below hb2)
  have HB2 := Lib.hid (next_ HB.out hb2)
  generalize hw2 : w1.alloc (.cells #[.slice A T.length c, .int .i64 X, .int .i64 Y] 92) = w2 at hx hb2 HR2 HB2
  have HX := Lib.hid hx
  clear hx hb2
  go_upto_region 2 with fail
  clear hw2
  generalize w1.heap.size = xb at HX ⊢
  have x0 : w2.cell? ⟨xb, 0, none⟩ = some (.slice A T.length c) := HX.out.cell 0
  by_cases h1 : T.length = 1
  case neg =>
    have e1 : ((T.length : Int) == 1) = false := beq_false_of_ne (by omega)
    go_wp2_with fail
    go_ret
    exact ⟨_, rfl, HB2.out⟩
  obtain ⟨p, rfl⟩ : ∃ p, T = [p] := List.length_eq_one_iff.1 h1
  obtain ⟨ad, rfl, _, hcs⟩ := HR2.out.tokAt (k := 0) (p := p) rfl
  have HCS := Lib.hid hcs
  have hz : ad.add 0 = ad := by cases ad with | mk b o t => cases t <;> simp [Addr.add]
  have a0 : w2.cell? ad = some (.int .i64 p.k) := by have h9 := hcs 0 _ rfl; rw [add_of_add] at h9; rw [← hz]; simpa using h9
  have a1 : w2.cell? ⟨ad.block, ad.off + 1, none⟩ = some (.string p.s) := by have h9 := hcs 1 _ rfl; rw [add_of_add] at h9; simpa [Addr.add] using h9
  have a2 : w2.cell? ⟨ad.block, ad.off + 2, none⟩ = some (.int .i64 p.at_) := by have h9 := hcs 2 _ rfl; rw [add_of_add] at h9; simpa [Addr.add] using h9
  clear hcs
  by_cases h2 : p.k = kind
  case neg =>
    have e2 : (p.k == kind) = false := beq_false_of_ne h2
    go_wp2_with fail
    go_ret
    exact ⟨_, rfl, HB2.out⟩
  have e2 : (p.k == kind) = true := beq_iff_eq.2 h2
  cases h3 : (p.s.toList == s.toList) with
  | false =>
    go_wp2_with fail
    go_ret
    exact ⟨_, rfl, HB2.out⟩
  | true =>
    go_wp2_with fail
    go_ret
    exact ⟨_, rfl, HB2.out⟩
set_option maxRecDepth 100000 in
set_option maxHeartbeats 4000000 in
theorem c30 (s : ByteArray) (hs : s.size ≤ 3000) (w : World) : Calls Tryd.prog 30 #[.string s] w (BoolEnd w) := by
  have HC := Lib.hid (c49 s 1 hs w)
  go_enter Tryd.func30, Tryd.ntmps30
  go_wp2_with fail
  refine HC.out.mono ?_
  rintro e w1 ⟨r, rfl, hb⟩
  have HB := Lib.hid hb
  clear hb
  go_wp2_with fail
  go_ret
  exact ⟨_, rfl, HB.out⟩
set_option maxRecDepth 100000 in
set_option maxHeartbeats 4000000 in
theorem c31 (s : ByteArray) (hs : s.size ≤ 3000) (w : World) : Calls Tryd.prog 31 #[.string s] w (BoolEnd w) := by
  have HC := Lib.hid (c49 s 2 hs w)
  go_enter Tryd.func31, Tryd.ntmps31
  go_wp2_with fail
  refine HC.out.mono ?_
  rintro e w1 ⟨r, rfl, hb⟩
  have HB := Lib.hid hb
  clear hb
  go_wp2_with fail
  go_ret
  exact ⟨_, rfl, HB.out⟩
def StrEnd (w : World) (e : Ending) (w' : World) : Prop := ∃ q : ByteArray, e = .returned (.string q) ∧ Below w.heap.size w w'
set_option maxRecDepth 100000 in
set_option maxHeartbeats 4000000 in
theorem c32 (s : ByteArray) (hs : s.size ≤ 3000) (w : World) : Calls Tryd.prog 32 #[.string s] w (StrEnd w) := by
  go_enter Tryd.func32, Tryd.ntmps32
  go_wp2_with fail
  go_loopw [3, 4] (fun o i wr => ∃ (k : Nat) (q : ByteArray), k ≤ s.size ∧ i = .int .i64 k ∧ o = .string q ∧ q.size ≤ 2 * k + 1 ∧ wr = w) (fun _ i _ => s.size - (intOf i).toNat)
  case atStart => exact ⟨0, ⟨#[34]⟩, by omega, rfl, rfl, by decide, rfl⟩
  case round =>
    obtain ⟨k, q, hk, rfl, rfl, hq, rfl⟩ := hrel
    have HQ := Lib.hid hq
    have hq2 : q.size ≤ 6001 := by omega
    clear hq
    by_cases hlt : k < s.size
    · have hlk : (k : Int) < (s.size : Int) := by omega
      have hk0 : (0 : Int) ≤ (k : Int) := by omega
      have hk1 : (k : Int) ≤ (k : Int) + 1 := by omega
      have hk2 : (k : Int) + 1 ≤ (s.size : Int) := by omega
      go_wp2_with fail
      all_goals first
        | (go_ret; exact ⟨_, rfl, Below.refl _ _⟩)
        | exact ⟨⟨k + 1, _, by omega, by go_num, rfl, by have := HQ.out; simp only [ByteArray.size_append, ByteArray.size_extract, show (ByteArray.mk #[92, 110]).size = 2 from rfl, show (ByteArray.mk #[92]).size = 1 from rfl]; omega, by first | rfl | trivial⟩, by simp [intOf]; omega⟩
    · obtain rfl : k = s.size := by omega
      have hlk : ¬ ((s.size : Int) < (s.size : Int)) := by omega
      go_wp2_with fail
      all_goals (go_ret; exact ⟨_, rfl, Below.refl _ _⟩)
end Go.Proofs.YtphojigdapaaiaaDoor
