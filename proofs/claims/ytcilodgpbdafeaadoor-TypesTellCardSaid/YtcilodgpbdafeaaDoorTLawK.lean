/- Words that the laws' walks share. -/
import Derived.Test.YtcilodgpbdafeaaDoorTLawO
namespace Go.Proofs.YtcilodgpbdafeaaDoor
open Go.ChangeShapes Go.WideShapes Go.ChangeAt Go.RowKit
set_option linter.unusedVariables false
set_option linter.unusedSimpArgs false
theorem bulk_txt {l : List Part} {p : Part} (hp : p ∈ l) (h : bulk l ≤ 3000) : p.t.length ≤ 3000 := by
  induction l with
  | nil => cases hp
  | cons q l ih =>
    have hc : bulk (q :: l) = (1 + min q.t.length 3000) + bulk l := by unfold bulk; rw [List.map_cons, List.sum_cons]
    rw [hc] at h
    rcases List.mem_cons.1 hp with rfl | hp
    · omega
    · exact ih hp (by omega)
theorem large_txt {l : List Part} (h : large l = false) : ∀ p ∈ l, p.t.length ≤ 3000 := fun p hp => by
  unfold large at h
  rw [Bool.or_eq_false_iff] at h
  have := of_decide_eq_false h.1
  exact bulk_txt hp (by omega)
theorem tree_of {l : List Part} (h : gTy l = true) : ∃ T : Ty, T.wf ∧ norm l = enc 0 T := by
  obtain ⟨T, hw, e, _⟩ := (gTy_iff _).1 (norm_good h)
  exact ⟨T, hw, e⟩
/-- A type's normal one, handed back. -/
theorem norm_back {l : List Part} {W W' : World} {v : Value} (h : W'.ownsRow W.heap.size 29 5 v l.length ((norm l).flatMap partC)) : ∃ A c, v = .slice A l.length c ∧ RT W' A (norm l) := by
  obtain ⟨A, c, rfl⟩ := own_form h
  refine ⟨A, c, rfl, ?_⟩
  have hr := Reads.of_own h
  unfold RT
  rw [norm_len]
  exact hr
theorem c20n (l : List Part) (A : Option Addr) (c : Nat) (W : World) (ha : RT W A (norm l)) : Calls Tryd.prog 20 #[.slice A l.length c] W (NormEnd (norm l) W) := by
  have h := c20 (norm l) A c W ha
  rw [norm_len] at h
  exact h
theorem c18n (l l' : List Part) (A A' : Option Addr) (c c' : Nat) (W : World) (hr : RT W A (norm l)) (hr' : RT W A' (norm l')) (hm : l.length ≤ 3000) :
    Calls Tryd.prog 18 #[.slice A l.length c, .slice A' l'.length c'] W fun e w' => e = .returned (.bool (decide (norm l = norm l'))) ∧ Below W.heap.size W w' := by
  have h := c18 (norm l) (norm l') A A' c c' W hr hr' (by rw [norm_len]; exact hm)
  rw [norm_len, norm_len] at h
  exact h
theorem c16r (l b : List Part) (A A' : Option Addr) (c c' : Nat) (W : World) (ha : RT W A l) (hb : RT W A' (norm b)) : Calls Tryd.prog 16 #[.slice A l.length c, .slice A' b.length c'] W (MatchEnd l (norm b) W) := by
  have h := c16 l (norm b) A A' c c' W ha hb
  rw [norm_len] at h
  exact h
theorem c16l (a l : List Part) (A A' : Option Addr) (c c' : Nat) (W : World) (ha : RT W A (norm a)) (hb : RT W A' l) : Calls Tryd.prog 16 #[.slice A a.length c, .slice A' l.length c'] W (MatchEnd (norm a) l W) := by
  have h := c16 (norm a) l A A' c c' W ha hb
  rw [norm_len] at h
  exact h
theorem str_self (s : List UInt8) : ((⟨s.toArray⟩ : ByteArray) == ⟨s.toArray⟩) = true := by rw [strV_beq]; simp
end Go.Proofs.YtcilodgpbdafeaaDoor
