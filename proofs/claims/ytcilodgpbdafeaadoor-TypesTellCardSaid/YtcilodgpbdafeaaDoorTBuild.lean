/- Types as data: a type over others; what may be sent. -/
import Derived.Test.YtcilodgpbdafeaaDoorTNorm
namespace Go.Proofs.YtcilodgpbdafeaaDoor
set_option linter.unusedVariables false
set_option linter.unusedSimpArgs false
def shift (d : Nat) (p : Part) : Part :=
  if p.k = 6 ∨ p.k = 8 then { p with a := p.a + d, b := p.b + d } else if p.k = 7 ∨ p.k = 9 then { p with a := p.a + d } else p
def twoL (k : Int) (a b : List Part) : List Part := a ++ b.map (shift a.length) ++ [⟨k, (a.length : Int) - 1, ((a.length : Int) + b.length) - 1, 0, []⟩]
def overL (k : Int) (a : List Part) : List Part := a ++ [⟨k, (a.length : Int) - 1, 0, 0, []⟩]
theorem enc_shift (d : Nat) (T : Ty) : ∀ o, T.wf → enc (o + d) T = (enc o T).map (shift d) := by
  induction T with
  | leaf k t =>
    intro o h
    show [_] = [_]
    unfold shift
    rw [if_neg (by simp only [Ty.wf] at h; simp only; omega), if_neg (by simp only [Ty.wf] at h; simp only; omega)]
  | var n => intro o _; rfl
  | one k s ih =>
    intro o h
    have hp := s.size_pos
    show enc (o + d) s ++ [_] = (enc o s ++ [_]).map _
    rw [List.map_append, ih o h.2]
    congr 1
    show [_] = [shift d _]
    unfold shift
    rw [if_neg (by have := h.1; simp only; omega), if_pos h.1]
    congr 2
    simp only
    omega
  | two k s u ih1 ih2 =>
    intro o h
    have hp := s.size_pos
    have hq := u.size_pos
    show enc (o + d) s ++ enc (o + d + s.size) u ++ [_] = (enc o s ++ enc (o + s.size) u ++ [_]).map _
    rw [List.map_append, List.map_append, ih1 o h.2.1, show o + d + s.size = o + s.size + d by omega, ih2 _ h.2.2]
    congr 1
    show [_] = [shift d _]
    unfold shift
    rw [if_pos h.1]
    congr 2 <;> simp only <;> omega
theorem twoL_enc {S U : Ty} (k : Int) (hU : U.wf) : twoL k (enc 0 S) (enc 0 U) = enc 0 (.two k S U) := by
  have hp := S.size_pos
  have hq := U.size_pos
  unfold twoL
  rw [enc_len, enc_len, ← enc_shift S.size U 0 hU]
  show _ = enc 0 S ++ enc (0 + S.size) U ++ [_]
  congr 3 <;> omega
theorem overL_enc {S : Ty} (k : Int) : overL k (enc 0 S) = enc 0 (.one k S) := by
  have hp := S.size_pos
  unfold overL
  rw [enc_len]
  show _ = enc 0 S ++ [_]
  congr 3
  omega
theorem two_good {a b : List Part} (ha : gTy a = true) (hb : gTy b = true) (h : a.length + b.length < 200) {k : Int} (hk : k = 6 ∨ k = 8) : gTy (twoL k a b) = true := by
  obtain ⟨S, wS, rfl, _⟩ := (gTy_iff a).1 ha
  obtain ⟨U, wU, rfl, _⟩ := (gTy_iff b).1 hb
  rw [enc_len, enc_len] at h
  exact (gTy_iff _).2 ⟨.two k S U, ⟨hk, wS, wU⟩, twoL_enc k wU, by simp only [Ty.size]; omega⟩
theorem over_good {a : List Part} (ha : gTy a = true) (h : a.length < 200) {k : Int} (hk : k = 7 ∨ k = 9) : gTy (overL k a) = true := by
  obtain ⟨S, wS, rfl, _⟩ := (gTy_iff a).1 ha
  rw [enc_len] at h
  exact (gTy_iff _).2 ⟨.one k S, ⟨hk, wS⟩, overL_enc k, by simp only [Ty.size]; omega⟩
def stays (k : Int) : Bool := k == 11 || k == 8 || k == 9 || k == 5
def plainK (l : List Part) : Bool := l.all fun p => !stays p.k
def gSend (l : List Part) : Bool := plainK l && gTy l
theorem shift_k (d : Nat) (p : Part) : (shift d p).k = p.k := by
  unfold shift
  split
  · rfl
  · split <;> rfl
theorem plainK_two (k : Int) (a b : List Part) : plainK (twoL k a b) = (plainK a && plainK b && !stays k) := by
  unfold plainK twoL
  rw [List.all_append, List.all_append, List.all_map]
  congr 1
  · congr 1
    refine List.all_congr rfl fun p => ?_
    show (!stays (shift _ p).k) = _
    rw [shift_k]
  · simp
theorem plainK_over (k : Int) (a : List Part) : plainK (overL k a) = (plainK a && !stays k) := by
  unfold plainK overL
  rw [List.all_append]
  simp
theorem closed_two {k : Int} {a b : List Part} (ha : closed a = true) (hb : closed b = true) (hk : (k == 11) = false) : closed (twoL k a b) = true := by
  unfold closed twoL at *
  rw [List.all_append, List.all_append, List.all_map, ha]
  rw [Bool.true_and, Bool.and_eq_true]
  refine ⟨?_, by simp [hk]⟩
  rw [← hb]
  refine List.all_congr rfl fun p => ?_
  show (!((shift _ p).k == 11)) = _
  rw [shift_k]
theorem closed_over {k : Int} {a : List Part} (ha : closed a = true) (hk : (k == 11) = false) : closed (overL k a) = true := by
  unfold closed overL at *
  rw [List.all_append, ha]
  simp [hk]
end Go.Proofs.YtcilodgpbdafeaaDoor
