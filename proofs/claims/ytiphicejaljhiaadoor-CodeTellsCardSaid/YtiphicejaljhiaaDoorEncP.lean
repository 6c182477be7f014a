/- Lengths of what is written. -/
import Derived.Test.YtiphicejaljhiaaDoorWrFun
import Derived.Test.YtiphicejaljhiaaDoorWrForm
import Derived.Test.YtiphicejaljhiaaDoorGood
import Derived.Lib.AppendStr
namespace Go.Proofs.YtiphicejaljhiaaDoor
open Go.ChangeShapes Go.WideShapes Go.ChangeAt Go.RowKit
theorem strCells_eq (l : List UInt8) : Lib.strCells ⟨l.toArray⟩ = cellsB l := by
  simp [Lib.strCells, cellsB]
theorem gFns_mem : ∀ (l : List Fn) (z : Bool), gFns z l = true → ∀ f ∈ l, f.code.all insGood = true ∧ f.code.length ≤ 600 := by
  intro l
  induction l with
  | nil => intro _ _ f hf; cases hf
  | cons x l ih =>
    intro z h f hf
    simp only [gFns, Bool.and_eq_true] at h
    rcases List.mem_cons.1 hf with rfl | hf
    · have h1 := h.1
      unfold gFn at h1
      simp only [Bool.and_eq_true, betw_iff] at h1
      exact ⟨h1.1, by omega⟩
    · exact ih false h.2 f hf
theorem flat_le {α : Type} (f : α → List UInt8) (m : Nat) : ∀ (l : List α), (∀ x ∈ l, (f x).length ≤ m) → (l.flatMap f).length ≤ l.length * m := by
  intro l
  induction l with
  | nil => intro _; simp
  | cons x l ih =>
    intro h
    have h1 := h x (by simp)
    have h2 := ih (fun y hy => h y (by simp [hy]))
    rw [List.flatMap_cons, List.length_append, List.length_cons, Nat.succ_mul]
    omega
theorem eIns_len (i : Ins) : (eIns i).length ≤ 10 := by
  have := wid_le i.o
  unfold eIns
  simp only [List.length_append, numB_len]
  split <;> simp [numB_len] <;> omega
theorem eFn_len (f : Fn) (h : f.code.length ≤ 600) : (eFn f).length ≤ 6004 := by
  have := flat_le eIns 10 f.code (fun i _ => eIns_len i)
  unfold eFn
  simp only [List.length_append, numB_len]
  omega
theorem eFm_len (f : Fm) (h : f.cons.length ≤ 20) : (eFm f).length ≤ 24 := by
  have := flat_le (fun c => numB c 1) 1 f.cons (fun i _ => by rw [numB_len]; exact Nat.le_refl _)
  unfold eFm
  simp only [List.length_append, numB_len]
  omega
theorem gFm_len {f : Fm} {n : Int} (h : gFm f n = true) : f.cons.length ≤ 20 := by
  unfold gFm at h
  simp only [Bool.and_eq_true, betw_iff] at h
  obtain ⟨_, _, _, _, h4⟩ := h
  split at h4 <;> omega
theorem ePr_len {p : Pr} (h : gPr p = true) : (ePr p).length ≤ 1000000 := by
  unfold gPr at h
  simp only [Bool.and_eq_true, betw_iff, decide_eq_true_eq, List.all_eq_true] at h
  obtain ⟨⟨h1, h2, h3⟩, h4, h5, h6⟩ := h
  have a1 := flat_le eFn 6004 p.funcs (fun f hf => eFn_len f (gFns_mem _ _ h4 f hf).2)
  have a2 := flat_le eStr 61 p.strs (fun s hs => by have := h5 s hs; simp [eStr, numB_len]; omega)
  have a3 := flat_le eFm 24 p.forms (fun f hf => eFm_len f (gFm_len (h6 f hf)))
  have b1 : p.funcs.length * 6004 ≤ 60 * 6004 := Nat.mul_le_mul_right _ (by omega)
  have b2 : p.strs.length * 61 ≤ 40 * 61 := Nat.mul_le_mul_right _ h2
  have b3 : p.forms.length * 24 ≤ 40 * 24 := Nat.mul_le_mul_right _ h3
  unfold ePr
  simp only [List.length_append, numB_len]
  omega
def gEnc (p : Pr) : List UInt8 := if gPr p then ePr p else []
end Go.Proofs.YtiphicejaljhiaaDoor
