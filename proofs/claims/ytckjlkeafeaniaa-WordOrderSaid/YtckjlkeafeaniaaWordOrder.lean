/- Proved: stockpotlaw01.WordOrder returns true whatever its arguments are, and each argument reads afterwards as it read before. Conditions: none. -/
import Derived.Test.YtckjlkeafeaniaaWakes
namespace Go.Proofs.Ytckjlkeafeaniaa.lawWordOrder
open Go.ChangeShapes Go.WideShapes Go.ChangeAt Go.RowKit
set_option linter.unusedVariables false

theorem cells37 : Try.prog.cellsOf 37 = 2 := by kernel_rfl
theorem cells33 : Try.prog.cellsOf 33 = 1 := by kernel_rfl
/-- An array of two numbers of 32 bits, opened. -/
theorem open_two {H : Type} {enc : TypeId × Value → H} {W : World} {base b : Nat} {sp : Nat → Bool} {held : Bool} {v : Value} {d : DataW H} {p : List MemPlace} (hv : Value.okWide Try.prog W .any base 37 v) (h : DataW.Trod enc Try.prog W b sp held 37 v d p) :
    ∃ x y, v = .agg #[.int .u32 x, .int .u32 y] ∧ (Lit.int .u32 x).wf = true ∧ (Lit.int .u32 y).wf = true := by
  unfold Value.okWide at hv
  rw [Try.underlying37] at hv
  obtain ⟨cs, rfl, hsz, _⟩ := hv
  rw [cells37] at hsz
  obtain ⟨l⟩ := cs
  obtain ⟨fuel, hf⟩ := h
  obtain ⟨xs, m, _, _, _, hlen, hg⟩ := DataW.trod_array Try.underlying37 hf
  rw [cells33] at hg
  have hsz' : l.length = 2 := hsz
  match l, hsz' with
  | [c0, c1], _ =>
    match xs, hlen with
    | [y0, y1], _ =>
      have g0 : DataW.trod enc Try.prog W b sp held m 33 [c0] = some y0 := hg 0 (by decide)
      have g1 : DataW.trod enc Try.prog W b sp held m 33 [c1] = some y1 := hg 1 (by decide)
      obtain ⟨a, e0, _, wa⟩ := DataW.trod_int Try.underlying33 g0
      obtain ⟨c, e1, _, wc⟩ := DataW.trod_int Try.underlying33 g1
      simp at e0 e1
      subst e0 e1
      exact ⟨a, c, rfl, wa, wc⟩

set_option maxRecDepth 100000 in
theorem lifted (os : Os) (started : os.Started) (H : Type) (enc : TypeId × Value → H) :
    ReturnsInHanded {} Try.checked os 6 .any (Rows.wordOrderSpec.pre6 enc Try.prog Try.f6 Rows.wordOrderRow.domain false) (Rows.wordOrderSpec.post enc Try.prog Try.f6 false true false false) := by
  refine returnsInHanded_of_change (C := Try.checked) own started (by kernel_rfl) Try.func6
    (ChangeSpec.witness6 (enc := enc) (C := Try.checked) false ⟨#[], #[.int .i64 0, .int .i64 0, .agg #[.int .u32 0, .int .u32 0]], []⟩ 8 (by kernel_rfl) (by kernel_rfl) (by kernel_rfl) (by kernel_rfl)) ?_
  intro W base args ds gs before hval0 hW hcnd _
  have hval : ∀ (j : Nat) t v, Try.f6.params[j]? = some t → args[j]? = some v → Value.okWide Try.prog W .any base t v := hval0
  have hW' := hW
  obtain ⟨p, q, hA0, hV, rfl, hfz, hnd⟩ := hW
  have hA : DataW.TrodAll enc Try.prog W 0 (fun _ => true) true Try.f6.params.toList args.toList ds p := hA0
  rw [Try.params6] at hA hval
  obtain ⟨v0, vs0, d0, ds0, p0, q0, hargs, rfl, rfl, h0, r0⟩ := trodAll_cons hA
  obtain ⟨v1, vs1, d1, ds1, p1, q1, rfl, rfl, rfl, h1, r1⟩ := trodAll_cons r0
  obtain ⟨v2, vs2, d2, ds2, p2, q2, rfl, rfl, rfl, h2, r2⟩ := trodAll_cons r1
  obtain ⟨rfl, rfl, rfl⟩ := trodAll_nil r2
  obtain rfl : args = #[v0, v1, v2] := by cases args; simp_all
  obtain ⟨a0, rfl, rfl, rfl, w0⟩ := open_int Try.underlying2 (hval 0 2 v0 rfl rfl) h0
  obtain ⟨a1, rfl, rfl, rfl, w1⟩ := open_int Try.underlying2 (hval 1 2 v1 rfl rfl) h1
  obtain ⟨a2, a3, rfl, w2, w3⟩ := open_two (hval 2 37 v2 rfl rfl) h2
  clear hA0 hval0
  refine (c6 a0 a1 a2 a3 (by have := bounds_u32 w2; omega) (by have := bounds_u32 w2; omega) (by have := bounds_u32 w3; omega) (by have := bounds_u32 w3; omega) W).mono fun e W' ⟨he, hb⟩ => ?_
  subst he
  exact ⟨_, rfl, law_post (tb := 4) laidOut (by rw [Try.params6]; exact of_decide_eq_true (by kernel_rfl)) rfl Try.underlying4 rfl hW' rfl rfl rfl hb⟩

theorem over : Rows.wordOrderRow.holds Try.pinned (OpenSpec.ofChange Rows.wordOrderSpec) :=
  OpenClaim.holds_of_wide 6 Try.f6 rfl rfl rfl rfl rfl rfl rfl ⟨rfl, rfl, rfl, rfl, rfl⟩ rfl rfl rfl rfl rfl (by kernel_rfl) Try.func6 (by kernel_rfl)
    (of_decide_eq_true (by kernel_rfl)) (by unfold Func.isWrapper; first | (rw [if_pos (by decide +kernel)]; kernel_rfl) | (rw [if_neg (by decide +kernel)]; exact ⟨rfl, rfl⟩))
    (fun os started H enc _ => lifted os started H enc)

theorem proved : Rows.WordOrderSaid := over
end Go.Proofs.Ytckjlkeafeaniaa.lawWordOrder
