/- Regions that draw their order and end in one store that waits for all else: what the loads read need hold only till then. No program in sight. -/
import Derived.Test.YtphojigdapaaiaaDoorMem
import Derived.StillTail
import Derived.Deep.RegionHeld3
namespace Go.Proofs.YtphojigdapaaiaaDoor
section
variable {P : Program} {ops : Array Oper} {md : Region.Mode} {S : World → Prop} {Q Q' : Exit → Act → World → Prop}
/-- The operations whose order binds wait for earlier ones alone. -/
def backB (md : Region.Mode) (ops : Array Oper) : Bool :=
  (List.range ops.size).all fun i => ((ops[i]?).map (·.after.all fun e => !Region.binds md e || decide (e.on < i))).getD true
theorem backB_spec (h : backB md ops = true) {i : Nat} {o : Oper} (ho : ops[i]? = some o) : ∀ e ∈ o.after, Region.binds md e = true → e.on < i := by
  intro e he hb
  have hi : i < ops.size := (Array.getElem?_eq_some_iff.1 ho).1
  have h1 := List.all_eq_true.1 h i (List.mem_range.2 hi)
  rw [ho] at h1
  simp only [Option.map_some, Option.getD_some] at h1
  have h2 := Array.all_eq_true_iff_forall_mem.1 h1 e he
  rw [hb] at h2
  simpa using h2
theorem oper_wp_exit {o : Oper} {a : Act} {w : World} {K K' : Act → World → Prop} (hK : ∀ a w, K a w → K' a w) (hQ : ∀ e a w, e ≠ .normal → Q e a w → Q' e a w) (h : o.wp P a w K Q) : o.wp P a w K' Q' := by
  unfold Oper.wp at *
  generalize (execOp a.eval o).run P w = r at *
  cases r with
  | ok n w' =>
    cases n <;> simp only [Oper.upon] at h ⊢
    case value u => exact hK _ _ h
    case skip => exact hK _ _ h
    case defer d => exact hK _ _ h
    case enter f args =>
      refine Calls.mono h fun e w'' he => ?_
      cases e with
      | returned u => exact hK _ _ he
      | panicked c => exact hQ _ _ _ (by simp) he
      | outgrown =>
        obtain ⟨a2, w2, h2⟩ := he
        exact ⟨a2, w2, hQ _ _ _ (by simp) h2⟩
    case row row args => exact Rows.mono h fun u w'' he => hK _ _ he
  | halt x w' =>
    cases x <;> simp only [Oper.upon] at h ⊢
    case panic u => exact hQ _ _ _ (by simp) h
theorem wpOp_exit {i : Nat} {a : Act} {w : World} {K K' : Act → World → Prop} (hK : ∀ a w, K a w → K' a w) (hQ : ∀ e a w, e ≠ .normal → Q e a w → Q' e a w) (h : wpOp P ops Q i K a w) : wpOp P ops Q' i K' a w := by
  unfold wpOp at *
  cases ho : ops[i]? with
  | none => rw [ho] at h; exact hK _ _ h
  | some o =>
    rw [ho] at h
    simp only at h ⊢
    split
    · rename_i hw
      rw [if_pos hw] at h
      rcases h with h | ⟨h1, h2⟩
      · exact .inl (oper_wp_exit hK hQ h)
      · obtain ⟨a2, w2, h3⟩ := h2
        exact .inr ⟨h1, a2, w2, hQ _ _ _ (by simp) h3⟩
    · rename_i hw
      rw [if_neg hw] at h
      exact hK _ _ h
/-- The post of all but the last operation: then the last one. -/
def LastPost (P : Program) (ops : Array Oper) (Q : Exit → Act → World → Prop) (z : Nat) : Exit → Act → World → Prop
  | .normal, a, w => wpOp P ops Q z (fun a' w' => Q .normal a' w') a w
  | e, a, w => Q e a w
theorem LastPost.exit {z : Nat} : ∀ (e : Exit) (a : Act) (w : World), e ≠ .normal → LastPost P ops Q z e a w → Q e a w := by
  intro e a w he h
  cases e <;> first | exact absurd rfl he | exact h
theorem ready_set {z j : Nat} {listed : Array Bool} (hj : j ∈ Region.ready md ops listed) (hne : j ≠ z) : j ∈ Region.ready md ops (listed.setIfInBounds z true) := ready_mono hj hne
/-- All but the last have come up: no earlier one is ready only where none is left. -/
theorem all_listed {z : Nat} {listed : Array Bool} (hb : backB md ops = true) (hz : ops.size = z + 1) (inv : HeadInv md ops z listed) (hr : Region.ready md ops (listed.setIfInBounds z true) = []) :
    ∀ i, i < z → listed.getD i false = true := by
  intro i
  induction i using Nat.strongRecOn with
  | _ i ih =>
    intro hi
    cases hl : listed.getD i false with
    | true => rfl
    | false =>
      exfalso
      have his : i < listed.size := by rw [inv.size]; omega
      have hio : i < ops.size := by omega
      have hmem : i ∈ Region.ready md ops (listed.setIfInBounds z true) := by
        refine ready_set (mem_ready.2 ⟨getD_in his hl, ops[i], Array.getElem?_eq_getElem hio, fun e he hbd => ?_⟩) (by omega)
        have hlt := backB_spec hb (Array.getElem?_eq_getElem hio) e he hbd
        exact ih e.on hlt (by omega)
      rw [hr] at hmem
      cases hmem
theorem wpAny_last {z : Nat} (hz : ops.size = z + 1) (hs : Region.sinkB md ops z = true) (hb : backB md ops = true) :
    ∀ (fuel : Nat) (listed : Array Bool) (a : Act) (w : World), HeadInv md ops z listed → wpAny P md ops (LastPost P ops Q z) fuel (listed.setIfInBounds z true) a w → wpAny P md ops Q (fuel + 1) listed a w := by
  have hc : Region.chainB md ops z = true := by
    unfold Region.chainB
    rw [List.all_eq_true]
    intro t ht
    have := List.mem_range.1 ht
    simp only [Bool.or_eq_true, decide_eq_true_eq]
    left; omega
  have done : ∀ (fuel : Nat) (listed : Array Bool) (a : Act) (w : World), HeadInv md ops z listed → Region.ready md ops (listed.setIfInBounds z true) = [] → LastPost P ops Q z .normal a w → wpAny P md ops Q (fuel + 1) listed a w := by
    intro fuel listed a w inv hr hq
    have hall := all_listed hb hz inv hr
    have hzr : z ∈ Region.ready md ops listed := by
      have hzo : z < ops.size := by omega
      refine mem_ready.2 ⟨inv.tail z (Nat.le_refl _) hzo, ops[z], Array.getElem?_eq_getElem hzo, fun e he hbd => ?_⟩
      exact hall e.on (backB_spec hb (Array.getElem?_eq_getElem hzo) e he hbd)
    refine ⟨fun h => (by rw [h] at hzr; cases hzr), fun j hj => ?_⟩
    have hjz : j = z := by
      obtain ⟨h0, o, ho, _⟩ := mem_ready.1 hj
      have hjlt : j < ops.size := (Array.getElem?_eq_some_iff.1 ho).1
      rcases Nat.lt_or_ge j z with h | h
      · have h1 := hall j h
        have hjs : j < listed.size := by rw [inv.size]; omega
        simp [hjs] at h0 h1
        rw [h0] at h1
        cases h1
      · omega
    subst hjz
    exact wpOp_exit (fun a' w' h => wpAny_done hr h fuel) (fun e a w _ h => h) hq
  intro fuel
  induction fuel with
  | zero => intro listed a w inv h; exact done 0 listed a w inv h.1 h.2
  | succ fuel ih =>
    intro listed a w inv h
    by_cases hr : Region.ready md ops (listed.setIfInBounds z true) = []
    · exact done _ listed a w inv hr (h.1 hr)
    · obtain ⟨i0, hi0⟩ := List.exists_mem_of_ne_nil _ hr
      have hi0' : i0 < z ∧ listed.getD i0 true = false := by
        obtain ⟨h0, o, ho, _⟩ := mem_ready.1 hi0
        have hlt : i0 < ops.size := (Array.getElem?_eq_some_iff.1 ho).1
        have hne : i0 ≠ z := by
          rintro rfl
          have : i0 < listed.size := by rw [inv.size]; omega
          simp [this] at h0
        rw [getD_set_ne true (Ne.symm hne)] at h0
        exact ⟨by omega, h0⟩
      have hzn := tail_waits hs hc (by omega) inv _ i0 rfl hi0'.1 hi0'.2 z (Nat.le_refl _)
      refine ⟨fun h0 => ?_, fun j hj => ?_⟩
      · exfalso
        have : i0 ∈ Region.ready md ops listed := by
          obtain ⟨h1, o, ho, hall⟩ := mem_ready.1 hi0
          refine mem_ready.2 ⟨hi0'.2, o, ho, fun e he hbd => ?_⟩
          have h2 := hall e he hbd
          have h3 := backB_spec hb ho e he hbd
          rw [getD_set_ne false (by omega)] at h2
          exact h2
        rw [h0] at this
        cases this
      · have hjz : j ≠ z := by rintro rfl; exact hzn hj
        have hjlt : j < z := by
          obtain ⟨_, o, ho, _⟩ := mem_ready.1 hj
          have := (Array.getElem?_eq_some_iff.1 ho).1
          omega
        refine wpOp_exit (fun a' w' hk => ih _ a' w' (inv.set hj hjlt) ?_) LastPost.exit (h.2 j (ready_set hj hjz))
        rw [Array.setIfInBounds_comm _ _ hjz]
        exact hk
/-- THE BEGINNING: the last operation waits for all else; it is carried out at the end. -/
theorem wp_region_last {id : Nat} {a : Act} {w : World} (z : Nat) (hm : P.follows .mixedOrders = true) (hz : (ops.size == z + 1) = true) (hs : Region.sinkB .any ops z = true) (hb : backB .any ops = true) (hS : S w.drew)
    (h : S w.drew → wpAnyH P .any ops (LastPost P ops Q z) S z ((Array.replicate ops.size false).setIfInBounds z true) a w.drew) : (Code.region id ops true).wp P Q a w := by
  have hz' : ops.size = z + 1 := by simpa using hz
  refine wp_region_any hm ?_
  have h1 := wpAny_last (P := P) (Q := Q) hz' hs hb z (Array.replicate ops.size false) a w.drew ⟨by simp, fun j oj _ hl => ?_, fun t _ ht => by simp [ht]⟩ (wpAny_of_held _ _ _ _ (h hS))
  · rw [← hz'] at h1
    exact h1
  · rw [getD_replicate_false] at hl
    cases hl
/-- The last operation, run. -/
theorem lastPost_run {z : Nat} {o : Oper} {a : Act} {w : World} (ho : ops[z]? = some o)
    (h : ∀ K' : Act → World → Prop, Shut (∀ a w, Q .normal a w → K' a w) → if Region.wanted o (yielded ops a.tmps) = true then Oper.wp P o a w K' Q else K' (a.put o.dst undef) w) : LastPost P ops Q z .normal a w :=
  wpOp_step ho (fun K' hK => h K' hK)
end
end Go.Proofs.YtphojigdapaaiaaDoor
