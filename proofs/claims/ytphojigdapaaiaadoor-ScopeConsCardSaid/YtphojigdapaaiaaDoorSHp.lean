/- Short words for the walks of layer 18: an operation of a drawn region taken early; one end for many ways. -/
import Derived.Test.YtphojigdapaaiaaDoorRLast
import Derived.OrdersHeld
namespace Go.Proofs.YtphojigdapaaiaaDoor
section
variable {P : Program} {md : Region.Mode} {ops : Array Oper} {Q : Exit → Act → World → Prop} {S : World → Prop}
/-- Operation i is wanted; what it gives does not hang on the order. -/
theorem tkH (i : Nat) (d : Tmp) {op : Op} {ty : TypeId} {pos : String} {after : Array Edge} {guard : Option (Nat × Bool)} (v : Value) {fuel : Nat} {listed : Array Bool} {a : Act} {w : World} (hi : ops[i]? = some ⟨some d, op, ty, pos, after, guard⟩)
    (hy : ∀ w, S w → (execOp a.eval ⟨some d, op, ty, pos, after, guard⟩).run P w = .ok (.value v) w) (h : wpAnyH P md ops Q S fuel (listed.setIfInBounds i true) (a.put (some d) v) w)
    (hs : Region.noSelect ops = true := by kernel_rfl) (hf : Region.free md ops listed i = true := by kernel_rfl) (hr : (Region.ready md ops listed).contains i = true := by kernel_rfl)
    (hQ : ∀ c a w, Q (.panic c) (a.put (some d) v) w → Q (.panic c) a w := by exact fun _ _ _ h => h) (hw : Region.wanted ⟨some d, op, ty, pos, after, guard⟩ (yielded ops a.tmps) = true := by kernel_rfl) (hS : S w := by assumption) : wpAnyH P md ops Q S (fuel + 1) listed a w :=
  wpAnyH_take hi hs hf hr hQ (Or.inl ⟨hw, hy⟩) hS h
end
theorem sLA {α : Type} {l : List α} {i : Nat} {v : α} : l.toArray.setIfInBounds i v = (l.set i v).toArray := List.setIfInBounds_toArray ..
theorem sL0 {α : Type} {x : α} {l : List α} {v : α} : (x :: l).set 0 v = v :: l := rfl
theorem sL1 {α : Type} {x : α} {l : List α} {n : Nat} {v : α} : (x :: l).set (n + 1) v = x :: l.set n v := rfl
/-- One end for many ways: what is left to show, as a word of what the ways differ in. -/
theorem cutT {α β γ δ ε : Type} {F : α → β → γ → δ → ε → Prop} {G : Prop} (T : α → β → γ → δ → ε → Prop) (h : (∀ a b c d e, F a b c d e → T a b c d e) → G) (k : ∀ a b c d e, F a b c d e → T a b c d e) : G := h k
end Go.Proofs.YtphojigdapaaiaaDoor
