/- Terms in memory: nodes as blocks; what a node is by now (find). -/
import Derived.Test.YtcilodgpbdafeaaDoorPMap
import Derived.Test.YtcilodgpbdafeaaDoorTMeet
namespace Go.Proofs.YtcilodgpbdafeaaDoor
open Go.ChangeShapes Go.WideShapes Go.ChangeAt Go.RowKit
set_option linter.unusedVariables false
set_option linter.unusedSimpArgs false
def optP : Option Nat → Value
  | none => .pointer none
  | some g => ptr g
def Nd.cells (d : Nd) : Array Value := #[.int .i64 d.k, strV d.t, optP d.a, optP d.b, optP d.to]
/-- The nodes of N lie in memory. -/
def TMem (W : World) (N : Nat → Option Nd) : Prop := ∀ g d, N g = some d → Blk W g 69 d.cells
section
variable {W W' : World} {N : Nat → Option Nd}
theorem TMem.next (h : TMem W N) (hb : Below W.heap.size W W') : TMem W' N := fun g d hd => (h g d hd).next hb
theorem TMem.alloc (h : TMem W N) (o : Obj) : TMem (W.alloc o) N := fun g d hd => (h g d hd).alloc o
theorem TMem.grown (h : TMem W N) {row : Option Nat} (hg : W.grownBy W' row) (hr : ∀ g d, N g = some d → some g ≠ row) : TMem W' N := fun g d hd => (h g d hd).grown hg (hr g d hd)
theorem TMem.upd (h : TMem W N) (g x : Nat) : TMem (W.setCell ⟨g, 4, none⟩ (ptr x)) (upd N g x) := by
  intro y d hd
  by_cases hy : y = g
  · subst hy
    unfold Go.Proofs.YtcilodgpbdafeaaDoor.upd at hd
    rw [if_pos rfl] at hd
    cases hn : N y with
    | none => rw [hn] at hd; cases hd
    | some nd =>
      rw [hn] at hd
      obtain rfl := Option.some.inj hd
      exact (h y nd hn).set_ 4 _
  · rw [upd_other hy] at hd
    exact (h y d hd).far hy _
theorem TMem.lt (h : TMem W N) {g : Nat} {d : Nd} (hd : N g = some d) : g < W.heap.size := (h g d hd).lt
end
open Classical in
noncomputable def dst (N : Nat → Option Nd) (r : Nat) : Value → Nat
  | .pointer (some a) => if h : ∃ m, Rep N a.block r m then h.choose else 0
  | _ => 0
open Classical in
theorem dst_eq {N : Nat → Option Nd} {x r m : Nat} (h : Rep N x r m) : dst N r (ptr x) = m := by
  have he : ∃ m, Rep N x r m := ⟨m, h⟩
  show (if h : ∃ m, Rep N x r m then h.choose else 0) = m
  rw [dif_pos he]
  exact (he.choose_spec.fn h).2
set_option maxRecDepth 100000 in
set_option maxHeartbeats 2000000 in
theorem c41 {N : Nat → Option Nd} {g r n : Nat} (h : Rep N g r n) (W : World) (hN : TMem W N) : Calls Tryd.prog 41 #[ptr g] W fun e W' => e = .returned (ptr r) ∧ W = W' := by
  have HN := Lib.hid hN
  have HR := Lib.hid h
  clear hN h
  go_enter Tryd.func41, Tryd.ntmps41
  go_wp2_with fail
  go_loopw [0] (fun v wr => ∃ x m, v = ptr x ∧ Rep N x r m ∧ wr = W) (fun v _ => dst N r v)
  case atStart => exact ⟨g, n, rfl, HR.out, rfl⟩
  case round =>
    obtain ⟨x, m, rfl, hr, rfl⟩ := hrel
    cases hr with
    | here e1 e2 =>
      rename_i nd
      have c4 := (HN.out _ _ e1).cell 4
      have c4' : wr.cell? ⟨r, 4, none⟩ = some (.pointer none) := by rw [c4]; show some (optP nd.to) = _; rw [e2]; rfl
      clear c4
      go_wp2_with fail
      go_ret
      exact ⟨rfl, rfl⟩
    | @step _ y _ m' nd e1 e2 k =>
      have c4 := (HN.out _ _ e1).cell 4
      have c4' : wr.cell? ⟨x, 4, none⟩ = some (ptr y) := by rw [c4]; show some (optP nd.to) = _; rw [e2]; rfl
      have hm := dst_eq k
      have hm' := dst_eq (Rep.step e1 e2 k)
      clear c4
      go_wp2_with fail
      go_roundw
      case rel => exact ⟨y, m', rfl, k, by first | rfl | trivial⟩
      case measure => rw [hm, hm']; omega
end Go.Proofs.YtcilodgpbdafeaaDoor
