/- The table ast.rows; ast.of. -/
import Derived.Test.YtphojigdapaaiaaDoorABd
namespace Go.Proofs.YtphojigdapaaiaaDoor
open Go.ChangeShapes Go.WideShapes Go.ChangeAt Go.RowKit
set_option linter.unusedVariables false
set_option linter.unusedSimpArgs false
structure RowA where
  is_ : Int
  a : Int
  b : Int
  c : Int
  text : Int
  second : Int
  lo : Int
  hi : Int
def rowC (r : RowA) : List Value := [.int .u8 r.is_, .int .u8 r.a, .int .u8 r.b, .int .u8 r.c, .int .i64 r.text, .int .i64 r.second, .int .i64 r.lo, .int .i64 r.hi]
def rowsL : List RowA := [
  ⟨0, 0, 0, 0, 0, 0, 0, 0⟩,
  ⟨101, 0, 0, 0, 0, 0, 0, 4611686018427387903⟩,
  ⟨101, 0, 0, 0, 0, 0, 0, 1⟩,
  ⟨101, 0, 0, 0, 0, 0, 0, 0⟩,
  ⟨101, 0, 0, 0, 4, 0, 0, 0⟩,
  ⟨101, 0, 0, 0, 1, 0, 0, 0⟩,
  ⟨101, 69, 0, 0, 3, 0, 0, 0⟩,
  ⟨101, 0, 0, 0, 0, 0, 0, 0⟩,
  ⟨101, 101, 101, 0, 0, 0, 0, 0⟩,
  ⟨101, 101, 101, 0, 0, 0, 0, 0⟩,
  ⟨101, 101, 0, 0, 2, 0, 0, 0⟩,
  ⟨101, 101, 101, 0, 0, 0, 0, 0⟩,
  ⟨101, 101, 101, 0, 2, 0, 0, 0⟩,
  ⟨101, 101, 101, 0, 1, 1, 0, 0⟩,
  ⟨101, 101, 101, 101, 0, 0, 0, 0⟩,
  ⟨101, 101, 101, 0, 0, 0, 0, 38⟩,
  ⟨101, 101, 101, 0, 0, 0, 0, 0⟩,
  ⟨101, 101, 101, 0, 0, 0, 0, 0⟩,
  ⟨101, 101, 99, 0, 0, 0, 0, 0⟩,
  ⟨99, 112, 101, 67, 0, 0, 0, 0⟩,
  ⟨101, 101, 0, 0, 0, 0, 0, 0⟩,
  ⟨101, 101, 101, 0, 1, 0, 0, 0⟩,
  ⟨101, 101, 0, 0, 0, 0, 0, 0⟩,
  ⟨101, 101, 0, 0, 0, 0, 0, 0⟩,
  ⟨101, 101, 69, 69, 0, 0, 0, 38⟩,
  ⟨101, 69, 69, 0, 0, 0, 0, 3⟩,
  ⟨112, 0, 0, 0, 0, 0, 0, 0⟩,
  ⟨112, 0, 0, 0, 1, 0, 0, 0⟩,
  ⟨112, 0, 0, 0, 0, 0, -4611686018427387903, 4611686018427387903⟩,
  ⟨112, 0, 0, 0, 0, 0, 0, 1⟩,
  ⟨112, 0, 0, 0, 0, 0, 0, 0⟩,
  ⟨112, 0, 0, 0, 0, 0, 0, 0⟩,
  ⟨112, 112, 112, 0, 0, 0, 0, 0⟩,
  ⟨112, 112, 112, 0, 0, 0, 0, 0⟩,
  ⟨112, 80, 0, 0, 3, 0, 0, 0⟩,
  ⟨116, 0, 0, 0, 0, 0, 0, 0⟩,
  ⟨116, 0, 0, 0, 0, 0, 0, 0⟩,
  ⟨116, 0, 0, 0, 0, 0, 0, 0⟩,
  ⟨116, 0, 0, 0, 0, 0, 0, 0⟩,
  ⟨116, 0, 0, 0, 1, 0, 0, 0⟩,
  ⟨116, 116, 0, 0, 0, 0, 0, 0⟩,
  ⟨116, 116, 116, 0, 0, 0, 0, 0⟩,
  ⟨0, 107, 0, 0, 1, 0, 0, 0⟩,
  ⟨107, 84, 75, 0, 3, 0, 0, 0⟩]
/-- The rows lie in the package's variable. -/
def AstTab (w : World) : Prop := 0 < w.heap.size ∧ ∃ t, w.heap[0]? = some (.cells (rowsL.flatMap rowC).toArray t (0, 0))
theorem AstTab.next {w w' : World} (h : AstTab w) (hb : Below w.heap.size w w') : AstTab w' := by
  obtain ⟨h0, t, h1⟩ := h
  exact ⟨Nat.lt_of_lt_of_le h0 hb.size, t, (hb.block 0 h0).trans h1⟩
theorem AstTab.at_ {w : World} (h : AstTab w) {k : Nat} {r : RowA} (hk : rowsL[k]? = some r) : ∀ j v, (rowC r)[j]? = some v → w.cell? ((⟨0, k * 8, none⟩ : Addr).add j) = some v := by
  obtain ⟨h0, t, h1⟩ := h
  have hr : Reads w w.heap.size 8 (some ⟨0, 0, none⟩) rowsL.length (rowsL.flatMap rowC) := by
    refine ⟨by simp [List.length_flatMap, rowC]; rw [List.map_const']; simp, fun _ => ⟨_, rfl, h0, fun j u hj => ?_⟩⟩
    rw [show (⟨0, 0, none⟩ : Addr).add j = ⟨0, j, none⟩ by simp [Addr.add]; try omega, cell_of_row w 0 j _ t (0, 0) h1]
    simpa using hj
  obtain ⟨ad, e, _, hc⟩ := Reads.rowAt (f := rowC) (m := 8) (fun _ => rfl) hr (by decide) hk
  obtain rfl := Option.some.inj e
  intro j v hj
  have := hc j v hj
  rw [show (⟨0, 0, none⟩ : Addr).add (k * 8) = ⟨0, k * 8, none⟩ by simp [Addr.add]; try omega] at this
  exact this
end Go.Proofs.YtphojigdapaaiaaDoor
