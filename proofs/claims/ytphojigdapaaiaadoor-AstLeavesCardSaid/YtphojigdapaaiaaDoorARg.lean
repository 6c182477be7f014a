/- The tokens that the document's lexer has. -/
import Derived.Test.YtphojigdapaaiaaDoorARp
import Derived.Test.YtphojigdapaaiaaDoorARs
import Derived.Test.YtphojigdapaaiaaDoorACh
import Derived.Test.YtphojigdapaaiaaDoorAOwn
namespace Go.Proofs.YtphojigdapaaiaaDoor
open Go.ChangeShapes Go.WideShapes Go.ChangeAt Go.RowKit
set_option linter.unusedVariables false
set_option linter.unusedSimpArgs false
structure Tok where
  k : Int
  s : ByteArray
  at_ : Int
def tokC (t : Tok) : List Value := [.int .i64 t.k, .string t.s, .int .i64 t.at_]
theorem tok_one (l : List Tok) : ∀ u ∈ l.flatMap tokC, u.oneCell' = true := fun u hu => by
  obtain ⟨p, _, h⟩ := List.mem_flatMap.1 hu
  simp [tokC] at h
  rcases h with rfl | rfl | rfl <;> rfl
theorem tok_info : (Tryd.prog.info? 109).map (fun i => (i.zero, i.size, i.bytes)) = some (some (.agg #[.int .i64 0, .string ⟨#[]⟩, .int .i64 0]), 3, 32) := by kernel_rfl
structure TokSt (w0 w : World) (gb rb : Nat) (A : Option Addr) (c : Nat) (T : List Tok) : Prop where
  g : Blk w gb 92 #[.slice A T.length c, .int .i64 0, .int .i64 0]
  r : Blk w rb 92 #[.slice none 0 0, .int .i64 0, .int .i64 0]
  own : w.ownsRow w0.heap.size 109 3 (.slice A T.length c) T.length (T.flatMap tokC)
  low : Below w0.heap.size w0 w
  gle : w0.heap.size ≤ gb
  rle : w0.heap.size ≤ rb
  ne : gb ≠ rb
theorem TokSt.next {w0 w w' : World} {gb rb : Nat} {A : Option Addr} {c : Nat} {T : List Tok} (h : TokSt w0 w gb rb A c T) (hb : Below w.heap.size w w') : TokSt w0 w' gb rb A c T :=
  ⟨h.g.next hb, h.r.next hb, own_next h.own hb, next_ h.low hb, h.gle, h.rle, h.ne⟩
/-- A store into a newer token's block. -/
theorem TokSt.tok {w0 w : World} {gb rb tb : Nat} {A : Option Addr} {c : Nat} {T : List Tok} {cs : Array Value} (h : TokSt w0 w gb rb A c T) (hb : Blk w tb 109 cs) (hn : (Value.slice A T.length c).ownBlock ≠ some tb) (hl : w0.heap.size ≤ tb) (i : Nat) (u : Value) :
    TokSt w0 (w.setCell ⟨tb, i, none⟩ u) gb rb A c T :=
  ⟨h.g.far (h.g.ne_ hb (by decide)) _, h.r.far (h.r.ne_ hb (by decide)) _, h.own.kept (grown_set w tb i u) (.inr hn), h.low.setCell (p := ⟨tb, i, none⟩) hl _, h.gle, h.rle, h.ne⟩
theorem TokSt.fresh {w0 w : World} {gb rb tb : Nat} {A : Option Addr} {c : Nat} {T : List Tok} (h : TokSt w0 w gb rb A c T) (hb : w.heap.size ≤ tb) : (Value.slice A T.length c).ownBlock ≠ some tb := fun e => by
  have := (h.own.lt tb e).2
  omega
/-- A token more. -/
theorem TokSt.push {w0 w w' : World} {gb rb : Nat} {A : Option Addr} {c : Nat} {T : List Tok} (h : TokSt w0 w gb rb A c T) (x : Tok) {v' : Value} (o : w'.ownsRow w0.heap.size 109 3 v' (T.length + 1) (T.flatMap tokC ++ tokC x))
    (g : w.grownBy w' (Value.ownBlock (.slice A T.length c))) : ∃ A' c', v' = .slice A' (T ++ [x]).length c' ∧ TokSt w0 (w'.setCell ⟨gb, 0, none⟩ v') gb rb A' c' (T ++ [x]) ∧ Blk w' gb 92 #[.slice A T.length c, .int .i64 0, .int .i64 0] := by
  have o' : w'.ownsRow w0.heap.size 109 3 v' (T ++ [x]).length ((T ++ [x]).flatMap tokC) := by
    rw [List.flatMap_append, List.length_append]
    simpa using o
  obtain ⟨A', c', rfl⟩ := own_form o'
  have hg := blk_row h.g h.own g (by decide)
  have hr := blk_row h.r h.own g (by decide)
  have hs := hg.set_ 0 (.slice A' (T ++ [x]).length c')
  simp only [List.setIfInBounds_toArray, List.set_cons_zero, List.set_cons_succ] at hs
  refine ⟨A', c', rfl, ⟨hs, hr.far (p := ⟨gb, 0, none⟩) (fun e => h.ne e.symm) _, own_set o' hg (by decide), ?_, h.gle, h.rle, h.ne⟩, hg⟩
  exact (h.low.grown g h.low.size (fun k hk => (h.own.lt k hk).1)).setCell (p := ⟨gb, 0, none⟩) h.gle _
theorem row3 {w : World} {b : Nat} {t : TypeId} {u0 u1 u2 v0 v1 v2 : Value} (h : Blk w b t #[u0, u1, u2]) : Blk (((w.setCell ⟨b, 0, none⟩ v0).setCell ⟨b, 1, none⟩ v1).setCell ⟨b, 2, none⟩ v2) b t #[v0, v1, v2] := by
  have h1 := ((h.set_ 0 v0).set_ 1 v1).set_ 2 v2
  simpa only [List.setIfInBounds_toArray, List.set_cons_zero, List.set_cons_succ] using h1
theorem low3 {w a : World} {B b : Nat} {v0 v1 v2 : Value} (hB : B ≤ b) (h : Below B a w) : Below B a (((w.setCell ⟨b, 0, none⟩ v0).setCell ⟨b, 1, none⟩ v1).setCell ⟨b, 2, none⟩ v2) :=
  ((h.setCell (p := ⟨b, 0, none⟩) hB v0).setCell (p := ⟨b, 1, none⟩) hB v1).setCell (p := ⟨b, 2, none⟩) hB v2
def TokEnd (w : World) (e : Ending) (w' : World) : Prop := ∃ (T : List Tok) (A : Option Addr) (c : Nat) (x y : Int), e = .returned (.agg #[.slice A T.length c, .int .i64 x, .int .i64 y]) ∧ Reads w' w'.heap.size 3 A T.length (T.flatMap tokC) ∧ Below w.heap.size w w'
/-- Nothing, with an error. -/
theorem TokSt.none_ {w0 w : World} {gb rb : Nat} {A : Option Addr} {c : Nat} {T : List Tok} (h : TokSt w0 w gb rb A c T) (x y : Int) :
    TokEnd w0 (.returned (.agg #[.slice none 0 0, .int .i64 x, .int .i64 y])) (((w.setCell ⟨rb, 0, none⟩ (.slice none 0 0)).setCell ⟨rb, 1, none⟩ (.int .i64 x)).setCell ⟨rb, 2, none⟩ (.int .i64 y)) :=
  ⟨[], none, 0, x, y, rfl, Reads.none_, low3 h.rle h.low⟩
/-- All tokens. -/
theorem TokSt.all_ {w0 w : World} {gb rb : Nat} {A : Option Addr} {c : Nat} {T : List Tok} (h : TokSt w0 w gb rb A c T) (x y : Int) :
    TokEnd w0 (.returned (.agg #[.slice A T.length c, .int .i64 x, .int .i64 y])) (((w.setCell ⟨rb, 0, none⟩ (.slice A T.length c)).setCell ⟨rb, 1, none⟩ (.int .i64 x)).setCell ⟨rb, 2, none⟩ (.int .i64 y)) := by
  refine ⟨T, A, c, x, y, rfl, ?_, low3 h.rle h.low⟩
  have r1 := h.r.set_ 0 (.slice A T.length c)
  have r2 := r1.set_ 1 (.int .i64 x)
  exact Reads.of_own (own_set (own_set (own_set h.own h.r (by decide)) r1 (by decide)) r2 (by decide))
end Go.Proofs.YtphojigdapaaiaaDoor
