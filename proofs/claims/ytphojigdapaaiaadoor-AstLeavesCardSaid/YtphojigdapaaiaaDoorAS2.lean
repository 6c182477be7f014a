/- ast.Same. -/
import Derived.Test.YtphojigdapaaiaaDoorASm
namespace Go.Proofs.YtphojigdapaaiaaDoor
open Go.ChangeShapes Go.WideShapes Go.ChangeAt Go.RowKit
set_option linter.unusedVariables false
set_option linter.unusedSimpArgs false
def Same2End (a b : Tre) (r : Bool) (w : World) (e : Ending) (w' : World) : Prop := ∃ q, e = .returned (.bool q) ∧ Below w.heap.size w w' ∧ (¬ GoodN a → q = false) ∧ (GoodN a → SureAll a → GoodN b → SureAll b → q = r)
/-- A tree in memory with its variables, its sizes. -/
structure TreOk (w : World) (A A' : Option Addr) (t : Tre) : Prop where
  is_ : TreIs w A A' t
  l : t.l.length ≤ 281474976710656
  y : t.y.length ≤ 281474976710656
  x : ∀ p ∈ t.l, p.t.length ≤ 281474976710656 ∧ p.t2.length ≤ 281474976710656
theorem TreOk.next {w w' : World} {A A' : Option Addr} {t : Tre} (h : TreOk w A A' t) (hb : Below w.heap.size w w') : TreOk w' A A' t := ⟨h.is_.next hb, h.l, h.y, h.x⟩
set_option maxRecDepth 100000 in
set_option maxHeartbeats 8000000 in
theorem c13 (a b : Tre) (A A' D D' : Option Addr) (c c' d d' : Nat) (r : Bool) (w : World) (hA : TreOk w A A' a) (hD : TreOk w D D' b) (hS : Tabs w) (hyy : GoodN a → GoodN b → a.y = [] ∧ b.y = [])
    (hrec : GoodN a → GoodN b → ∀ w', Below w.heap.size w w' → Calls Tryd.prog 25 #[treV A c A' c' a, treV D d D' d' b, .int .i64 a.r, .int .i64 b.r] w' (SameEnd r w')) :
    Calls Tryd.prog 13 #[treV A c A' c' a, treV D d D' d' b] w (Same2End a b r w) := by
  have HREC := Lib.hid hrec
  have HYY := Lib.hid hyy
  have HA := Lib.hid hA
  have HD := Lib.hid hD
  have HS := Lib.hid hS
  have ial : (a.y.length : Int) ≤ 281474976710656 := by have := hA.y; omega
  clear hrec hA hD hS hyy
  show Calls Tryd.prog 13 #[.agg #[.slice A a.l.length c, .slice A' a.y.length c', .int .i64 a.r], .agg #[.slice D b.l.length d, .slice D' b.y.length d', .int .i64 b.r]] w _
  have hX := Blk.new w 25 #[.slice A a.l.length c, .slice A' a.y.length c', .int .i64 a.r]
  have hb1 := below_new w (.cells #[.slice A a.l.length c, .slice A' a.y.length c', .int .i64 a.r] 25)
  generalize hw1 : w.alloc (.cells #[.slice A a.l.length c, .slice A' a.y.length c', .int .i64 a.r] 25) = w1 at hX hb1
  have hY := Blk.new w1 25 #[.slice D b.l.length d, .slice D' b.y.length d', .int .i64 b.r]
  have hb2 := next_ hb1 (below_new w1 (.cells #[.slice D b.l.length d, .slice D' b.y.length d', .int .i64 b.r] 25))
  have hX2 := hX.next (below_new w1 (.cells #[.slice D b.l.length d, .slice D' b.y.length d', .int .i64 b.r] 25))
  generalize hw2 : w1.alloc (.cells #[.slice D b.l.length d, .slice D' b.y.length d', .int .i64 b.r] 25) = w2 at hY hb2 hX2
  have HX := Lib.hid hX2
  have HY := Lib.hid hY
  have HB := Lib.hid hb2
  clear hX hb1 hX2 hY hb2
  go_enter Tryd.func13, Tryd.ntmps13
  go_upto_region 1 with fail
  clear hw1 hw2
  generalize w1.heap.size = yb at HY ⊢
  generalize hxb : w.heap.size = xb at HX ⊢
  clear hxb
  have x0 : w2.cell? ⟨xb, 0, none⟩ = some (.slice A a.l.length c) := HX.out.cell 0
  have x1 : w2.cell? ⟨xb, 1, none⟩ = some (.slice A' a.y.length c') := HX.out.cell 1
  have x2 : w2.cell? ⟨xb, 2, none⟩ = some (.int .i64 a.r) := HX.out.cell 2
  have HA2 := Lib.hid (HA.out.next HB.out)
  have HD2 := Lib.hid (HD.out.next HB.out)
  have HC := Lib.hid (c10 a A A' c c' w2 HA2.out.is_ (HS.out.next HB.out) HA2.out.l HA2.out.y HA2.out.x)
  go_wp2_with fail
  refine HC.out.mono ?_
  rintro e w3 ⟨b1, rfl, hb3, hg1, hg2⟩
  have HG1 := Lib.hid hg1
  have HG2 := Lib.hid hg2
  have HX3 := Lib.hid (HX.out.next hb3)
  have HY3 := Lib.hid (HY.out.next hb3)
  have HB3 := Lib.hid (next_ HB.out hb3)
  have HD3 := Lib.hid (HD2.out.next hb3)
  clear hb3 hg1 hg2 HC HX HY HB x0 x1 x2
  cases b1 with
  | false =>
    go_wp2_with fail
    go_ret
    exact ⟨false, rfl, HB3.out, fun _ => rfl, fun g s _ _ => absurd (HG2.out g s) (by decide)⟩
  | true =>
  have HGA := Lib.hid (HG1.out rfl)
  have y0 : w3.cell? ⟨yb, 0, none⟩ = some (.slice D b.l.length d) := HY3.out.cell 0
  have y1 : w3.cell? ⟨yb, 1, none⟩ = some (.slice D' b.y.length d') := HY3.out.cell 1
  have y2 : w3.cell? ⟨yb, 2, none⟩ = some (.int .i64 b.r) := HY3.out.cell 2
  have HC := Lib.hid (c10 b D D' d d' w3 HD3.out.is_ (HS.out.next HB3.out) HD3.out.l HD3.out.y HD3.out.x)
  go_wp2_with fail
  refine HC.out.mono ?_
  rintro e w4 ⟨b2, rfl, hb4, hg1, hg2⟩
  have HG3 := Lib.hid hg1
  have HG4 := Lib.hid hg2
  have HX4 := Lib.hid (HX3.out.next hb4)
  have HY4 := Lib.hid (HY3.out.next hb4)
  have HB4 := Lib.hid (next_ HB3.out hb4)
  clear hb4 hg1 hg2 HC HX3 HY3 HB3 y0 y1 y2
  cases b2 with
  | false =>
    go_wp2_with fail
    go_ret
    exact ⟨false, rfl, HB4.out, fun _ => rfl, fun _ _ g s => absurd (HG4.out g s) (by decide)⟩
  | true =>
  have HGB := Lib.hid (HG3.out rfl)
  obtain ⟨hya, hyb⟩ := HYY.out HGA.out HGB.out
  have hla : a.y.length = 0 := by rw [hya]; rfl
  have hlb : b.y.length = 0 := by rw [hyb]; rfl
  have HLA := Lib.hid hla
  rw [hla] at HX4
  rw [hlb] at HY4
  have z0 : w4.cell? ⟨xb, 0, none⟩ = some (.slice A a.l.length c) := HX4.out.cell 0
  have z1 : w4.cell? ⟨xb, 1, none⟩ = some (.slice A' 0 c') := HX4.out.cell 1
  have z2 : w4.cell? ⟨xb, 2, none⟩ = some (.int .i64 a.r) := HX4.out.cell 2
  have z3 : w4.cell? ⟨yb, 0, none⟩ = some (.slice D b.l.length d) := HY4.out.cell 0
  have z4 : w4.cell? ⟨yb, 1, none⟩ = some (.slice D' 0 d') := HY4.out.cell 1
  have z5 : w4.cell? ⟨yb, 2, none⟩ = some (.int .i64 b.r) := HY4.out.cell 2
  clear hya hyb
  have HT := Lib.hid (show Calls Tryd.prog 25 #[.agg #[.slice A a.l.length c, .slice A' 0 c', .int .i64 a.r], .agg #[.slice D b.l.length d, .slice D' 0 d', .int .i64 b.r], .int .i64 a.r, .int .i64 b.r] w4 (SameEnd r w4) from by
    have h9 := HREC.out HGA.out HGB.out w4 HB4.out
    unfold treV at h9
    rw [hla, hlb] at h9
    exact h9)
  clear hla hlb ial
  go_wp2_with fail
  go_loopw [26] (fun i wr => i = .int .i64 0 ∧ wr = w4) (fun _ _ => 0)
  case atStart => exact ⟨rfl, rfl⟩
  case round =>
    obtain ⟨rfl, rfl⟩ := hrel
    go_wp2_with fail
    refine HT.out.mono ?_
    rintro e w5 ⟨rfl, hb5⟩
    have HB5 := Lib.hid (next_ HB4.out hb5)
    clear hb5 z0 z1 z2 z3 z4 z5
    go_wp2_with fail
    go_ret
    exact ⟨r, rfl, HB5.out, fun h => absurd HGA.out h, fun _ _ _ _ => rfl⟩
end Go.Proofs.YtphojigdapaaiaaDoor
