/- keep.LargeTree. -/
import Derived.Test.YtphojigdapaaiaaDoorANd
import Derived.Deep.CutRange
import Derived.StillTailTactics
import Derived.Deep.QuietTactic
import Derived.BigQuiet
namespace Go.Proofs.YtphojigdapaaiaaDoor
open Go.ChangeShapes Go.WideShapes Go.ChangeAt Go.RowKit
set_option linter.unusedVariables false
set_option linter.unusedSimpArgs false
theorem bulk_step {l : List Nod} {k : Nat} {p : Nod} (h : l[k]? = some p) : bulk (l.take (k + 1)) = bulk (l.take k) + wgt p := by
  rw [List.take_add_one, h, show (some p).toList = [p] from rfl, bulk_snoc]
theorem wgt_le (p : Nod) : wgt p ≤ 6001 := by unfold wgt; omega
def LargeEnd (t : Tre) (W : World) (e : Ending) (W' : World) : Prop := ∃ r, e = .returned (.bool r) ∧ (r = false → Sml t) ∧ Below W.heap.size W W'
theorem LargeEnd.yes {t : Tre} {W W' : World} (hb : Below W.heap.size W W') : LargeEnd t W (.returned (.bool true)) W' := ⟨true, rfl, fun h => (by cases h), hb⟩
theorem LargeEnd.no {t : Tre} {W W' : World} (h : Sml t) (hb : Below W.heap.size W W') : LargeEnd t W (.returned (.bool false)) W' := ⟨false, rfl, fun _ => h, hb⟩
set_option maxRecDepth 100000 in
set_option maxHeartbeats 4000000 in
theorem c6 (t : Tre) (A A' : Option Addr) (c c' : Nat) (W : World) (ht : TreIs W A A' t) (hx : ∀ p ∈ t.l, p.t.length ≤ 281474976710656 ∧ p.t2.length ≤ 281474976710656) (hl : t.l.length ≤ 281474976710656) (hy : t.y.length ≤ 281474976710656) :
    Calls Tryd.prog 6 #[treV A c A' c' t] W (LargeEnd t W) := by
  have HT := Lib.hid ht
  have HX1 := Lib.hid hx
  clear ht hx
  show Calls Tryd.prog 6 #[.agg #[.slice A t.l.length c, .slice A' t.y.length c', .int .i64 t.r]] W _
  have HX0 := Lib.hid (Blk.new W 25 #[.slice A t.l.length c, .slice A' t.y.length c', .int .i64 t.r])
  have HB0 := Lib.hid (below_new W (.cells #[.slice A t.l.length c, .slice A' t.y.length c', .int .i64 t.r] 25))
  go_enter Tryd.func6, Tryd.ntmps6
  go_wp2_with fail
  generalize W.alloc (.cells #[.slice A t.l.length c, .slice A' t.y.length c', .int .i64 t.r] 25) = W0 at HX0 HB0 ⊢
  generalize hxb : W.heap.size = xb at HX0 ⊢
  have HXB := Lib.hid hxb
  clear hxb
  go_loopw [3, 4] (fun n i wr => ∃ k : Nat, k ≤ t.l.length ∧ i = .int .i64 k ∧ n = .int .i64 ((bulk (t.l.take k) : Nat) : Int) ∧ bulk (t.l.take k) ≤ 9002 ∧ Below W0.heap.size W0 wr) (fun _ i _ => t.l.length - (intOf i).toNat)
  case atStart => exact ⟨0, by omega, rfl, rfl, by simp [bulk], Below.refl _ _⟩
  case round =>
    obtain ⟨k, hk, rfl, rfl, hbk, hb⟩ := hrel
    generalize hq : bulk (t.l.take k) = q at hbk
    have HQ := Lib.hid hq
    have HB := Lib.hid hb
    have HX := Lib.hid (HX0.out.next hb)
    have x0 : wr.cell? ⟨xb, 0, none⟩ = some (.slice A t.l.length c) := HX.out.cell 0
    clear hq hb
    by_cases hlt : k < t.l.length
    · have hlk : (k : Int) < (t.l.length : Int) := by omega
      have hk0 : (0 : Int) ≤ (k : Int) := by omega
      by_cases hq3 : q ≤ 3000
      · have hq3' : (q : Int) ≤ 3000 := by omega
        have hpk : t.l[k]? = some t.l[k] := List.getElem?_eq_getElem hlt
        have HBW := Lib.hid (next_ HB0.out HB.out)
        obtain ⟨ad, rfl, _, hcs⟩ := (HT.out.next HBW.out).nodes.nodAt hpk
        have hpx := HX1.out _ (List.getElem_mem hlt)
        have hsn := bulk_step hpk
        rw [HQ.out] at hsn
        generalize t.l[k] = p at hcs hpx hsn
        have a1 : wr.cell? ⟨(ad.add (k * 8)).block, (ad.add (k * 8)).off + 1, none⟩ = some (strV p.t) := hcs 1 _ rfl
        have a2 : wr.cell? ⟨(ad.add (k * 8)).block, (ad.add (k * 8)).off + 2, none⟩ = some (strV p.t2) := hcs 2 _ rfl
        obtain ⟨t1, h1⟩ : ∃ n, n = p.t.length := ⟨_, rfl⟩
        obtain ⟨t2, h2⟩ : ∃ n, n = p.t2.length := ⟨_, rfl⟩
        have s1 := strV_size p.t
        have s2 := strV_size p.t2
        rw [← h1] at s1 hpx
        rw [← h2] at s2 hpx
        obtain ⟨hp1, hp2⟩ := hpx
        have hsn' : bulk (t.l.take (k + 1)) = q + (1 + min t1 3000 + min t2 3000) := by rw [hsn]; unfold wgt; rw [h1, h2]
        obtain ⟨m1, hm1⟩ : ∃ m, m = min t1 3000 := ⟨_, rfl⟩
        obtain ⟨m2, hm2⟩ : ∃ m, m = min t2 3000 := ⟨_, rfl⟩
        rw [← hm1, ← hm2] at hsn'
        have g1 : (if (3000 : Int) < (t1 : Int) then (3000 : Int) else (t1 : Int)) = (m1 : Int) := by split <;> omega
        have g2 : (if (3000 : Int) < (t2 : Int) then (3000 : Int) else (t2 : Int)) = (m2 : Int) := by split <;> omega
        have hm1' : m1 ≤ 3000 := by omega
        have hm2' : m2 ≤ 3000 := by omega
        have HSN := Lib.hid hsn'
        have HM := Lib.hid (show m1 ≤ 3000 ∧ m2 ≤ 3000 ∧ k < t.l.length ∧ q ≤ 3000 from ⟨hm1', hm2', hlt, hq3⟩)
        clear hsn hsn' hcs hpk h1 h2 hm1 hm2
        go_upto_region 5 with fail
        go_quiet (fail)
        have hb := below_drewN HB.out nq
        generalize wr.drewN nq = w3 at hb ⊢
        have HB := Lib.hid hb
        clear hb
        go_wp2_with fail
        go_roundw
        case rel =>
          have h1 := HSN.out
          have h2 := HM.out
          refine ⟨k + 1, by omega, by go_num, ?_, by rw [h1]; omega, HB.out⟩
          rw [h1]
          go_num
        case measure => have := HM.out; simp [intOf]; omega
      · have hq3' : ¬ ((q : Int) ≤ 3000) := by omega
        have hq4 : (3000 : Int) < (q : Int) := by omega
        go_wp2_with fail
        go_ret
        exact LargeEnd.yes (next_ HB0.out HB.out)
    · obtain rfl : k = t.l.length := by omega
      have hlk : ¬ ((t.l.length : Int) < (t.l.length : Int)) := by omega
      rw [List.take_length] at HQ
      have HBZ := Lib.hid (next_ HB0.out HB.out)
      have x1 : wr.cell? ⟨xb, 1, none⟩ = some (.slice A' t.y.length c') := HX.out.cell 1
      clear hlt hk
      by_cases h3 : 3000 < q
      · have h3' : (3000 : Int) < (q : Int) := by omega
        go_wp2_with fail
        go_ret
        exact LargeEnd.yes HBZ.out
      · have h3' : ¬ ((3000 : Int) < (q : Int)) := by omega
        by_cases h4 : 800 < t.l.length
        · have h4' : (800 : Int) < (t.l.length : Int) := by omega
          go_wp2_with fail
          go_ret
          exact LargeEnd.yes HBZ.out
        · have h4' : ¬ ((800 : Int) < (t.l.length : Int)) := by omega
          by_cases h5 : 800 < t.y.length
          · have h5' : (800 : Int) < (t.y.length : Int) := by omega
            go_wp2_with fail
            go_ret
            exact LargeEnd.yes HBZ.out
          · have h5' : ¬ ((800 : Int) < (t.y.length : Int)) := by omega
            have HS := Lib.hid (Sml.of (t := t) (by rw [HQ.out]; omega) (by omega) (by omega))
            go_wp2_with fail
            go_ret
            exact LargeEnd.no HS.out HBZ.out
end Go.Proofs.YtphojigdapaaiaaDoor
