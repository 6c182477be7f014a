/- Plus; keep.Ints. -/
import Derived.Test.YtphojigdapaaiaaDoorAKi
import Derived.Test.YtphojigdapaaiaaDoorARg
namespace Go.Proofs.YtphojigdapaaiaaDoor
open Go.ChangeShapes Go.WideShapes Go.ChangeAt Go.RowKit
set_option linter.unusedVariables false
set_option linter.unusedSimpArgs false
def plusT : Tre := ⟨[⟨5, [120], [], 0, 0, 0, 0, 0⟩, ⟨1, [], [], 1, 0, 0, 0, 0⟩, ⟨15, [], [], 12, 0, 1, 0, 0⟩, ⟨10, [120], [], 0, 2, 0, 0, 0⟩], [], 3⟩
def PlusEnd (w : World) (e : Ending) (w' : World) : Prop := ∃ g, e = .returned (treV (some ⟨g, 0, none⟩) 4 none 0 plusT) ∧ Blk w' g 30 (plusT.l.flatMap nodC).toArray ∧ w.heap.size ≤ g ∧ Below w.heap.size w w'
set_option maxRecDepth 100000 in
set_option maxHeartbeats 8000000 in
theorem c21 (w : World) : Calls Tryd.prog 21 #[] w (PlusEnd w) := by
  have hR := Blk.new w 25 #[.slice none 0 0, .slice none 0 0, .int .i64 0]
  have hb1 := below_new w (.cells #[.slice none 0 0, .slice none 0 0, .int .i64 0] 25)
  have hle := hb1.size
  generalize hw1 : w.alloc (.cells #[.slice none 0 0, .slice none 0 0, .int .i64 0] 25) = w1 at hR hb1 hle
  have hG := Blk.new w1 30 (plusT.l.flatMap nodC).toArray
  have hb2 := next_ hb1 (below_new w1 (.cells (plusT.l.flatMap nodC).toArray 30))
  have hR2 := hR.next (below_new w1 (.cells (plusT.l.flatMap nodC).toArray 30))
  generalize hw2 : w1.alloc (.cells (plusT.l.flatMap nodC).toArray 30) = w2 at hG hb2 hR2
  have HG := Lib.hid hG
  have HB := Lib.hid hb2
  have HR := Lib.hid hR2
  have HLE := Lib.hid hle
  have r0 : w2.cell? ⟨w.heap.size, 0, none⟩ = some (.slice none 0 0) := hR2.cell 0
  have r1 : w2.cell? ⟨w.heap.size, 1, none⟩ = some (.slice none 0 0) := hR2.cell 1
  have r2 : w2.cell? ⟨w.heap.size, 2, none⟩ = some (.int .i64 0) := hR2.cell 2
  have f0 := hR2.frozen 0
  have f1 := hR2.frozen 1
  have f2 := hR2.frozen 2
  clear hG hb2 hR2 hle hb1 hR
  rw [show (plusT.l.flatMap nodC).toArray = #[.int .i64 5, .string ⟨#[120]⟩, .string ⟨#[]⟩, .int .i64 0, .int .i64 0, .int .i64 0, .int .i64 0, .int .i64 0, .int .i64 1, .string ⟨#[]⟩, .string ⟨#[]⟩, .int .i64 1, .int .i64 0, .int .i64 0, .int .i64 0, .int .i64 0, .int .i64 15, .string ⟨#[]⟩, .string ⟨#[]⟩, .int .i64 12, .int .i64 0, .int .i64 1, .int .i64 0, .int .i64 0, .int .i64 10, .string ⟨#[120]⟩, .string ⟨#[]⟩, .int .i64 0, .int .i64 2, .int .i64 0, .int .i64 0, .int .i64 0] from rfl] at hw2
  go_enter Tryd.func21, Tryd.ntmps21
  go_wp2_with fail
  have hne := HG.out.ne_ HR.out (by decide)
  exact bodyPost_ret (results_cell_row rfl _ _ _ 25 _ (0, 0) _ rfl (row3 HR.out) Tryd.underlying25 rfl (by kernel_rfl)) rfl ⟨w1.heap.size, rfl, ((HG.out.far (p := ⟨_, 0, none⟩) hne _).far (p := ⟨_, 1, none⟩) hne _).far (p := ⟨_, 2, none⟩) hne _, HLE.out, low3 (Nat.le_refl _) HB.out⟩
def KeepEnd (L M : List Int) (w : World) (e : Ending) (w' : World) : Prop := ∃ r, e = .returned (.bool r) ∧ Below w.heap.size w w' ∧ (L = M → r = true)
set_option maxRecDepth 100000 in
set_option maxHeartbeats 8000000 in
theorem c22 (L M : List Int) (A A' : Option Addr) (c c' : Nat) (w : World) (hL : Reads w w.heap.size 1 A L.length (L.map intV)) (hM : Reads w w.heap.size 1 A' M.length (M.map intV)) (h1 : L.length ≤ 3000) (h2 : M.length ≤ 3000) :
    Calls Tryd.prog 22 #[.slice A L.length c, .slice A' M.length c'] w (KeepEnd L M w) := by
  have HL := Lib.hid hL
  have HM := Lib.hid hM
  clear hL hM
  by_cases hlm : L.length = M.length
  case neg =>
    have e1 : ((L.length : Int) == (M.length : Int)) = false := beq_false_of_ne (by omega)
    have e2 : ((L.length : Int) != (M.length : Int)) = true := bne_iff_ne.2 (by omega)
    have HF := Lib.hid hlm
    clear hlm
    go_enter Tryd.func22, Tryd.ntmps22
    go_wp2_with fail
    go_ret
    exact ⟨false, rfl, Below.refl _ _, fun h => absurd (by rw [h]) HF.out⟩
  have HLM := Lib.hid hlm
  rw [← hlm] at HM ⊢
  clear hlm
  have e2 : ((L.length : Int) != (L.length : Int)) = false := by simp
  go_enter Tryd.func22, Tryd.ntmps22
  go_wp2_with fail
  go_loopw [5] (fun i wr => ∃ j : Nat, j ≤ L.length ∧ i = .int .i64 j ∧ Below w.heap.size w wr) (fun i _ => L.length - (intOf i).toNat)
  case atStart => exact ⟨0, by omega, rfl, Below.refl _ _⟩
  case round =>
    obtain ⟨j, hj, rfl, hb⟩ := hrel
    have HB := Lib.hid hb
    clear hb
    by_cases hjt : j < L.length
    case neg =>
      obtain rfl : j = L.length := by omega
      have hjt2 : ¬ ((L.length : Int) < (L.length : Int)) := by omega
      go_wp2_with fail
      go_ret
      exact ⟨true, rfl, HB.out, fun _ => rfl⟩
    case pos =>
      have hj1 : (j : Int) < (L.length : Int) := by omega
      have hj0 : (0 : Int) ≤ (j : Int) := by omega
      have hjm : j < M.length := by have := HLM.out; omega
      have hp1 : L[j]? = some L[j] := List.getElem?_eq_getElem hjt
      have hq1 : M[j]? = some M[j] := List.getElem?_eq_getElem hjm
      obtain ⟨ap, u1, rfl, _, hu1, hc1⟩ := (HL.out.below HB.out).at_ hjt
      obtain ⟨aq, u2, rfl, _, hu2, hc2⟩ := (HM.out.below HB.out).at_ hjt
      rw [List.getElem?_map, hp1] at hu1
      rw [List.getElem?_map, hq1] at hu2
      obtain rfl := Option.some.inj hu1
      obtain rfl := Option.some.inj hu2
      have HPQ := Lib.hid (show L = M → L[j] = M[j] from fun h => by subst h; rfl)
      generalize L[j] = p at hc1 HPQ hp1
      generalize M[j] = q at hc2 HPQ hq1
      clear hp1 hq1 hu1 hu2
      replace hc1 : wr.cell? (ap.add j) = some (.int .i64 p) := hc1
      replace hc2 : wr.cell? (aq.add j) = some (.int .i64 q) := hc2
      go_upto_region 6 with fail
      go_quiet (fail)
      have HB2 := Lib.hid (below_drewN HB.out nq)
      clear hc1 hc2
      by_cases hpq : p = q
      · have e3 : (p == q) = true := beq_iff_eq.2 hpq
        have e4 : (p != q) = false := by rw [hpq]; simp
        clear hpq
        go_wp2_with fail
        go_roundw
        case rel => exact ⟨j + 1, by omega, by go_num, HB2.out⟩
        case measure => simp [intOf]; omega
      · have e3 : (p == q) = false := beq_false_of_ne hpq
        have e4 : (p != q) = true := bne_iff_ne.2 hpq
        have HN := Lib.hid hpq
        clear hpq
        go_wp2_with fail
        go_ret
        exact ⟨false, rfl, HB2.out, fun h => absurd (HPQ.out h) HN.out⟩
end Go.Proofs.YtphojigdapaaiaaDoor
