/- keep.Code: are two codes alike. -/
import Derived.Test.YtiphicejaljhiaaDoorLite
import Derived.Deep.QuietTactic
import Derived.BigQuiet
import Derived.Laws.StructEq
namespace Go.Proofs.YtiphicejaljhiaaDoor
open Go.ChangeShapes Go.WideShapes Go.ChangeAt Go.RowKit
theorem Reads.insN {w : World} {B n : Nat} {A : Option Addr} {l : List Ins} (h : Reads w B 3 A n (l.flatMap insCells)) {k : Nat} {i : Ins} (hk : l[k]? = some i) :
    ∃ ad, A = some ad ∧ w.cell? (ad.add (k * 3)) = some (.int .i64 i.o) ∧ w.cell? ⟨(ad.add (k * 3)).block, (ad.add (k * 3)).off + 1, none⟩ = some (.int .i64 i.a) ∧ w.cell? ⟨(ad.add (k * 3)).block, (ad.add (k * 3)).off + 2, none⟩ = some (.int .i64 i.b) := by
  obtain ⟨ad, e, _, hc⟩ := h.insAt hk
  exact ⟨ad, e, hc 0 _ rfl, hc 1 _ rfl, hc 2 _ rfl⟩
theorem run_eql_ins (w : World) (xo xa xb yo ya yb : Int) : (Op.equalIn 10000 23 (.agg #[.int .i64 xo, .int .i64 xa, .int .i64 xb]) (.agg #[.int .i64 yo, .int .i64 ya, .int .i64 yb])).run Tryd.prog w = .ok (xo == yo && (xa == ya && xb == yb)) w := by
  rw [run_equalIn_struct w 9999 23 _ _ (by kernel_rfl) (by kernel_rfl)]
  unfold Program.fieldsOf
  rw [Tryd.underlying23]
  have hp : ∀ (xs : Array Value) (o : Nat) (v : Value), xs[o]? = some v → (part 3 xs o).run Tryd.prog w = .ok v w := fun xs o v h => by
    simp [go_sem, part, h]
  have e3 : ∀ a b : Int, (Op.equalIn 9999 3 (.int .i64 a) (.int .i64 b)).run Tryd.prog w = .ok (a == b) w := fun a b => run_equalIn_int w 9998 3 .i64 .i64 a b Tryd.underlying3
  have x0 := hp #[.int .i64 xo, .int .i64 xa, .int .i64 xb] 0 (.int .i64 xo) rfl
  have x1 := hp #[.int .i64 xo, .int .i64 xa, .int .i64 xb] 1 (.int .i64 xa) rfl
  have x2 := hp #[.int .i64 xo, .int .i64 xa, .int .i64 xb] 2 (.int .i64 xb) rfl
  have y0 := hp #[.int .i64 yo, .int .i64 ya, .int .i64 yb] 0 (.int .i64 yo) rfl
  have y1 := hp #[.int .i64 yo, .int .i64 ya, .int .i64 yb] 1 (.int .i64 ya) rfl
  have y2 := hp #[.int .i64 yo, .int .i64 ya, .int .i64 yb] 2 (.int .i64 yb) rfl
  clear hp
  have t0 : "Op" ≠ "_" := by decide
  have t1 : "A" ≠ "_" := by decide
  have t2 : "B" ≠ "_" := by decide
  simp only [Op.eqFields, Sem.run_bind, Sem.run_ite, Result.andThen_ok, if_pos t0, if_pos t1, if_pos t2, x0, y0, x1, y1, x2, y2, e3, Sem.run_pure]
  cases (xo == yo) <;> cases (xa == ya) <;> cases (xb == yb) <;> rfl
theorem run_neq_ins (w : World) (xo xa xb yo ya yb : Int) : (binOp .neq 23 (.agg #[.int .i64 xo, .int .i64 xa, .int .i64 xb]) (.agg #[.int .i64 yo, .int .i64 ya, .int .i64 yb])).run Tryd.prog w = .ok (.bool (!(xo == yo && (xa == ya && xb == yb)))) w := by
  rw [run_neq_struct, run_eql_ins]
  rfl
set_option maxRecDepth 100000 in
set_option maxHeartbeats 2000000 in
theorem c47 (l l' : List Ins) (A A' : Option Addr) (c c' B B' : Nat) (w : World) (hr : Reads w B 3 A l.length (l.flatMap insCells)) (hr' : Reads w B' 3 A' l'.length (l'.flatMap insCells)) (hm : l.length ≤ maxLen) :
    Calls Tryd.prog 47 #[.slice A l.length c, .slice A' l'.length c'] w fun e w' => e = .returned (.bool (decide (l = l'))) ∧ Below w.heap.size w w' := by
  unfold maxLen at hm
  by_cases hn : l.length = l'.length
  · have fn : ((l.length : Int) != (l'.length : Int)) = false := bne_eq_false_iff_eq.2 (by omega)
    have HN := Lib.hid hn
    clear hn
    go_enter Tryd.func47, Tryd.ntmps47
    go_wp2_with fail
    go_loopw [5] (fun i wr => ∃ k m : Nat, k ≤ l.length ∧ i = .int .i64 k ∧ l.take k = l'.take k ∧ wr = w.drewN m) (fun i _ => l.length - (intOf i).toNat)
    case atStart => exact ⟨0, 0, by omega, rfl, rfl, rfl⟩
    case round =>
      obtain ⟨k, m, hk, rfl, hg, rfl⟩ := hrel
      have HG := Lib.hid hg
      clear hg
      by_cases hlt : k < l.length
      · have hl : (k : Int) < (l.length : Int) := by omega
        have hlt' : k < l'.length := by have := HN.out; omega
        have hl' : (k : Int) < (l'.length : Int) := by omega
        have hk0 : (0 : Int) ≤ (k : Int) := by omega
        obtain ⟨ad, rfl, a0, a1, a2⟩ := hr.insN (List.getElem?_eq_getElem hlt)
        obtain ⟨ad', rfl, b0, b1, b2⟩ := hr'.insN (List.getElem?_eq_getElem hlt')
        have ht : l[k] = l'[k] → l.take (k + 1) = l'.take (k + 1) := fun e => by
          rw [List.take_add_one, List.take_add_one, List.getElem?_eq_getElem hlt, List.getElem?_eq_getElem hlt', HG.out, e]
        have hne : l[k] ≠ l'[k] → l ≠ l' := fun h e => h (by subst e; rfl)
        generalize l[k] = x at a0 a1 a2 ht hne
        generalize l'[k] = y at b0 b1 b2 ht hne
        have HT := Lib.hid ht
        have HNE := Lib.hid hne
        clear ht hne
        obtain ⟨xo, xa, xb⟩ := x
        obtain ⟨yo, ya, yb⟩ := y
        simp only at a0 a1 a2 b0 b1 b2
        have en := fun w => run_neq_ins w xo xa xb yo ya yb
        by_cases hxy : xo = yo ∧ xa = ya ∧ xb = yb
        · have fe : (xo == yo && (xa == ya && xb == yb)) = true := by simp [hxy.1, hxy.2.1, hxy.2.2]
          have HE := Lib.hid (HT.out (by rw [hxy.1, hxy.2.1, hxy.2.2]))
          clear hxy
          simp only [fe] at en
          go_wp2_with fail
          go_quiet (fail)
          go_wp2_with fail
          go_roundw
          case rel => exact ⟨k + 1, m + _, by omega, by go_num, HE.out, by rw [← World.drewN_drewN]⟩
          case measure => simp [intOf]; omega
        · have fe : (xo == yo && (xa == ya && xb == yb)) = false := by
            rw [Bool.eq_false_iff]
            intro h
            simp at h
            exact hxy h
          have HE := Lib.hid (HNE.out (by intro e; injection e with e1 e2 e3; exact hxy ⟨e1, e2, e3⟩))
          clear hxy
          simp only [fe] at en
          go_wp2_with fail
          go_quiet (fail)
          go_wp2_with fail
          go_ret
          refine ⟨?_, below_drewN (below_drewN (Below.refl _ _) _) _⟩
          rw [decide_eq_false HE.out]
          rfl
      · have hl : ¬ (k : Int) < (l.length : Int) := by omega
        have HE := Lib.hid (show l = l' by
          have h := HG.out
          rw [List.take_of_length_le (by omega), List.take_of_length_le (by have := HN.out; omega)] at h
          exact h)
        clear HG
        go_wp2_with fail
        go_ret
        refine ⟨?_, below_drewN (Below.refl _ _) _⟩
        rw [decide_eq_true HE.out]
        rfl
  · have fn : ((l.length : Int) != (l'.length : Int)) = true := bne_iff_ne.2 (by omega)
    have HN := Lib.hid (show l ≠ l' from fun e => hn (by rw [e]))
    clear hn
    go_enter Tryd.func47, Tryd.ntmps47
    go_wp2_with fail
    go_ret
    refine ⟨?_, Below.refl _ _⟩
    rw [decide_eq_false HN.out]
    rfl
end Go.Proofs.YtiphicejaljhiaaDoor
