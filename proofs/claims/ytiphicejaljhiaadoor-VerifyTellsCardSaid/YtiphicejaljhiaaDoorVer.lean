/- verify: two states held against each other; what a checker holds; whether an instruction may leave; whether what it names is there. -/
import Derived.Test.YtiphicejaljhiaaDoorVPlain
import Derived.Test.YtiphicejaljhiaaDoorPro
import Derived.Laws.StructEq
import Derived.Deep.QuietTactic
import Derived.BigQuiet
namespace Go.Proofs.YtiphicejaljhiaaDoor
open Go.ChangeShapes Go.WideShapes Go.ChangeAt Go.RowKit
theorem int_size : (Tryd.prog.info? 3).map (·.size) = some 1 := by kernel_rfl
theorem run_size3 (w : World) : (sizeOf 3).run Tryd.prog w = .ok 1 w := by
  have h1 := int_size
  cases hi : Tryd.prog.info? 3 with
  | none => rw [hi] at h1; cases h1
  | some i =>
    rw [hi] at h1
    simp at h1
    simp [sizeOf, typeInfo, hi, h1]
theorem run_eql_arr2 (w : World) (t : TypeId) (d : Nat) (ht : Tryd.prog.underlying t = some (.array 2 3)) (a0 a1 b0 b1 : Int) :
    (Op.equalIn (d + 2) t (.agg #[.int .i64 a0, .int .i64 a1]) (.agg #[.int .i64 b0, .int .i64 b1])).run Tryd.prog w = .ok (a0 == b0 && a1 == b1) w := by
  have hs := run_size3 w
  have hp : ∀ (xs : Array Value) (o : Nat) (v : Value), xs[o]? = some v → (part 3 xs o).run Tryd.prog w = .ok v w := fun xs o v h => by
    simp [go_sem, part, h]
  have e3 : ∀ a b : Int, (Op.equalIn (d + 1) 3 (.int .i64 a) (.int .i64 b)).run Tryd.prog w = .ok (a == b) w := fun a b => run_equalIn_int w d 3 .i64 .i64 a b Tryd.underlying3
  have x0 := hp #[.int .i64 a0, .int .i64 a1] 0 (.int .i64 a0) rfl
  have x1 := hp #[.int .i64 a0, .int .i64 a1] 1 (.int .i64 a1) rfl
  have y0 := hp #[.int .i64 b0, .int .i64 b1] 0 (.int .i64 b0) rfl
  have y1 := hp #[.int .i64 b0, .int .i64 b1] 1 (.int .i64 b1) rfl
  clear hp
  rw [Op.equalIn]
  simp only [Sem.run_bind, run_underlying ht, Result.andThen_ok, hs]
  rw [show (forIn [:2] ((none : Option Bool), ()) : (Nat → (Option Bool × Unit) → Sem (ForInStep (Option Bool × Unit))) → Sem (Option Bool × Unit)) = (forIn [0, 1] ((none : Option Bool), ())) from by funext f; simp [Std.Legacy.Range.forIn_eq_forIn_range', Std.Legacy.Range.size, List.range']]
  simp only [List.forIn_cons, List.forIn_nil, Sem.run_bind, Nat.zero_mul, Nat.one_mul, x0, y0, Result.andThen_ok, e3, Sem.run_ite]
  cases (a0 == b0)
  · simp
  · simp only [Bool.not_true, Bool.false_eq_true, if_false, Sem.run_pure, Result.andThen_ok, x1, y1, e3, Sem.run_bind, Sem.run_ite, Bool.true_and]
    cases (a1 == b1) <;> simp
theorem run_eq2 (w : World) (t : TypeId) (ht : Tryd.prog.underlying t = some (.array 2 3)) (a0 a1 b0 b1 : Int) :
    (binOp .eql t (.agg #[.int .i64 a0, .int .i64 a1]) (.agg #[.int .i64 b0, .int .i64 b1])).run Tryd.prog w = .ok (.bool (a0 == b0 && a1 == b1)) w := by
  rw [run_eql_struct, run_eql_arr2 w t 9998 ht]
  rfl
theorem run_ne2 (w : World) (t : TypeId) (ht : Tryd.prog.underlying t = some (.array 2 3)) (a0 a1 b0 b1 : Int) :
    (binOp .neq t (.agg #[.int .i64 a0, .int .i64 a1]) (.agg #[.int .i64 b0, .int .i64 b1])).run Tryd.prog w = .ok (.bool (!(a0 == b0 && a1 == b1))) w := by
  rw [run_neq_struct, run_eql_arr2 w t 9998 ht]
  rfl
def stV (s : Sta) : Value := .agg #[.int .i64 s.1, .int .i64 s.2]
def stCells (s : Sta) : List Value := [.int .i64 s.1, .int .i64 s.2]
def nxCells (x : Nxt) : List Value := [.int .i64 x.1, .int .i64 x.2.1, .int .i64 x.2.2]
theorem sta_beq (h t a b : Int) : (h == a && t == b) = decide (((h, t) : Sta) = (a, b)) := by
  rw [Bool.eq_iff_iff]
  simp
set_option maxHeartbeats 1000000 in
theorem c73 (i : Ins) (s : Sta) (w : World) : Calls Tryd.prog 73 #[.agg #[.int .i64 i.o, .int .i64 i.a, .int .i64 i.b], .agg #[.int .i64 s.1, .int .i64 s.2]] w fun e w' => e = .returned (.bool (vExit i.o s)) ∧ Below w.heap.size w w' := by
  obtain ⟨o, a, b⟩ := i
  obtain ⟨h, t⟩ := s
  simp only
  have e1 := fun w => run_eq2 w 122 Tryd.underlying122 h t 1 0
  have e2 := fun w => run_eq2 w 122 Tryd.underlying122 h t 2 0
  simp only [sta_beq] at e1 e2
  have b1 := Lib.hid (next_ (below_new w (.cells #[.int .i64 o, .int .i64 a, .int .i64 b] 23)) (below_new _ (.cells #[.int .i64 h, .int .i64 t] 122)))
  by_cases h9 : o = 9
  · have HX := Lib.hid (show vExit o (h, t) = decide (((h, t) : Sta) = (1, 0)) by unfold vExit; rw [if_pos h9])
    subst h9
    rw [HX.out]
    go_enter Tryd.func73, Tryd.ntmps73
    go_wp2_with fail
    go_ret
    exact ⟨by simp, b1.out⟩
  have f9 : (o == 9) = false := beq_eq_false_iff_ne.2 h9
  by_cases h8 : o = 8
  · have HX := Lib.hid (show vExit o (h, t) = decide (((h, t) : Sta) = (2, 0)) by unfold vExit; rw [if_neg h9, if_pos h8])
    subst h8
    rw [HX.out]
    clear f9 h9
    go_enter Tryd.func73, Tryd.ntmps73
    go_wp2_with fail
    go_ret
    exact ⟨by simp, b1.out⟩
  have f8 : (o == 8) = false := beq_eq_false_iff_ne.2 h8
  have HX := Lib.hid (show vExit o (h, t) = true by unfold vExit; rw [if_neg h9, if_neg h8])
  rw [HX.out]
  clear h8 h9
  go_enter Tryd.func73, Tryd.ntmps73
  go_wp2_with fail
  go_ret
  exact ⟨by simp, b1.out⟩
/-- A checker at block g: the program, the function, the states so far, what is still to be followed. -/
def chkCells (q : PrMem) (x : Fnv) (lv dv : Value) : Array Value := #[.slice q.AF q.L.length q.cF, .slice q.AS q.S.length q.cS, .slice q.AM q.M.length q.cM, .int .i64 x.fn.locals, .int .i64 x.fn.free, .slice x.ad x.fn.code.length x.cap, lv, dv]
def Chk (w : World) (g : Nat) (q : PrMem) (x : Fnv) (lv dv : Value) : Prop := Blk w g 121 (chkCells q x lv dv)
theorem close_a {i : Ins} (h : insGood i = true) (ho : i.o = 6) : 1 ≤ i.a := by
  unfold insGood gGood at h
  rw [if_neg (by omega), if_neg (by omega)] at h
  have h2 := of_decide_eq_true h
  rw [ho] at h2
  have e0 : (opRow ((6 : Int)).toNat).a0 = 1 := by decide +kernel
  omega
set_option maxRecDepth 100000 in
set_option maxHeartbeats 4000000 in
theorem c71 (g : Nat) (q : PrMem) (x : Fnv) (lv dv : Value) (i : Ins) (B : Nat) (w : World) (hc : Chk w g q x lv dv) (hq : PrOk w B q) (hB : B ≤ w.heap.size) (hi : insGood i = true) (hl : x.fn.code.length ≤ maxLen) :
    Calls Tryd.prog 71 #[.pointer (some ⟨g, 0, none⟩), .agg #[.int .i64 i.o, .int .i64 i.a, .int .i64 i.b]] w fun e w' => e = .returned (.bool (vNames q.pr x.fn i)) ∧ Below w.heap.size w w' := by
  have HA := Lib.hid (close_a hi)
  have l1 := hq.lF
  have l2 := hq.lS
  have l3 := hq.lM
  have HF := Lib.hid ((hq.fns.more hB).alloc (Nat.le_refl _) (.cells #[.int .i64 i.o, .int .i64 i.a, .int .i64 i.b] 23))
  unfold maxLen at l1 l2 l3 hl
  clear hi hq
  obtain ⟨o, a, b⟩ := i
  obtain ⟨AF, cF, L, AS, cS, S, AM, cM, M⟩ := q
  obtain ⟨⟨lo, fr, cd⟩, xa, xc⟩ := x
  simp only [PrMem.pr] at l1 l2 l3 hl HF HA ⊢
  have hc' : Blk w g 121 #[.slice AF L.length cF, .slice AS S.length cS, .slice AM M.length cM, .int .i64 lo, .int .i64 fr, .slice xa cd.length xc, lv, dv] := hc
  have P := hc'.alloc (.cells #[.int .i64 o, .int .i64 a, .int .i64 b] 23)
  have b1 := Lib.hid (below_new w (.cells #[.int .i64 o, .int .i64 a, .int .i64 b] 23))
  clear hc hc'
  by_cases h23 : o = 2 ∨ o = 3
  · have HX := Lib.hid (show vNames ⟨L.map (·.fn), S, M.map (·.fm)⟩ ⟨lo, fr, cd⟩ ⟨o, a, b⟩ = decide (a < lo) by unfold vNames; simp only [if_pos h23])
    have p3 := P.cell 3
    rw [HX.out]
    clear HX HF P
    rcases h23 with rfl | rfl
    all_goals
      go_enter Tryd.func71, Tryd.ntmps71
      go_wp2_with fail
      go_quiet (fail)
      go_wp2_with fail
      go_ret
      exact ⟨by simp, below_drewN b1.out _⟩
  by_cases h4 : o = 4
  · have HX := Lib.hid (show vNames ⟨L.map (·.fn), S, M.map (·.fm)⟩ ⟨lo, fr, cd⟩ ⟨o, a, b⟩ = decide (a < fr) by unfold vNames; simp only [if_neg h23, if_pos h4])
    have p3 := P.cell 4
    rw [HX.out]
    clear HX HF P
    subst h4
    all_goals
      go_enter Tryd.func71, Tryd.ntmps71
      go_wp2_with fail
      go_quiet (fail)
      go_wp2_with fail
      go_ret
      exact ⟨by simp, below_drewN b1.out _⟩
  by_cases h1 : o = 1
  · have HX := Lib.hid (show vNames ⟨L.map (·.fn), S, M.map (·.fm)⟩ ⟨lo, fr, cd⟩ ⟨o, a, b⟩ = decide (a < S.length) by unfold vNames; simp only [if_neg h23, if_neg h4, if_pos h1])
    have p3 := P.cell 1
    rw [HX.out]
    clear HX HF P
    subst h1
    all_goals
      go_enter Tryd.func71, Tryd.ntmps71
      go_wp2_with fail
      go_quiet (fail)
      go_wp2_with fail
      go_ret
      exact ⟨by simp, below_drewN b1.out _⟩
  by_cases hj : o = 10 ∨ o = 11 ∨ o = 33
  · have HX := Lib.hid (show vNames ⟨L.map (·.fn), S, M.map (·.fm)⟩ ⟨lo, fr, cd⟩ ⟨o, a, b⟩ = decide (a < cd.length) by unfold vNames; simp only [if_neg h23, if_neg h4, if_neg h1, if_pos hj])
    have p3 := P.cell 5
    rw [HX.out]
    clear HX HF P
    rcases hj with rfl | rfl | rfl
    all_goals
      go_enter Tryd.func71, Tryd.ntmps71
      go_wp2_with fail
      go_quiet (fail)
      go_wp2_with fail
      go_ret
      exact ⟨by simp, below_drewN b1.out _⟩
  by_cases h6 : o = 6
  · have ha1 := HA.out h6
    by_cases hlt : a < L.length
    · obtain ⟨k, rfl⟩ : ∃ k : Nat, a = k := ⟨a.toNat, by omega⟩
      have hk : k < L.length := by omega
      obtain ⟨ad, rfl, _, hcs⟩ := Reads.rowAt (f := Fnv.cells) (m := 3) (fun _ => rfl) HF.out (by decide) (List.getElem?_eq_getElem hk)
      have HX := Lib.hid (show vNames ⟨L.map (·.fn), S, M.map (·.fm)⟩ ⟨lo, fr, cd⟩ ⟨o, k, b⟩ = decide (b = (L[k].fn).free) by
        unfold vNames
        simp only [if_neg h23, if_neg h4, if_neg h1, if_neg hj, if_pos h6, List.length_map, decide_eq_true hlt, Bool.true_and, Int.toNat_natCast]
        have e : (L.map (·.fn)).getD k ⟨0, 0, []⟩ = L[k].fn := by
          rw [List.getD_eq_getElem?_getD, List.getElem?_map, List.getElem?_eq_getElem hk]
          rfl
        simp only [e])
      have p0 := P.cell 0
      have a1 : (w.alloc (.cells #[.int .i64 o, .int .i64 k, .int .i64 b] 23)).cell? ⟨(ad.add (k * 3)).block, (ad.add (k * 3)).off + 1, none⟩ = _ := hcs 1 _ rfl
      have hk0 : (0 : Int) ≤ (k : Int) := by omega
      rw [HX.out]
      clear HX HF P hcs HA ha1
      generalize L[k] = y at a1
      obtain ⟨⟨ylo, yfr, yc⟩, ya, yk⟩ := y
      simp only at a1 ⊢
      have fl : decide ((k : Int) < (L.length : Int)) = true := decide_eq_true hlt
      subst h6
      clear hlt
      go_enter Tryd.func71, Tryd.ntmps71
      go_wp2_with fail
      go_quiet (fail)
      go_wp2_with fail
      go_ret
      exact ⟨by simp; rw [Bool.eq_iff_iff]; simp, below_drewN b1.out _⟩
    · have HX := Lib.hid (show vNames ⟨L.map (·.fn), S, M.map (·.fm)⟩ ⟨lo, fr, cd⟩ ⟨o, a, b⟩ = false by
        unfold vNames
        simp only [if_neg h23, if_neg h4, if_neg h1, if_neg hj, if_pos h6, List.length_map, decide_eq_false hlt, Bool.false_and])
      have p0 := P.cell 0
      have fl : decide (a < (L.length : Int)) = false := decide_eq_false hlt
      rw [HX.out]
      clear HX HF P HA ha1 hlt
      subst h6
      go_enter Tryd.func71, Tryd.ntmps71
      go_wp2_with fail
      go_quiet (fail)
      go_wp2_with fail
      go_ret
      exact ⟨by simp, below_drewN b1.out _⟩
  by_cases h36 : o = 36
  · by_cases h3 : a = 3
    · have HX := Lib.hid (show vNames ⟨L.map (·.fn), S, M.map (·.fm)⟩ ⟨lo, fr, cd⟩ ⟨o, a, b⟩ = decide (b < M.length) by
        unfold vNames
        simp only [if_neg h23, if_neg h4, if_neg h1, if_neg hj, if_neg h6, if_pos h36, h3, List.length_map]
        rfl)
      have p2 := P.cell 2
      rw [HX.out]
      clear HX HF P HA
      subst h36
      subst h3
      go_enter Tryd.func71, Tryd.ntmps71
      go_wp2_with fail
      go_quiet (fail)
      go_wp2_with fail
      go_ret
      exact ⟨by simp, below_drewN b1.out _⟩
    · have HX := Lib.hid (show vNames ⟨L.map (·.fn), S, M.map (·.fm)⟩ ⟨lo, fr, cd⟩ ⟨o, a, b⟩ = true by
        unfold vNames
        simp only [if_neg h23, if_neg h4, if_neg h1, if_neg hj, if_neg h6, if_pos h36, List.length_map, decide_eq_true (show a ≠ 3 from h3), Bool.true_or])
      have fl : (a != 3) = true := bne_iff_ne.2 h3
      rw [HX.out]
      clear HX HF P HA
      subst h36
      go_enter Tryd.func71, Tryd.ntmps71
      go_wp2_with fail
      go_quiet (fail)
      go_wp2_with fail
      go_ret
      exact ⟨by simp, below_drewN b1.out _⟩
  have HX := Lib.hid (show vNames ⟨L.map (·.fn), S, M.map (·.fm)⟩ ⟨lo, fr, cd⟩ ⟨o, a, b⟩ = true by unfold vNames; simp only [if_neg h23, if_neg h4, if_neg h1, if_neg hj, if_neg h6, if_neg h36])
  have f2 : (o == 2) = false := beq_eq_false_iff_ne.2 (by omega)
  have f3 : (o == 3) = false := beq_eq_false_iff_ne.2 (by omega)
  have f4 : (o == 4) = false := beq_eq_false_iff_ne.2 (by omega)
  have f1 : (o == 1) = false := beq_eq_false_iff_ne.2 (by omega)
  have f10 : (o == 10) = false := beq_eq_false_iff_ne.2 (by omega)
  have f11 : (o == 11) = false := beq_eq_false_iff_ne.2 (by omega)
  have f33 : (o == 33) = false := beq_eq_false_iff_ne.2 (by omega)
  have f6 : (o == 6) = false := beq_eq_false_iff_ne.2 (by omega)
  have f36 : (o == 36) = false := beq_eq_false_iff_ne.2 (by omega)
  rw [HX.out]
  clear HX HF P HA h23 h4 h1 hj h6 h36
  go_enter Tryd.func71, Tryd.ntmps71
  go_wp2_with fail
  go_ret
  exact ⟨by simp, b1.out⟩
end Go.Proofs.YtiphicejaljhiaaDoor
