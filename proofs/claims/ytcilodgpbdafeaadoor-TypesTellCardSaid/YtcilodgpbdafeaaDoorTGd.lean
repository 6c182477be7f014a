/- types.begin: where all beneath a part begins. -/
import Derived.Test.YtcilodgpbdafeaaDoorTPrt
import Derived.Laws.StructEq
import Derived.Deep.QuietTactic
import Derived.BigQuiet
namespace Go.Proofs.YtcilodgpbdafeaaDoor
open Go.ChangeShapes Go.WideShapes Go.ChangeAt Go.RowKit
set_option linter.unusedVariables false
set_option linter.unusedSimpArgs false
theorem strV_beq (a b : List UInt8) : ((⟨a.toArray⟩ : ByteArray) == ⟨b.toArray⟩) = (a == b) := by
  show (a.toArray == b.toArray) = _
  simp
set_option maxRecDepth 100000 in
theorem run_equal_part (w : World) (k a b n : Int) (t : List UInt8) (k' a' b' n' : Int) (t' : List UInt8) : (Op.equalIn 10000 29 (.agg #[.int .i64 k, .int .i64 a, .int .i64 b, .int .i64 n, strV t]) (.agg #[.int .i64 k', .int .i64 a', .int .i64 b', .int .i64 n', strV t'])).run Tryd.prog w = .ok (k == k' && (a == a' && (b == b' && (n == n' && t == t')))) w := by
  rw [run_equalIn_struct w 9999 29 _ _ (by kernel_rfl) (by kernel_rfl)]
  unfold Program.fieldsOf
  rw [Tryd.underlying29]
  have hp : ∀ (ty : TypeId) (hty : ty = 3 ∨ ty = 9) (xs : Array Value) (o : Nat) (v : Value), xs[o]? = some v → (part ty xs o).run Tryd.prog w = .ok v w := fun ty hty xs o v h => by
    rcases hty with rfl | rfl <;> simp [go_sem, part, h]
  have e3 : ∀ a b : Int, (Op.equalIn 9999 3 (.int .i64 a) (.int .i64 b)).run Tryd.prog w = .ok (a == b) w := fun a b => run_equalIn_int w 9998 3 .i64 .i64 a b Tryd.underlying3
  have e9 : (Op.equalIn 9999 9 (strV t) (strV t')).run Tryd.prog w = .ok (t == t') w := by rw [← strV_beq, beq_toListBytes]; exact run_equalIn_string w 9998 9 _ _ Tryd.underlying9
  have x0 := hp 3 (.inl rfl) #[.int .i64 k, .int .i64 a, .int .i64 b, .int .i64 n, strV t] 0 (.int .i64 k) rfl
  have x1 := hp 3 (.inl rfl) #[.int .i64 k, .int .i64 a, .int .i64 b, .int .i64 n, strV t] 1 (.int .i64 a) rfl
  have x2 := hp 3 (.inl rfl) #[.int .i64 k, .int .i64 a, .int .i64 b, .int .i64 n, strV t] 2 (.int .i64 b) rfl
  have x3 := hp 3 (.inl rfl) #[.int .i64 k, .int .i64 a, .int .i64 b, .int .i64 n, strV t] 3 (.int .i64 n) rfl
  have x4 := hp 9 (.inr rfl) #[.int .i64 k, .int .i64 a, .int .i64 b, .int .i64 n, strV t] 4 (strV t) rfl
  have y0 := hp 3 (.inl rfl) #[.int .i64 k', .int .i64 a', .int .i64 b', .int .i64 n', strV t'] 0 (.int .i64 k') rfl
  have y1 := hp 3 (.inl rfl) #[.int .i64 k', .int .i64 a', .int .i64 b', .int .i64 n', strV t'] 1 (.int .i64 a') rfl
  have y2 := hp 3 (.inl rfl) #[.int .i64 k', .int .i64 a', .int .i64 b', .int .i64 n', strV t'] 2 (.int .i64 b') rfl
  have y3 := hp 3 (.inl rfl) #[.int .i64 k', .int .i64 a', .int .i64 b', .int .i64 n', strV t'] 3 (.int .i64 n') rfl
  have y4 := hp 9 (.inr rfl) #[.int .i64 k', .int .i64 a', .int .i64 b', .int .i64 n', strV t'] 4 (strV t') rfl
  clear hp
  have t0 : "Kind" ≠ "_" := by decide
  have t1 : "A" ≠ "_" := by decide
  have t2 : "B" ≠ "_" := by decide
  have t3 : "N" ≠ "_" := by decide
  have t4 : "Text" ≠ "_" := by decide
  simp only [Op.eqFields, Sem.run_bind, Sem.run_ite, Result.andThen_ok, if_pos t0, if_pos t1, if_pos t2, if_pos t3, if_pos t4, x0, y0, x1, y1, x2, y2, x3, y3, x4, y4, e3, e9, Sem.run_pure]
  cases (k == k') <;> cases (a == a') <;> cases (b == b') <;> cases (n == n') <;> cases (t == t') <;> rfl
theorem part_beq (k a b n : Int) (t : List UInt8) (k' a' b' n' : Int) (t' : List UInt8) : (k == k' && (a == a' && (b == b' && (n == n' && t == t')))) = decide ((⟨k, a, b, n, t⟩ : Part) = ⟨k', a', b', n', t'⟩) := by
  rw [Bool.eq_iff_iff]
  simp
theorem eql29 (w : World) (k a b n : Int) (t : List UInt8) (k' a' b' n' : Int) (t' : List UInt8) : (binOp .eql 29 (.agg #[.int .i64 k, .int .i64 a, .int .i64 b, .int .i64 n, strV t]) (.agg #[.int .i64 k', .int .i64 a', .int .i64 b', .int .i64 n', strV t'])).run Tryd.prog w = .ok (.bool (decide ((⟨k, a, b, n, t⟩ : Part) = ⟨k', a', b', n', t'⟩))) w := by
  rw [run_eql_struct, run_equal_part, part_beq]
  rfl
theorem neq29 (w : World) (k a b n : Int) (t : List UInt8) (k' a' b' n' : Int) (t' : List UInt8) : (binOp .neq 29 (.agg #[.int .i64 k, .int .i64 a, .int .i64 b, .int .i64 n, strV t]) (.agg #[.int .i64 k', .int .i64 a', .int .i64 b', .int .i64 n', strV t'])).run Tryd.prog w = .ok (.bool (!decide ((⟨k, a, b, n, t⟩ : Part) = ⟨k', a', b', n', t'⟩))) w := by
  rw [run_neq_struct, run_equal_part, part_beq]
  rfl
/-- What begin answers. -/
def BegEnd (p : Part) (F : List Nat) (w : World) (e : Ending) (w' : World) : Prop :=
  ∃ (b : Nat) (ok : Bool), e = .returned (.tuple #[.int .i64 (b : Int), .bool ok]) ∧ (ok = true → beg p F = some b) ∧ (ok = false → beg p F = none) ∧ Below w.heap.size w w'
theorem BegEnd.yes {p : Part} {F : List Nat} {w w' : World} {b : Nat} (h : beg p F = some b) (hb : Below w.heap.size w w') : BegEnd p F w (.returned (.tuple #[.int .i64 (b : Int), .bool true])) w' := ⟨b, true, rfl, fun _ => h, fun e => (by cases e), hb⟩
theorem BegEnd.no {p : Part} {F : List Nat} {w w' : World} (b : Nat) (h : beg p F = none) (hb : Below w.heap.size w w') : BegEnd p F w (.returned (.tuple #[.int .i64 (b : Int), .bool false])) w' := ⟨b, false, rfl, fun e => (by cases e), fun _ => h, hb⟩
def natV (x : Nat) : Value := .int .i64 (x : Int)
set_option maxRecDepth 100000 in
set_option maxHeartbeats 4000000 in
theorem c28k1 (a b n : Int) (t : List UInt8) (F : List Nat) (A : Option Addr) (c B : Nat) (w : World) (hr : Reads w B 1 A F.length (F.map natV)) (hB : B ≤ w.heap.size) (hl : F.length ≤ 1000) :
    Calls Tryd.prog 28 #[.agg #[.int .i64 1, .int .i64 a, .int .i64 b, .int .i64 n, strV t], .slice A F.length c] w (BegEnd ⟨1, a, b, n, t⟩ F w) := by
  have HR := Lib.hid hr
  have HB := Lib.hid hB
  clear hr hB
  have hb : beg ⟨1, a, b, n, t⟩ F = if (⟨1, a, b, n, t⟩ : Part) = ⟨1, 0, 0, 0, []⟩ then some F.length else none := by unfold beg; rw [if_pos (by simp)]
  have HBg := Lib.hid hb
  clear hb
  have e29 := fun w => eql29 w 1 a b n t 1 0 0 0 []
  by_cases hp : (⟨1, a, b, n, t⟩ : Part) = ⟨1, 0, 0, 0, []⟩
  · have HP := Lib.hid hp
    replace e29 : ∀ w, (binOp .eql 29 (.agg #[.int .i64 1, .int .i64 a, .int .i64 b, .int .i64 n, strV t]) (.agg #[.int .i64 1, .int .i64 0, .int .i64 0, .int .i64 0, .string ⟨#[]⟩])).run Tryd.prog w = .ok (.bool true) w := fun w => (e29 w).trans (by rw [decide_eq_true hp])
    clear hp
    go_enter Tryd.func28, Tryd.ntmps28
    go_wp2_with fail
    go_quiet (fail)
    go_wp2_with fail
    go_ret2
    exact BegEnd.yes (by rw [HBg.out, if_pos HP.out]) (below_drewN (below_new w _) _)
  · have HP := Lib.hid hp
    replace e29 : ∀ w, (binOp .eql 29 (.agg #[.int .i64 1, .int .i64 a, .int .i64 b, .int .i64 n, strV t]) (.agg #[.int .i64 1, .int .i64 0, .int .i64 0, .int .i64 0, .string ⟨#[]⟩])).run Tryd.prog w = .ok (.bool false) w := fun w => (e29 w).trans (by rw [decide_eq_false hp])
    clear hp
    go_enter Tryd.func28, Tryd.ntmps28
    go_wp2_with fail
    go_quiet (fail)
    go_wp2_with fail
    go_ret2
    exact BegEnd.no _ (by rw [HBg.out, if_neg HP.out]) (below_drewN (below_new w _) _)
set_option maxRecDepth 100000 in
set_option maxHeartbeats 4000000 in
theorem c28k2 (a b n : Int) (t : List UInt8) (F : List Nat) (A : Option Addr) (c B : Nat) (w : World) (hr : Reads w B 1 A F.length (F.map natV)) (hB : B ≤ w.heap.size) (hl : F.length ≤ 1000) :
    Calls Tryd.prog 28 #[.agg #[.int .i64 2, .int .i64 a, .int .i64 b, .int .i64 n, strV t], .slice A F.length c] w (BegEnd ⟨2, a, b, n, t⟩ F w) := by
  have HR := Lib.hid hr
  have HB := Lib.hid hB
  clear hr hB
  have hb : beg ⟨2, a, b, n, t⟩ F = if (⟨2, a, b, n, t⟩ : Part) = ⟨2, 0, 0, 0, []⟩ then some F.length else none := by unfold beg; rw [if_pos (by simp)]
  have HBg := Lib.hid hb
  clear hb
  have e29 := fun w => eql29 w 2 a b n t 2 0 0 0 []
  by_cases hp : (⟨2, a, b, n, t⟩ : Part) = ⟨2, 0, 0, 0, []⟩
  · have HP := Lib.hid hp
    replace e29 : ∀ w, (binOp .eql 29 (.agg #[.int .i64 2, .int .i64 a, .int .i64 b, .int .i64 n, strV t]) (.agg #[.int .i64 2, .int .i64 0, .int .i64 0, .int .i64 0, .string ⟨#[]⟩])).run Tryd.prog w = .ok (.bool true) w := fun w => (e29 w).trans (by rw [decide_eq_true hp])
    clear hp
    go_enter Tryd.func28, Tryd.ntmps28
    go_wp2_with fail
    go_quiet (fail)
    go_wp2_with fail
    go_ret2
    exact BegEnd.yes (by rw [HBg.out, if_pos HP.out]) (below_drewN (below_new w _) _)
  · have HP := Lib.hid hp
    replace e29 : ∀ w, (binOp .eql 29 (.agg #[.int .i64 2, .int .i64 a, .int .i64 b, .int .i64 n, strV t]) (.agg #[.int .i64 2, .int .i64 0, .int .i64 0, .int .i64 0, .string ⟨#[]⟩])).run Tryd.prog w = .ok (.bool false) w := fun w => (e29 w).trans (by rw [decide_eq_false hp])
    clear hp
    go_enter Tryd.func28, Tryd.ntmps28
    go_wp2_with fail
    go_quiet (fail)
    go_wp2_with fail
    go_ret2
    exact BegEnd.no _ (by rw [HBg.out, if_neg HP.out]) (below_drewN (below_new w _) _)
set_option maxRecDepth 100000 in
set_option maxHeartbeats 4000000 in
theorem c28k3 (a b n : Int) (t : List UInt8) (F : List Nat) (A : Option Addr) (c B : Nat) (w : World) (hr : Reads w B 1 A F.length (F.map natV)) (hB : B ≤ w.heap.size) (hl : F.length ≤ 1000) :
    Calls Tryd.prog 28 #[.agg #[.int .i64 3, .int .i64 a, .int .i64 b, .int .i64 n, strV t], .slice A F.length c] w (BegEnd ⟨3, a, b, n, t⟩ F w) := by
  have HR := Lib.hid hr
  have HB := Lib.hid hB
  clear hr hB
  have hb : beg ⟨3, a, b, n, t⟩ F = if (⟨3, a, b, n, t⟩ : Part) = ⟨3, 0, 0, 0, []⟩ then some F.length else none := by unfold beg; rw [if_pos (by simp)]
  have HBg := Lib.hid hb
  clear hb
  have e29 := fun w => eql29 w 3 a b n t 3 0 0 0 []
  by_cases hp : (⟨3, a, b, n, t⟩ : Part) = ⟨3, 0, 0, 0, []⟩
  · have HP := Lib.hid hp
    replace e29 : ∀ w, (binOp .eql 29 (.agg #[.int .i64 3, .int .i64 a, .int .i64 b, .int .i64 n, strV t]) (.agg #[.int .i64 3, .int .i64 0, .int .i64 0, .int .i64 0, .string ⟨#[]⟩])).run Tryd.prog w = .ok (.bool true) w := fun w => (e29 w).trans (by rw [decide_eq_true hp])
    clear hp
    go_enter Tryd.func28, Tryd.ntmps28
    go_wp2_with fail
    go_quiet (fail)
    go_wp2_with fail
    go_ret2
    exact BegEnd.yes (by rw [HBg.out, if_pos HP.out]) (below_drewN (below_new w _) _)
  · have HP := Lib.hid hp
    replace e29 : ∀ w, (binOp .eql 29 (.agg #[.int .i64 3, .int .i64 a, .int .i64 b, .int .i64 n, strV t]) (.agg #[.int .i64 3, .int .i64 0, .int .i64 0, .int .i64 0, .string ⟨#[]⟩])).run Tryd.prog w = .ok (.bool false) w := fun w => (e29 w).trans (by rw [decide_eq_false hp])
    clear hp
    go_enter Tryd.func28, Tryd.ntmps28
    go_wp2_with fail
    go_quiet (fail)
    go_wp2_with fail
    go_ret2
    exact BegEnd.no _ (by rw [HBg.out, if_neg HP.out]) (below_drewN (below_new w _) _)
set_option maxRecDepth 100000 in
set_option maxHeartbeats 4000000 in
theorem c28k4 (a b n : Int) (t : List UInt8) (F : List Nat) (A : Option Addr) (c B : Nat) (w : World) (hr : Reads w B 1 A F.length (F.map natV)) (hB : B ≤ w.heap.size) (hl : F.length ≤ 1000) :
    Calls Tryd.prog 28 #[.agg #[.int .i64 4, .int .i64 a, .int .i64 b, .int .i64 n, strV t], .slice A F.length c] w (BegEnd ⟨4, a, b, n, t⟩ F w) := by
  have HR := Lib.hid hr
  have HB := Lib.hid hB
  clear hr hB
  have hb : beg ⟨4, a, b, n, t⟩ F = if (⟨4, a, b, n, t⟩ : Part) = ⟨4, 0, 0, 0, []⟩ then some F.length else none := by unfold beg; rw [if_pos (by simp)]
  have HBg := Lib.hid hb
  clear hb
  have e29 := fun w => eql29 w 4 a b n t 4 0 0 0 []
  by_cases hp : (⟨4, a, b, n, t⟩ : Part) = ⟨4, 0, 0, 0, []⟩
  · have HP := Lib.hid hp
    replace e29 : ∀ w, (binOp .eql 29 (.agg #[.int .i64 4, .int .i64 a, .int .i64 b, .int .i64 n, strV t]) (.agg #[.int .i64 4, .int .i64 0, .int .i64 0, .int .i64 0, .string ⟨#[]⟩])).run Tryd.prog w = .ok (.bool true) w := fun w => (e29 w).trans (by rw [decide_eq_true hp])
    clear hp
    go_enter Tryd.func28, Tryd.ntmps28
    go_wp2_with fail
    go_quiet (fail)
    go_wp2_with fail
    go_ret2
    exact BegEnd.yes (by rw [HBg.out, if_pos HP.out]) (below_drewN (below_new w _) _)
  · have HP := Lib.hid hp
    replace e29 : ∀ w, (binOp .eql 29 (.agg #[.int .i64 4, .int .i64 a, .int .i64 b, .int .i64 n, strV t]) (.agg #[.int .i64 4, .int .i64 0, .int .i64 0, .int .i64 0, .string ⟨#[]⟩])).run Tryd.prog w = .ok (.bool false) w := fun w => (e29 w).trans (by rw [decide_eq_false hp])
    clear hp
    go_enter Tryd.func28, Tryd.ntmps28
    go_wp2_with fail
    go_quiet (fail)
    go_wp2_with fail
    go_ret2
    exact BegEnd.no _ (by rw [HBg.out, if_neg HP.out]) (below_drewN (below_new w _) _)
set_option maxRecDepth 100000 in
set_option maxHeartbeats 4000000 in
theorem c28k5 (a b n : Int) (t : List UInt8) (F : List Nat) (A : Option Addr) (c B : Nat) (w : World) (hr : Reads w B 1 A F.length (F.map natV)) (hB : B ≤ w.heap.size) (hl : F.length ≤ 1000) :
    Calls Tryd.prog 28 #[.agg #[.int .i64 5, .int .i64 a, .int .i64 b, .int .i64 n, strV t], .slice A F.length c] w (BegEnd ⟨5, a, b, n, t⟩ F w) := by
  have HR := Lib.hid hr
  have HB := Lib.hid hB
  clear hr hB
  have hb : beg ⟨5, a, b, n, t⟩ F = if (⟨5, a, b, n, t⟩ : Part) = ⟨5, 0, 0, 0, []⟩ then some F.length else none := by unfold beg; rw [if_pos (by simp)]
  have HBg := Lib.hid hb
  clear hb
  have e29 := fun w => eql29 w 5 a b n t 5 0 0 0 []
  by_cases hp : (⟨5, a, b, n, t⟩ : Part) = ⟨5, 0, 0, 0, []⟩
  · have HP := Lib.hid hp
    replace e29 : ∀ w, (binOp .eql 29 (.agg #[.int .i64 5, .int .i64 a, .int .i64 b, .int .i64 n, strV t]) (.agg #[.int .i64 5, .int .i64 0, .int .i64 0, .int .i64 0, .string ⟨#[]⟩])).run Tryd.prog w = .ok (.bool true) w := fun w => (e29 w).trans (by rw [decide_eq_true hp])
    clear hp
    go_enter Tryd.func28, Tryd.ntmps28
    go_wp2_with fail
    go_quiet (fail)
    go_wp2_with fail
    go_ret2
    exact BegEnd.yes (by rw [HBg.out, if_pos HP.out]) (below_drewN (below_new w _) _)
  · have HP := Lib.hid hp
    replace e29 : ∀ w, (binOp .eql 29 (.agg #[.int .i64 5, .int .i64 a, .int .i64 b, .int .i64 n, strV t]) (.agg #[.int .i64 5, .int .i64 0, .int .i64 0, .int .i64 0, .string ⟨#[]⟩])).run Tryd.prog w = .ok (.bool false) w := fun w => (e29 w).trans (by rw [decide_eq_false hp])
    clear hp
    go_enter Tryd.func28, Tryd.ntmps28
    go_wp2_with fail
    go_quiet (fail)
    go_wp2_with fail
    go_ret2
    exact BegEnd.no _ (by rw [HBg.out, if_neg HP.out]) (below_drewN (below_new w _) _)
set_option maxRecDepth 100000 in
set_option maxHeartbeats 4000000 in
theorem c28k10 (a b n : Int) (t : List UInt8) (F : List Nat) (A : Option Addr) (c B : Nat) (w : World) (hr : Reads w B 1 A F.length (F.map natV)) (hB : B ≤ w.heap.size) (hl : F.length ≤ 1000) :
    Calls Tryd.prog 28 #[.agg #[.int .i64 10, .int .i64 a, .int .i64 b, .int .i64 n, strV t], .slice A F.length c] w (BegEnd ⟨10, a, b, n, t⟩ F w) := by
  have HR := Lib.hid hr
  have HB := Lib.hid hB
  clear hr hB
  have hb : beg ⟨10, a, b, n, t⟩ F = if (⟨10, a, b, n, t⟩ : Part) = ⟨10, 0, 0, 0, t⟩ ∧ t ≠ [] then some F.length else none := by unfold beg; rw [if_neg (by simp), if_pos rfl]
  have HBg := Lib.hid hb
  clear hb
  have e29 := fun w => eql29 w 10 a b n t 10 0 0 0 t
  by_cases hp : (⟨10, a, b, n, t⟩ : Part) = ⟨10, 0, 0, 0, t⟩
  · have HP := Lib.hid hp
    replace e29 : ∀ w, (binOp .eql 29 (.agg #[.int .i64 10, .int .i64 a, .int .i64 b, .int .i64 n, strV t]) (.agg #[.int .i64 10, .int .i64 0, .int .i64 0, .int .i64 0, strV t])).run Tryd.prog w = .ok (.bool true) w := fun w => (e29 w).trans (by rw [decide_eq_true hp])
    clear hp
    cases t with
    | nil =>
      go_enter Tryd.func28, Tryd.ntmps28
      go_wp2_with fail
      go_quiet (fail)
      go_wp2_with fail
      go_ret2
      exact BegEnd.no _ (by rw [HBg.out, if_neg (fun h => h.2 rfl)]) (below_drewN (below_new w _) _)
    | cons x t =>
      have ft : ((x :: t) == ([] : List UInt8)) = false := rfl
      go_enter Tryd.func28, Tryd.ntmps28
      go_wp2_with fail
      go_quiet (fail)
      go_wp2_with fail
      go_ret2
      exact BegEnd.yes (by rw [HBg.out, if_pos ⟨HP.out, by simp⟩]) (below_drewN (below_new w _) _)
  · have HP := Lib.hid hp
    replace e29 : ∀ w, (binOp .eql 29 (.agg #[.int .i64 10, .int .i64 a, .int .i64 b, .int .i64 n, strV t]) (.agg #[.int .i64 10, .int .i64 0, .int .i64 0, .int .i64 0, strV t])).run Tryd.prog w = .ok (.bool false) w := fun w => (e29 w).trans (by rw [decide_eq_false hp])
    clear hp
    go_enter Tryd.func28, Tryd.ntmps28
    go_wp2_with fail
    go_quiet (fail)
    go_wp2_with fail
    go_ret2
    exact BegEnd.no _ (by rw [HBg.out, if_neg (fun h => HP.out h.1)]) (below_drewN (below_new w _) _)
set_option maxRecDepth 100000 in
set_option maxHeartbeats 4000000 in
theorem c28k11 (a b n : Int) (t : List UInt8) (F : List Nat) (A : Option Addr) (c B : Nat) (w : World) (hr : Reads w B 1 A F.length (F.map natV)) (hB : B ≤ w.heap.size) (hl : F.length ≤ 1000) :
    Calls Tryd.prog 28 #[.agg #[.int .i64 11, .int .i64 a, .int .i64 b, .int .i64 n, strV t], .slice A F.length c] w (BegEnd ⟨11, a, b, n, t⟩ F w) := by
  have HR := Lib.hid hr
  have HB := Lib.hid hB
  clear hr hB
  have hb : beg ⟨11, a, b, n, t⟩ F = if (⟨11, a, b, n, t⟩ : Part) = ⟨11, 0, 0, n, []⟩ ∧ 0 ≤ n then some F.length else none := by unfold beg; rw [if_neg (by simp), if_neg (by simp), if_pos rfl]
  have HBg := Lib.hid hb
  clear hb
  have e29 := fun w => eql29 w 11 a b n t 11 0 0 n []
  by_cases hp : (⟨11, a, b, n, t⟩ : Part) = ⟨11, 0, 0, n, []⟩
  · have HP := Lib.hid hp
    replace e29 : ∀ w, (binOp .eql 29 (.agg #[.int .i64 11, .int .i64 a, .int .i64 b, .int .i64 n, strV t]) (.agg #[.int .i64 11, .int .i64 0, .int .i64 0, .int .i64 n, .string ⟨#[]⟩])).run Tryd.prog w = .ok (.bool true) w := fun w => (e29 w).trans (by rw [decide_eq_true hp])
    clear hp
    by_cases hn : 0 ≤ n
    · have fn : decide (0 ≤ n) = true := decide_eq_true hn
      go_enter Tryd.func28, Tryd.ntmps28
      go_wp2_with fail
      go_quiet (fail)
      go_wp2_with fail
      go_ret2
      exact BegEnd.yes (by rw [HBg.out, if_pos ⟨HP.out, hn⟩]) (below_drewN (below_new w _) _)
    · have fn : decide (0 ≤ n) = false := decide_eq_false hn
      have HNn := Lib.hid hn
      clear hn
      go_enter Tryd.func28, Tryd.ntmps28
      go_wp2_with fail
      go_quiet (fail)
      go_wp2_with fail
      go_ret2
      exact BegEnd.no _ (by rw [HBg.out, if_neg (fun h => by have h1 := HNn.out; have h2 := h.2; omega)]) (below_drewN (below_new w _) _)
  · have HP := Lib.hid hp
    replace e29 : ∀ w, (binOp .eql 29 (.agg #[.int .i64 11, .int .i64 a, .int .i64 b, .int .i64 n, strV t]) (.agg #[.int .i64 11, .int .i64 0, .int .i64 0, .int .i64 n, .string ⟨#[]⟩])).run Tryd.prog w = .ok (.bool false) w := fun w => (e29 w).trans (by rw [decide_eq_false hp])
    clear hp
    go_enter Tryd.func28, Tryd.ntmps28
    go_wp2_with fail
    go_quiet (fail)
    go_wp2_with fail
    go_ret2
    exact BegEnd.no _ (by rw [HBg.out, if_neg (fun h => HP.out h.1)]) (below_drewN (below_new w _) _)
set_option maxRecDepth 100000 in
set_option maxHeartbeats 4000000 in
theorem c28k7 (a b n : Int) (t : List UInt8) (F : List Nat) (A : Option Addr) (c B : Nat) (w : World) (hr : Reads w B 1 A F.length (F.map natV)) (hB : B ≤ w.heap.size) (hl : F.length ≤ 1000) :
    Calls Tryd.prog 28 #[.agg #[.int .i64 7, .int .i64 a, .int .i64 b, .int .i64 n, strV t], .slice A F.length c] w (BegEnd ⟨7, a, b, n, t⟩ F w) := by
  have HR := Lib.hid hr
  have HB := Lib.hid hB
  clear hr hB
  have hb : beg ⟨7, a, b, n, t⟩ F = if 1 ≤ F.length ∧ (⟨7, a, b, n, t⟩ : Part) = ⟨7, (F.length : Int) - 1, 0, 0, []⟩ then F[F.length - 1]? else none := by unfold beg; rw [if_neg (by simp), if_neg (by simp), if_neg (by simp), if_pos (by simp)]
  have HBg := Lib.hid hb
  clear hb
  by_cases hF : F.length = 0
  · have hl0 : (F.length : Int) < 1 := by omega
    have HF := Lib.hid hF
    clear hF
    go_enter Tryd.func28, Tryd.ntmps28
    go_wp2_with fail
    go_ret2
    exact BegEnd.no 0 (by rw [HBg.out, if_neg (fun h => by have := HF.out; omega)]) (below_new w _)
  · obtain ⟨m, hm⟩ : ∃ m, F.length = m + 1 := ⟨F.length - 1, by omega⟩
    have hl0 : ¬ ((F.length : Int) < 1) := by omega
    have hlm : (F.length : Int) - 1 = (m : Int) := by omega
    have hm1 : (m : Int) < (F.length : Int) := by omega
    have hm0 : (0 : Int) ≤ (m : Int) := by omega
    have hmF : m < F.length := by omega
    obtain ⟨x, hx⟩ : ∃ x, F[m]? = some x := ⟨_, List.getElem?_eq_getElem hmF⟩
    obtain ⟨ad, u, rfl, hadb, hu, a0⟩ := HR.out.at_ (k := m) hmF
    rw [List.getElem?_map, hx] at hu
    obtain rfl := Option.some.inj hu
    have hadl : ad.block < w.heap.size := Nat.lt_of_lt_of_le hadb HB.out
    replace a0 : w.cell? (ad.add m) = some (.int .i64 (x : Int)) := a0
    have a1 := fun o => (World.cell?_alloc_lt w o (ad.add m) (by rw [block_of_add]; exact hadl)).trans a0
    have HX := Lib.hid hx
    have HM := Lib.hid hm
    have e29 := fun w => eql29 w 7 a b n t 7 (m : Int) 0 0 []
    clear hx hu hF hmF a0
    by_cases hp : (⟨7, a, b, n, t⟩ : Part) = ⟨7, (m : Int), 0, 0, []⟩
    · have HP := Lib.hid hp
      replace e29 : ∀ w, (binOp .eql 29 (.agg #[.int .i64 7, .int .i64 a, .int .i64 b, .int .i64 n, strV t]) (.agg #[.int .i64 7, .int .i64 (m : Int), .int .i64 0, .int .i64 0, .string ⟨#[]⟩])).run Tryd.prog w = .ok (.bool true) w := fun w => (e29 w).trans (by rw [decide_eq_true hp])
      clear hp hm
      go_enter Tryd.func28, Tryd.ntmps28
      go_wp2_with fail
      go_quiet (fail)
      go_wp2_with fail
      go_ret2
      exact BegEnd.yes (by rw [HBg.out, if_pos ⟨by have := HM.out; omega, by rw [HP.out, hlm]⟩, HM.out]; exact HX.out) (below_drewN (below_new w _) _)
    · have HP := Lib.hid hp
      replace e29 : ∀ w, (binOp .eql 29 (.agg #[.int .i64 7, .int .i64 a, .int .i64 b, .int .i64 n, strV t]) (.agg #[.int .i64 7, .int .i64 (m : Int), .int .i64 0, .int .i64 0, .string ⟨#[]⟩])).run Tryd.prog w = .ok (.bool false) w := fun w => (e29 w).trans (by rw [decide_eq_false hp])
      clear hp hm
      go_enter Tryd.func28, Tryd.ntmps28
      go_wp2_with fail
      go_quiet (fail)
      go_wp2_with fail
      go_ret2
      exact BegEnd.no x (by rw [HBg.out, if_neg (fun h => HP.out (by rw [h.2, hlm]))]) (below_drewN (below_new w _) _)
set_option maxRecDepth 100000 in
set_option maxHeartbeats 4000000 in
theorem c28k9 (a b n : Int) (t : List UInt8) (F : List Nat) (A : Option Addr) (c B : Nat) (w : World) (hr : Reads w B 1 A F.length (F.map natV)) (hB : B ≤ w.heap.size) (hl : F.length ≤ 1000) :
    Calls Tryd.prog 28 #[.agg #[.int .i64 9, .int .i64 a, .int .i64 b, .int .i64 n, strV t], .slice A F.length c] w (BegEnd ⟨9, a, b, n, t⟩ F w) := by
  have HR := Lib.hid hr
  have HB := Lib.hid hB
  clear hr hB
  have hb : beg ⟨9, a, b, n, t⟩ F = if 1 ≤ F.length ∧ (⟨9, a, b, n, t⟩ : Part) = ⟨9, (F.length : Int) - 1, 0, 0, []⟩ then F[F.length - 1]? else none := by unfold beg; rw [if_neg (by simp), if_neg (by simp), if_neg (by simp), if_pos (by simp)]
  have HBg := Lib.hid hb
  clear hb
  by_cases hF : F.length = 0
  · have hl0 : (F.length : Int) < 1 := by omega
    have HF := Lib.hid hF
    clear hF
    go_enter Tryd.func28, Tryd.ntmps28
    go_wp2_with fail
    go_ret2
    exact BegEnd.no 0 (by rw [HBg.out, if_neg (fun h => by have := HF.out; omega)]) (below_new w _)
  · obtain ⟨m, hm⟩ : ∃ m, F.length = m + 1 := ⟨F.length - 1, by omega⟩
    have hl0 : ¬ ((F.length : Int) < 1) := by omega
    have hlm : (F.length : Int) - 1 = (m : Int) := by omega
    have hm1 : (m : Int) < (F.length : Int) := by omega
    have hm0 : (0 : Int) ≤ (m : Int) := by omega
    have hmF : m < F.length := by omega
    obtain ⟨x, hx⟩ : ∃ x, F[m]? = some x := ⟨_, List.getElem?_eq_getElem hmF⟩
    obtain ⟨ad, u, rfl, hadb, hu, a0⟩ := HR.out.at_ (k := m) hmF
    rw [List.getElem?_map, hx] at hu
    obtain rfl := Option.some.inj hu
    have hadl : ad.block < w.heap.size := Nat.lt_of_lt_of_le hadb HB.out
    replace a0 : w.cell? (ad.add m) = some (.int .i64 (x : Int)) := a0
    have a1 := fun o => (World.cell?_alloc_lt w o (ad.add m) (by rw [block_of_add]; exact hadl)).trans a0
    have HX := Lib.hid hx
    have HM := Lib.hid hm
    have e29 := fun w => eql29 w 9 a b n t 9 (m : Int) 0 0 []
    clear hx hu hF hmF a0
    by_cases hp : (⟨9, a, b, n, t⟩ : Part) = ⟨9, (m : Int), 0, 0, []⟩
    · have HP := Lib.hid hp
      replace e29 : ∀ w, (binOp .eql 29 (.agg #[.int .i64 9, .int .i64 a, .int .i64 b, .int .i64 n, strV t]) (.agg #[.int .i64 9, .int .i64 (m : Int), .int .i64 0, .int .i64 0, .string ⟨#[]⟩])).run Tryd.prog w = .ok (.bool true) w := fun w => (e29 w).trans (by rw [decide_eq_true hp])
      clear hp hm
      go_enter Tryd.func28, Tryd.ntmps28
      go_wp2_with fail
      go_quiet (fail)
      go_wp2_with fail
      go_ret2
      exact BegEnd.yes (by rw [HBg.out, if_pos ⟨by have := HM.out; omega, by rw [HP.out, hlm]⟩, HM.out]; exact HX.out) (below_drewN (below_new w _) _)
    · have HP := Lib.hid hp
      replace e29 : ∀ w, (binOp .eql 29 (.agg #[.int .i64 9, .int .i64 a, .int .i64 b, .int .i64 n, strV t]) (.agg #[.int .i64 9, .int .i64 (m : Int), .int .i64 0, .int .i64 0, .string ⟨#[]⟩])).run Tryd.prog w = .ok (.bool false) w := fun w => (e29 w).trans (by rw [decide_eq_false hp])
      clear hp hm
      go_enter Tryd.func28, Tryd.ntmps28
      go_wp2_with fail
      go_quiet (fail)
      go_wp2_with fail
      go_ret2
      exact BegEnd.no x (by rw [HBg.out, if_neg (fun h => HP.out (by rw [h.2, hlm]))]) (below_drewN (below_new w _) _)
set_option maxRecDepth 100000 in
set_option maxHeartbeats 4000000 in
theorem c28k6 (a b n : Int) (t : List UInt8) (F : List Nat) (A : Option Addr) (c B : Nat) (w : World) (hF0 : ∀ i b : Nat, F[i]? = some b → b ≤ i) (hr : Reads w B 1 A F.length (F.map natV)) (hB : B ≤ w.heap.size) (hl : F.length ≤ 1000) :
    Calls Tryd.prog 28 #[.agg #[.int .i64 6, .int .i64 a, .int .i64 b, .int .i64 n, strV t], .slice A F.length c] w (BegEnd ⟨6, a, b, n, t⟩ F w) := by
  have HR := Lib.hid hr
  have HB := Lib.hid hB
  have HFl := Lib.hid hF0
  clear hr hB hF0
  have hb : beg ⟨6, a, b, n, t⟩ F = if 2 ≤ F.length ∧ 1 ≤ F.getD (F.length - 1) 0 ∧ (⟨6, a, b, n, t⟩ : Part) = ⟨6, (F.getD (F.length - 1) 0 : Int) - 1, (F.length : Int) - 1, 0, []⟩ then F[F.getD (F.length - 1) 0 - 1]? else none := by unfold beg; rw [if_neg (by simp), if_neg (by simp), if_neg (by simp), if_neg (by simp), if_pos (by simp)]
  have HBg := Lib.hid hb
  clear hb
  by_cases hF : F.length < 2
  · have hl0 : (F.length : Int) < 2 := by omega
    have HF := Lib.hid hF
    clear hF
    go_enter Tryd.func28, Tryd.ntmps28
    go_wp2_with fail
    go_ret2
    exact BegEnd.no 0 (by rw [HBg.out, if_neg (fun h => by have := HF.out; omega)]) (below_new w _)
  · obtain ⟨m, hm⟩ : ∃ m, F.length = m + 2 := ⟨F.length - 2, by omega⟩
    have hl0 : ¬ ((F.length : Int) < 2) := by omega
    have hlm : (F.length : Int) - 1 = ((m + 1 : Nat) : Int) := by omega
    have hm1 : ((m + 1 : Nat) : Int) < (F.length : Int) := by omega
    have hm0 : (0 : Int) ≤ ((m + 1 : Nat) : Int) := by omega
    generalize hq : m + 1 = q at hlm hm1 hm0
    have hmF : q < F.length := by omega
    obtain ⟨x, hx⟩ : ∃ x, F[q]? = some x := ⟨_, List.getElem?_eq_getElem hmF⟩
    have hxq := HFl.out q x hx
    have hgd : F.getD (F.length - 1) 0 = x := by rw [show F.length - 1 = q by omega, List.getD_eq_getElem?_getD, hx]; rfl
    rw [hgd] at HBg
    obtain ⟨ad, u, rfl, hadb, hu, a0⟩ := HR.out.at_ (k := q) hmF
    rw [List.getElem?_map, hx] at hu
    obtain rfl := Option.some.inj hu
    have hadl : ad.block < w.heap.size := Nat.lt_of_lt_of_le hadb HB.out
    replace a0 : w.cell? (ad.add q) = some (.int .i64 (x : Int)) := a0
    have a1 := fun o => (World.cell?_alloc_lt w o (ad.add q) (by rw [block_of_add]; exact hadl)).trans a0
    clear hx hu hF a0 hgd
    cases x with
    | zero =>
      clear hm hq hmF hxq
      go_enter Tryd.func28, Tryd.ntmps28
      go_wp2_with fail
      go_ret2
      exact BegEnd.no 0 (by rw [HBg.out, if_neg (fun h => by have := h.2.1; omega)]) (below_new w _)
    | succ f =>
      have hfF : f < F.length := by omega
      obtain ⟨y, hy⟩ : ∃ y, F[f]? = some y := ⟨_, List.getElem?_eq_getElem hfF⟩
      obtain ⟨ad', u, hade, _, hu, b0⟩ := HR.out.at_ (k := f) hfF
      obtain rfl : ad = ad' := by injection hade
      rw [List.getElem?_map, hy] at hu
      obtain rfl := Option.some.inj hu
      replace b0 : w.cell? (ad.add f) = some (.int .i64 (y : Int)) := b0
      have b1 := fun o => (World.cell?_alloc_lt w o (ad.add f) (by rw [block_of_add]; exact hadl)).trans b0
      have hf1 : (f : Int) < (F.length : Int) := by omega
      have hf0 : (0 : Int) ≤ (f : Int) := by omega
      have hx1 : ¬ (((f + 1 : Nat) : Int) < 1) := by omega
      have hx2 : ((f + 1 : Nat) : Int) - 1 = (f : Int) := by omega
      have e29 := fun w => eql29 w 6 a b n t 6 (f : Int) (q : Int) 0 []
      have HY := Lib.hid hy
      have HM := Lib.hid hm
      generalize hz : f + 1 = z at a1 hx1 hx2 hxq HBg
      have HZ := Lib.hid hz
      clear hy hu hade b0 hfF hmF hxq hz
      by_cases hp : (⟨6, a, b, n, t⟩ : Part) = ⟨6, (f : Int), (q : Int), 0, []⟩
      · have HP := Lib.hid hp
        replace e29 : ∀ w, (binOp .eql 29 (.agg #[.int .i64 6, .int .i64 a, .int .i64 b, .int .i64 n, strV t]) (.agg #[.int .i64 6, .int .i64 (f : Int), .int .i64 (q : Int), .int .i64 0, .string ⟨#[]⟩])).run Tryd.prog w = .ok (.bool true) w := fun w => (e29 w).trans (by rw [decide_eq_true hp])
        have HX2 := Lib.hid hx2
        have HLM := Lib.hid hlm
        clear hp hm hq
        go_enter Tryd.func28, Tryd.ntmps28
        go_wp2_with fail
        go_quiet (fail)
        go_wp2_with fail
        go_ret2
        exact BegEnd.yes (by rw [HBg.out, if_pos ⟨by have := HM.out; omega, by have := HZ.out; omega, by rw [HP.out, HX2.out, HLM.out]⟩, show z - 1 = f by have := HZ.out; omega]; exact HY.out) (below_drewN (below_new w _) _)
      · have HP := Lib.hid hp
        replace e29 : ∀ w, (binOp .eql 29 (.agg #[.int .i64 6, .int .i64 a, .int .i64 b, .int .i64 n, strV t]) (.agg #[.int .i64 6, .int .i64 (f : Int), .int .i64 (q : Int), .int .i64 0, .string ⟨#[]⟩])).run Tryd.prog w = .ok (.bool false) w := fun w => (e29 w).trans (by rw [decide_eq_false hp])
        have HX2 := Lib.hid hx2
        have HLM := Lib.hid hlm
        clear hp hm hq
        go_enter Tryd.func28, Tryd.ntmps28
        go_wp2_with fail
        go_quiet (fail)
        go_wp2_with fail
        go_ret2
        exact BegEnd.no y (by rw [HBg.out, if_neg (fun h => HP.out (by rw [h.2.2, HX2.out, HLM.out]))]) (below_drewN (below_new w _) _)
set_option maxRecDepth 100000 in
set_option maxHeartbeats 4000000 in
theorem c28k8 (a b n : Int) (t : List UInt8) (F : List Nat) (A : Option Addr) (c B : Nat) (w : World) (hF0 : ∀ i b : Nat, F[i]? = some b → b ≤ i) (hr : Reads w B 1 A F.length (F.map natV)) (hB : B ≤ w.heap.size) (hl : F.length ≤ 1000) :
    Calls Tryd.prog 28 #[.agg #[.int .i64 8, .int .i64 a, .int .i64 b, .int .i64 n, strV t], .slice A F.length c] w (BegEnd ⟨8, a, b, n, t⟩ F w) := by
  have HR := Lib.hid hr
  have HB := Lib.hid hB
  have HFl := Lib.hid hF0
  clear hr hB hF0
  have hb : beg ⟨8, a, b, n, t⟩ F = if 2 ≤ F.length ∧ 1 ≤ F.getD (F.length - 1) 0 ∧ (⟨8, a, b, n, t⟩ : Part) = ⟨8, (F.getD (F.length - 1) 0 : Int) - 1, (F.length : Int) - 1, 0, []⟩ then F[F.getD (F.length - 1) 0 - 1]? else none := by unfold beg; rw [if_neg (by simp), if_neg (by simp), if_neg (by simp), if_neg (by simp), if_pos (by simp)]
  have HBg := Lib.hid hb
  clear hb
  by_cases hF : F.length < 2
  · have hl0 : (F.length : Int) < 2 := by omega
    have HF := Lib.hid hF
    clear hF
    go_enter Tryd.func28, Tryd.ntmps28
    go_wp2_with fail
    go_ret2
    exact BegEnd.no 0 (by rw [HBg.out, if_neg (fun h => by have := HF.out; omega)]) (below_new w _)
  · obtain ⟨m, hm⟩ : ∃ m, F.length = m + 2 := ⟨F.length - 2, by omega⟩
    have hl0 : ¬ ((F.length : Int) < 2) := by omega
    have hlm : (F.length : Int) - 1 = ((m + 1 : Nat) : Int) := by omega
    have hm1 : ((m + 1 : Nat) : Int) < (F.length : Int) := by omega
    have hm0 : (0 : Int) ≤ ((m + 1 : Nat) : Int) := by omega
    generalize hq : m + 1 = q at hlm hm1 hm0
    have hmF : q < F.length := by omega
    obtain ⟨x, hx⟩ : ∃ x, F[q]? = some x := ⟨_, List.getElem?_eq_getElem hmF⟩
    have hxq := HFl.out q x hx
    have hgd : F.getD (F.length - 1) 0 = x := by rw [show F.length - 1 = q by omega, List.getD_eq_getElem?_getD, hx]; rfl
    rw [hgd] at HBg
    obtain ⟨ad, u, rfl, hadb, hu, a0⟩ := HR.out.at_ (k := q) hmF
    rw [List.getElem?_map, hx] at hu
    obtain rfl := Option.some.inj hu
    have hadl : ad.block < w.heap.size := Nat.lt_of_lt_of_le hadb HB.out
    replace a0 : w.cell? (ad.add q) = some (.int .i64 (x : Int)) := a0
    have a1 := fun o => (World.cell?_alloc_lt w o (ad.add q) (by rw [block_of_add]; exact hadl)).trans a0
    clear hx hu hF a0 hgd
    cases x with
    | zero =>
      clear hm hq hmF hxq
      go_enter Tryd.func28, Tryd.ntmps28
      go_wp2_with fail
      go_ret2
      exact BegEnd.no 0 (by rw [HBg.out, if_neg (fun h => by have := h.2.1; omega)]) (below_new w _)
    | succ f =>
      have hfF : f < F.length := by omega
      obtain ⟨y, hy⟩ : ∃ y, F[f]? = some y := ⟨_, List.getElem?_eq_getElem hfF⟩
      obtain ⟨ad', u, hade, _, hu, b0⟩ := HR.out.at_ (k := f) hfF
      obtain rfl : ad = ad' := by injection hade
      rw [List.getElem?_map, hy] at hu
      obtain rfl := Option.some.inj hu
      replace b0 : w.cell? (ad.add f) = some (.int .i64 (y : Int)) := b0
      have b1 := fun o => (World.cell?_alloc_lt w o (ad.add f) (by rw [block_of_add]; exact hadl)).trans b0
      have hf1 : (f : Int) < (F.length : Int) := by omega
      have hf0 : (0 : Int) ≤ (f : Int) := by omega
      have hx1 : ¬ (((f + 1 : Nat) : Int) < 1) := by omega
      have hx2 : ((f + 1 : Nat) : Int) - 1 = (f : Int) := by omega
      have e29 := fun w => eql29 w 8 a b n t 8 (f : Int) (q : Int) 0 []
      have HY := Lib.hid hy
      have HM := Lib.hid hm
      generalize hz : f + 1 = z at a1 hx1 hx2 hxq HBg
      have HZ := Lib.hid hz
      clear hy hu hade b0 hfF hmF hxq hz
      by_cases hp : (⟨8, a, b, n, t⟩ : Part) = ⟨8, (f : Int), (q : Int), 0, []⟩
      · have HP := Lib.hid hp
        replace e29 : ∀ w, (binOp .eql 29 (.agg #[.int .i64 8, .int .i64 a, .int .i64 b, .int .i64 n, strV t]) (.agg #[.int .i64 8, .int .i64 (f : Int), .int .i64 (q : Int), .int .i64 0, .string ⟨#[]⟩])).run Tryd.prog w = .ok (.bool true) w := fun w => (e29 w).trans (by rw [decide_eq_true hp])
        have HX2 := Lib.hid hx2
        have HLM := Lib.hid hlm
        clear hp hm hq
        go_enter Tryd.func28, Tryd.ntmps28
        go_wp2_with fail
        go_quiet (fail)
        go_wp2_with fail
        go_ret2
        exact BegEnd.yes (by rw [HBg.out, if_pos ⟨by have := HM.out; omega, by have := HZ.out; omega, by rw [HP.out, HX2.out, HLM.out]⟩, show z - 1 = f by have := HZ.out; omega]; exact HY.out) (below_drewN (below_new w _) _)
      · have HP := Lib.hid hp
        replace e29 : ∀ w, (binOp .eql 29 (.agg #[.int .i64 8, .int .i64 a, .int .i64 b, .int .i64 n, strV t]) (.agg #[.int .i64 8, .int .i64 (f : Int), .int .i64 (q : Int), .int .i64 0, .string ⟨#[]⟩])).run Tryd.prog w = .ok (.bool false) w := fun w => (e29 w).trans (by rw [decide_eq_false hp])
        have HX2 := Lib.hid hx2
        have HLM := Lib.hid hlm
        clear hp hm hq
        go_enter Tryd.func28, Tryd.ntmps28
        go_wp2_with fail
        go_quiet (fail)
        go_wp2_with fail
        go_ret2
        exact BegEnd.no y (by rw [HBg.out, if_neg (fun h => HP.out (by rw [h.2.2, HX2.out, HLM.out]))]) (below_drewN (below_new w _) _)
set_option maxRecDepth 100000 in
set_option maxHeartbeats 4000000 in
theorem c28k0 (k a b n : Int) (t : List UInt8) (F : List Nat) (A : Option Addr) (c B : Nat) (w : World) (hk : ¬ (1 ≤ k ∧ k ≤ 11)) (hr : Reads w B 1 A F.length (F.map natV)) (hB : B ≤ w.heap.size) (hl : F.length ≤ 1000) :
    Calls Tryd.prog 28 #[.agg #[.int .i64 k, .int .i64 a, .int .i64 b, .int .i64 n, strV t], .slice A F.length c] w (BegEnd ⟨k, a, b, n, t⟩ F w) := by
  have HR := Lib.hid hr
  have HB := Lib.hid hB
  clear hr hB
  have f1 : (k == 1) = false := beq_false_of_ne fun e => hk (by subst e; simp)
  have f2 : (k == 2) = false := beq_false_of_ne fun e => hk (by subst e; simp)
  have f3 : (k == 3) = false := beq_false_of_ne fun e => hk (by subst e; simp)
  have f4 : (k == 4) = false := beq_false_of_ne fun e => hk (by subst e; simp)
  have f5 : (k == 5) = false := beq_false_of_ne fun e => hk (by subst e; simp)
  have f6 : (k == 6) = false := beq_false_of_ne fun e => hk (by subst e; simp)
  have f7 : (k == 7) = false := beq_false_of_ne fun e => hk (by subst e; simp)
  have f8 : (k == 8) = false := beq_false_of_ne fun e => hk (by subst e; simp)
  have f9 : (k == 9) = false := beq_false_of_ne fun e => hk (by subst e; simp)
  have f10 : (k == 10) = false := beq_false_of_ne fun e => hk (by subst e; simp)
  have f11 : (k == 11) = false := beq_false_of_ne fun e => hk (by subst e; simp)
  have hb : beg ⟨k, a, b, n, t⟩ F = none := by
    unfold beg
    have hk1 : ¬ (1 ≤ k ∧ k ≤ 5) := fun h => hk (by omega)
    have hk2 : ¬ (k = 10) := fun h => hk (by omega)
    have hk3 : ¬ (k = 11) := fun h => hk (by omega)
    have hk4 : ¬ (k = 7 ∨ k = 9) := fun h => hk (by omega)
    have hk5 : ¬ (k = 6 ∨ k = 8) := fun h => hk (by omega)
    rw [if_neg hk1, if_neg hk2, if_neg hk3, if_neg hk4, if_neg hk5]
  have HBg := Lib.hid hb
  clear hb hk
  go_enter Tryd.func28, Tryd.ntmps28
  go_wp2_with fail
  go_ret2
  exact BegEnd.no 0 HBg.out (below_new w _)
theorem c28 (p : Part) (F : List Nat) (A : Option Addr) (c B : Nat) (w : World) (hF0 : ∀ i b : Nat, F[i]? = some b → b ≤ i) (hr : Reads w B 1 A F.length (F.map natV)) (hB : B ≤ w.heap.size) (hl : F.length ≤ 1000) :
    Calls Tryd.prog 28 #[.agg #[.int .i64 p.k, .int .i64 p.a, .int .i64 p.b, .int .i64 p.n, strV p.t], .slice A F.length c] w (BegEnd p F w) := by
  obtain ⟨k, a, b, n, t⟩ := p
  show Calls Tryd.prog 28 #[.agg #[.int .i64 k, .int .i64 a, .int .i64 b, .int .i64 n, strV t], .slice A F.length c] w (BegEnd ⟨k, a, b, n, t⟩ F w)
  by_cases hk : 1 ≤ k ∧ k ≤ 11
  · have hk' : k = 1 ∨ k = 2 ∨ k = 3 ∨ k = 4 ∨ k = 5 ∨ k = 6 ∨ k = 7 ∨ k = 8 ∨ k = 9 ∨ k = 10 ∨ k = 11 := by omega
    rcases hk' with rfl | rfl | rfl | rfl | rfl | rfl | rfl | rfl | rfl | rfl | rfl
    · exact c28k1 a b n t F A c B w hr hB hl
    · exact c28k2 a b n t F A c B w hr hB hl
    · exact c28k3 a b n t F A c B w hr hB hl
    · exact c28k4 a b n t F A c B w hr hB hl
    · exact c28k5 a b n t F A c B w hr hB hl
    · exact c28k6 a b n t F A c B w hF0 hr hB hl
    · exact c28k7 a b n t F A c B w hr hB hl
    · exact c28k8 a b n t F A c B w hF0 hr hB hl
    · exact c28k9 a b n t F A c B w hr hB hl
    · exact c28k10 a b n t F A c B w hr hB hl
    · exact c28k11 a b n t F A c B w hr hB hl
  · exact c28k0 k a b n t F A c B w hk hr hB hl
end Go.Proofs.YtcilodgpbdafeaaDoor
