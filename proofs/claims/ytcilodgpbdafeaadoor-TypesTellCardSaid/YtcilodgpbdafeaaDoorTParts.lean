/- (*Term).parts: a node's parts, as they are by now. -/
import Derived.Test.YtcilodgpbdafeaaDoorTrm
import Derived.Deep.RegionHeld3
namespace Go.Proofs.YtcilodgpbdafeaaDoor
open Go.ChangeShapes Go.WideShapes Go.ChangeAt Go.RowKit
set_option linter.unusedVariables false
set_option linter.unusedSimpArgs false
theorem step_callw {ops : Array Oper} {o : Oper} {a : Act} {w : World} {K : Act → World → Prop} {Q : Exit → Act → World → Prop} {E : Prop} (hw : Region.wanted o (yielded ops a.tmps) = true) (f : Nat) (xs : Array Operand) (ts : Array TypeId)
    (ho : o.op = .call { callee := .value (.func f), args := xs, argTypes := ts }) (fn : Func) (hf : Tryd.prog.funcs[f]? = some fn) (hname : (fn.name == "runtime.NumGoroutine") = false) (hb : fn.body.isNone = false) (vs : Array Value) (hv0 : xs.toList.map a.eval = vs.toList) {R : Ending → World → Prop} (hc : Calls Tryd.prog f vs w R) (h : ∀ e w', R e w' → ∃ v, e = .returned v ∧ K (a.put o.dst v) w') :
    if Region.wanted o (yielded ops a.tmps) = true then Oper.wp Tryd.prog o a w K Q else E := by
  rw [if_pos hw]
  have hv : xs.map a.eval = vs := Array.toList_inj.1 (by rw [Array.toList_map]; exact hv0)
  have h1 : ¬ fn.name = "runtime.NumGoroutine" := by simpa using hname
  have h2 : ¬ fn.body = none := by cases hx : fn.body <;> simp_all
  have hrun : (execOp a.eval o).run Tryd.prog w = .ok (.enter f vs) w := by
    unfold execOp
    simp [ho, resolve, Deferred.ofValue, invoke, callFunc, hf, h1, h2, Act.eval, hv]
  unfold Oper.wp
  rw [hrun]
  exact hc.mono fun e w' hr => by
    obtain ⟨v, rfl, hk⟩ := h e w' hr
    exact hk
/-- A root's parts, as they are by now. -/
def Parts (N : Nat → Option Nd) (r : Nat) (l : List Nat) : Prop := ∃ nd, N r = some nd ∧ nd.to = none ∧ ((nd.a = none ∧ l = []) ∨ (∃ h rh m, nd.a = some h ∧ nd.b = none ∧ Rep N h rh m ∧ l = [rh]) ∨ (∃ h i rh ri m m', nd.a = some h ∧ nd.b = some i ∧ Rep N h rh m ∧ Rep N i ri m' ∧ l = [rh, ri]))
theorem reads_ptr1 {w : World} {t : TypeId} {x : Value} {b : Nat} (h : Blk w b t #[x]) : Reads w (b + 1) 1 (some ⟨b, 0, none⟩) 1 [x] := reads_blkN (vs := [x]) h rfl
theorem reads_ptr2 {w : World} {t : TypeId} {x y : Value} {b : Nat} (h : Blk w b t #[x, y]) : Reads w (b + 1) 1 (some ⟨b, 0, none⟩) 2 [x, y] := reads_blkN (vs := [x, y]) h rfl
set_option maxRecDepth 100000 in
set_option maxHeartbeats 2000000 in
theorem c43 {N : Nat → Option Nd} {g r n : Nat} {l : List Nat} (h : Rep N g r n) (hl : Parts N r l) (W : World) (hN : TMem W N) : Calls Tryd.prog 43 #[ptr g] W fun e W' => ∃ A, e = .returned (.slice A l.length l.length) ∧ Reads W' W'.heap.size 1 A l.length (l.map ptr) ∧ Below W.heap.size W W' ∧ ∀ ad, A = some ad → W.heap.size ≤ ad.block := by
  have HN := Lib.hid hN
  have HR := Lib.hid h
  clear hN h
  go_enter Tryd.func43, Tryd.ntmps43
  go_wp2_with fail
  refine (c41 HR.out W HN.out).mono ?_
  rintro e _ ⟨rfl, rfl⟩
  obtain ⟨nd, e1, e2, hl⟩ := hl
  have c2 : W.cell? ⟨r, 2, none⟩ = some (optP nd.a) := (HN.out _ _ e1).cell 2
  have c3 : W.cell? ⟨r, 3, none⟩ = some (optP nd.b) := (HN.out _ _ e1).cell 3
  have hlt := (HN.out _ _ e1).lt
  rcases hl with ⟨ha, rfl⟩ | ⟨h, rh, m, ha, hb, hr, rfl⟩ | ⟨h, i, rh, ri, m, m', ha, hb, hr1, hr2, rfl⟩
  · rw [ha] at c2
    replace c2 : W.cell? ⟨r, 2, none⟩ = some (.pointer none) := c2
    clear c3
    go_wp2_with fail
    go_ret
    exact ⟨none, rfl, Reads.none_, Below.refl _ _, fun ad h => by cases h⟩
  · rw [ha] at c2
    rw [hb] at c3
    replace c2 : W.cell? ⟨r, 2, none⟩ = some (ptr h) := c2
    replace c3 : W.cell? ⟨r, 3, none⟩ = some (.pointer none) := c3
    have HR1 := Lib.hid hr
    clear hr
    go_wp2_with fail
    refine (c41 HR1.out W HN.out).mono ?_
    rintro e _ ⟨rfl, rfl⟩
    go_wp2_with fail
    go_ret
    refine ⟨_, rfl, ?_, below_new _ _, fun ad h => by injection h with h; rw [← h]; exact Nat.le_refl _⟩
    rw [World.size_alloc]
    exact reads_ptr1 (Blk.new W 51 #[ptr rh])
  · rw [ha] at c2
    rw [hb] at c3
    replace c2 : W.cell? ⟨r, 2, none⟩ = some (ptr h) := c2
    replace c3 : W.cell? ⟨r, 3, none⟩ = some (ptr i) := c3
    have HR1 := Lib.hid hr1
    have HR2 := Lib.hid hr2
    clear hr1 hr2
    go_wp2_with fail
    have DL := Lib.hid (show r < W.drew.heap.size from hlt)
    have DN := Lib.hid (show TMem W.drew N from HN.out)
    have DC := Lib.hid (show W.drew.cell? ⟨r, 2, none⟩ = some (ptr h) ∧ W.drew.cell? ⟨r, 3, none⟩ = some (ptr i) from ⟨c2, c3⟩)
    have DB := Lib.hid ((Below.refl W.heap.size W).drew)
    refine wp_region_held_drew (S := fun V => V.cell? ⟨r, 2, none⟩ = some (ptr h) ∧ V.cell? ⟨r, 3, none⟩ = some (ptr i)) (by kernel_rfl) DC.out (fun hHeld => ?_)
    generalize W.drew = d at DL DN DC DB hHeld ⊢
    refine wpAnyH_take (i := 0) (oi := ⟨some 23, _, _, _, _, _⟩) (v := ?_) rfl (by kernel_rfl) (by kernel_rfl) (by kernel_rfl) (fun _ _ _ h => h) (Or.inl ⟨by kernel_rfl, ?_⟩) (by assumption) ?_
    rotate_left
    · intro w hSw
      go_simp
      try with_reducible rfl
    try simp only [Act.put, List.setIfInBounds_toArray, List.set_cons_zero, List.set_cons_succ]
    refine wpAnyH_take (i := 5) (oi := ⟨some 28, _, _, _, _, _⟩) (v := ?_) rfl (by kernel_rfl) (by kernel_rfl) (by kernel_rfl) (fun _ _ _ h => h) (Or.inl ⟨by kernel_rfl, ?_⟩) (by assumption) ?_
    rotate_left
    · intro w hSw
      go_simp
      try with_reducible rfl
    try simp only [Act.put, List.setIfInBounds_toArray, List.set_cons_zero, List.set_cons_succ]
    refine wpAnyH_take (i := 1) (oi := ⟨some 24, _, _, _, _, _⟩) (v := ?_) rfl (by kernel_rfl) (by kernel_rfl) (by kernel_rfl) (fun _ _ _ h => h) (Or.inl ⟨by kernel_rfl, ?_⟩) (by assumption) ?_
    rotate_left
    · intro w hSw
      go_simp
      try with_reducible rfl
    try simp only [Act.put, List.setIfInBounds_toArray, List.set_cons_zero, List.set_cons_succ]
    refine wpAnyH_take (i := 6) (oi := ⟨some 29, _, _, _, _, _⟩) (v := ?_) rfl (by kernel_rfl) (by kernel_rfl) (by kernel_rfl) (fun _ _ _ h => h) (Or.inl ⟨by kernel_rfl, ?_⟩) (by assumption) ?_
    rotate_left
    · intro w hSw
      go_simp
      try with_reducible rfl
    try simp only [Act.put, List.setIfInBounds_toArray, List.set_cons_zero, List.set_cons_succ]
    refine wpAnyH_take (i := 2) (oi := ⟨some 25, _, _, _, _, _⟩) (v := ?_) rfl (by kernel_rfl) (by kernel_rfl) (by kernel_rfl) (fun _ _ _ h => h) (Or.inl ⟨by kernel_rfl, ?_⟩) (by assumption) ?_
    rotate_left
    · intro w hSw
      go_simp
      try with_reducible rfl
    try simp only [Act.put, List.setIfInBounds_toArray, List.set_cons_zero, List.set_cons_succ]
    refine wpAnyH_take (i := 7) (oi := ⟨some 30, _, _, _, _, _⟩) (v := ?_) rfl (by kernel_rfl) (by kernel_rfl) (by kernel_rfl) (fun _ _ _ h => h) (Or.inl ⟨by kernel_rfl, ?_⟩) (by assumption) ?_
    rotate_left
    · intro w hSw
      go_simp
      try with_reducible rfl
    try simp only [Act.put, List.setIfInBounds_toArray, List.set_cons_zero, List.set_cons_succ]
    refine wpAnyH_take (i := 3) (oi := ⟨some 26, _, _, _, _, _⟩) (v := ?_) rfl (by kernel_rfl) (by kernel_rfl) (by kernel_rfl) (fun _ _ _ h => h) (Or.inl ⟨by kernel_rfl, ?_⟩) (by assumption) ?_
    rotate_left
    · intro w hSw
      go_simp
      try with_reducible rfl
    try simp only [Act.put, List.setIfInBounds_toArray, List.set_cons_zero, List.set_cons_succ]
    refine wpAnyH_take (i := 8) (oi := ⟨some 31, _, _, _, _, _⟩) (v := ?_) rfl (by kernel_rfl) (by kernel_rfl) (by kernel_rfl) (fun _ _ _ h => h) (Or.inl ⟨by kernel_rfl, ?_⟩) (by assumption) ?_
    rotate_left
    · intro w hSw
      go_simp
      try with_reducible rfl
    try simp only [Act.put, List.setIfInBounds_toArray, List.set_cons_zero, List.set_cons_succ]
    refine wpAnyH_ready (rs := [4]) (by kernel_rfl) (by simp) ?_
    refine AllReadyH.cons (o := ⟨some 27, _, _, _, _, _⟩) rfl (fun K hK => ?_) AllReadyH.nil
    refine step_callw (by kernel_rfl) 41 #[.tmp 26] #[51] (by rfl) Tryd.f41 Tryd.func41 (by kernel_rfl) (by kernel_rfl) #[ptr h] (by rfl) (c41 HR1.out d DN.out) ?_
    rintro e _ ⟨rfl, rfl⟩
    refine ⟨_, rfl, ?_⟩
    refine hK.out _ _ ?_ (fun hHeld => ?_)
    · exact DC.out
    clear hK K
    try simp only [Act.put, List.setIfInBounds_toArray, List.set_cons_zero, List.set_cons_succ]
    refine wpAnyH_ready (rs := [9]) (by kernel_rfl) (by simp) ?_
    refine AllReadyH.cons (o := ⟨some 32, _, _, _, _, _⟩) rfl (fun K hK => ?_) AllReadyH.nil
    refine step_callw (by kernel_rfl) 41 #[.tmp 31] #[51] (by rfl) Tryd.f41 Tryd.func41 (by kernel_rfl) (by kernel_rfl) #[ptr i] (by rfl) (c41 HR2.out d DN.out) ?_
    rintro e _ ⟨rfl, rfl⟩
    refine ⟨_, rfl, ?_⟩
    refine hK.out _ _ ?_ (fun hHeld => ?_)
    · exact DC.out
    clear hK K
    try simp only [Act.put, List.setIfInBounds_toArray, List.set_cons_zero, List.set_cons_succ]
    refine wpAnyH_ready (rs := [10]) (by kernel_rfl) (by simp) ?_
    refine AllReadyH.cons (o := ⟨some 33, _, _, _, _, _⟩) rfl (fun K hK => ?_) AllReadyH.nil
    go_simp
    refine hK.out _ _ ?_ (fun hHeld => ?_)
    · exact ⟨by rw [allocb _ _ _ _ DL.out]; exact DC.out.1, by rw [allocb _ _ _ _ DL.out]; exact DC.out.2⟩
    clear hK K
    try simp only [Act.put, List.setIfInBounds_toArray, List.set_cons_zero, List.set_cons_succ]
    refine wpAnyH_take (i := 11) (oi := ⟨some 2, _, _, _, _, _⟩) (v := ?_) rfl (by kernel_rfl) (by kernel_rfl) (by kernel_rfl) (fun _ _ _ h => h) (Or.inl ⟨by kernel_rfl, ?_⟩) (by assumption) ?_
    rotate_left
    · intro w hSw
      go_simp
      try with_reducible rfl
    try simp only [Act.put, List.setIfInBounds_toArray, List.set_cons_zero, List.set_cons_succ]
    refine wpAnyH_done (by kernel_rfl) ?_ _
    go_wp2_with fail
    go_ret
    refine ⟨_, rfl, ?_, DB.out.alloc DB.out.size _, fun ad h => by injection h with h; rw [← h]; exact DB.out.size⟩
    rw [World.size_alloc]
    exact reads_ptr2 (Blk.new d 51 #[ptr rh, ptr ri])
end Go.Proofs.YtcilodgpbdafeaaDoor
