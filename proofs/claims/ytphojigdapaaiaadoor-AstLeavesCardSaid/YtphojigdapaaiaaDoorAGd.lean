/- ast.Good. -/
import Derived.Test.YtphojigdapaaiaaDoorANo
import Derived.Laws.MakeOwn
namespace Go.Proofs.YtphojigdapaaiaaDoor
open Go.ChangeShapes Go.WideShapes Go.ChangeAt Go.RowKit
set_option linter.unusedVariables false
set_option linter.unusedSimpArgs false
/-- The counts behind k nodes. -/
def psAll (t : Tre) : Nat → List Int
  | 0 => List.replicate t.l.length 0
  | k + 1 => match t.l[k]? with | some x => psK (ofL x).1 x k (psAll t k) 3 | none => psAll t k
theorem psK_len (r : RowA) (x : Nod) (me : Nat) (ps : List Int) (k : Nat) : (psK r x me ps k).length = ps.length := by
  unfold psK
  split <;> simp only [bumpL_len]
theorem psAll_len (t : Tre) (k : Nat) : (psAll t k).length = t.l.length := by
  induction k with
  | zero => simp [psAll]
  | succ k ih =>
    unfold psAll
    split
    · rw [psK_len, ih]
    · exact ih
/-- k nodes may be, by their children. -/
def NodesOk (t : Tre) (k : Nat) : Prop := ∀ i, i < k → ∀ x, t.l[i]? = some x → (ofL x).2 = true ∧ okK t (ofL x).1 x i 3
def prevY (t : Tre) : Nat → Int
  | 0 => -1
  | j + 1 => t.y.getD j 0
/-- j datatypes are told one behind the other. -/
def TyOk (t : Tre) (j : Nat) : Prop := ∀ i, i < j → ∀ k, t.y[i]? = some k → prevY t i < k ∧ k < t.l.length ∧ ∃ x, t.l[k.toNat]? = some x ∧ x.k = 42
def psY (ps : List Int) (ys : List Int) : List Int := ys.foldl (fun p k => p.modify k.toNat bump) ps
theorem psY_len (ys : List Int) : ∀ ps, (psY ps ys).length = ps.length := by
  induction ys with
  | nil => intro ps; rfl
  | cons y ys ih => intro ps; show (psY _ ys).length = _; rw [ih, List.length_modify]
theorem psY_snoc (ps ys : List Int) (k : Int) : psY ps (ys ++ [k]) = (psY ps ys).modify k.toNat bump := by unfold psY; rw [List.foldl_append]; rfl
/-- All counts, at the end. -/
def psEnd (t : Tre) : List Int := (psY (psAll t t.l.length) t.y).modify t.r.toNat bump
/-- What a tree must be. -/
structure GoodN (t : Tre) : Prop where
  n1 : 1 ≤ t.l.length
  n2 : t.l.length ≤ 500
  root : t.r = (t.l.length : Int) - 1
  nodes : NodesOk t t.l.length
  types : TyOk t t.y.length
  ones : ∀ v ∈ psEnd t, v = 1
  is_ : ∀ x, t.l[t.l.length - 1]? = some x → (rowsL.getD x.k.toNat zeroR).is_ = 101
def SureAll (t : Tre) : Prop := ∀ x ∈ t.l, Sure x (ofL x).1
theorem of_in {x : Nod} (h : (ofL x).2 = true) : 1 ≤ x.k ∧ x.k < 44 := by
  unfold ofL at h
  split at h
  case isTrue h1 => exact h1
  case isFalse => cases h
def GoodEnd (t : Tre) (w : World) (e : Ending) (w' : World) : Prop := ∃ b, e = .returned (.bool b) ∧ Below w.heap.size w w' ∧ (b = true → GoodN t) ∧ (GoodN t → SureAll t → b = true)
theorem GoodEnd.no {t : Tre} {w w' : World} (hb : Below w.heap.size w w') (h : GoodN t → SureAll t → False) : GoodEnd t w (.returned (.bool false)) w' := ⟨false, rfl, hb, fun h => absurd h (by decide), fun a b => (h a b).elim⟩
theorem made_ints (n : Nat) : madeCells #[.int .i64 0] (n * 1) = ((List.replicate n (0 : Int)).map intV).toArray := by
  apply Array.ext
  · simp [madeCells]
  · intro i h1 h2
    simp [madeCells, intV, Nat.mod_one]
theorem run_ints (n : Nat) (hn : n ≤ 3000) (w : World) : (Instr.makeSlice 23 (.int .i64 (n : Int)) (.int .i64 (n : Int))).run Tryd.prog w = .ok (.slice (some ⟨w.heap.size, 0, none⟩) n n) (w.alloc (.cells ((List.replicate n (0 : Int)).map intV).toArray 3)) := by
  obtain ⟨i3, fi3, iz0, iz1, iz2⟩ := info_parts int_info
  have h := run_make (P := Tryd.prog) w 23 3 i3 _ Tryd.underlying23 fi3 iz0 .i64 .i64 n n (by omega) (by omega) (by rw [iz2]; omega) (by omega)
  rw [iz1] at h
  simp only [Int.toNat_natCast] at h
  rw [h, ← made_ints]
  rfl
set_option maxRecDepth 100000 in
set_option maxHeartbeats 8000000 in
theorem c10 (t : Tre) (A A' : Option Addr) (c c' : Nat) (w : World) (hT : TreIs w A A' t) (hS : Tabs w) (hl : t.l.length ≤ 281474976710656) (hy : t.y.length ≤ 281474976710656) (hx : ∀ p ∈ t.l, p.t.length ≤ 281474976710656 ∧ p.t2.length ≤ 281474976710656) :
    Calls Tryd.prog 10 #[treV A c A' c' t] w (GoodEnd t w) := by
  have hX := Blk.new w 25 #[.slice A t.l.length c, .slice A' t.y.length c', .int .i64 t.r]
  have hb0 := below_new w (.cells #[.slice A t.l.length c, .slice A' t.y.length c', .int .i64 t.r] 25)
  have HT := Lib.hid (hT.next hb0)
  have HS := Lib.hid (hS.next hb0)
  have HB0 := Lib.hid hb0
  have HX := Lib.hid hX
  have HL := Lib.hid hx
  clear hT hS hb0 hX hx
  show Calls Tryd.prog 10 #[.agg #[.slice A t.l.length c, .slice A' t.y.length c', .int .i64 t.r]] w _
  generalize hw0 : w.alloc (.cells #[.slice A t.l.length c, .slice A' t.y.length c', .int .i64 t.r] 25) = w0 at HT HS HB0 HX
  go_enter Tryd.func10, Tryd.ntmps10
  go_upto_region 1 with fail
  clear hw0
  generalize hxb : w.heap.size = xb at HX ⊢
  have HXB := Lib.hid hxb
  clear hxb
  have x0 : w0.cell? ⟨xb, 0, none⟩ = some (.slice A t.l.length c) := HX.out.cell 0
  have x1 : w0.cell? ⟨xb, 1, none⟩ = some (.slice A' t.y.length c') := HX.out.cell 1
  have x2 : w0.cell? ⟨xb, 2, none⟩ = some (.int .i64 t.r) := HX.out.cell 2
  by_cases h1 : t.l.length < 1
  · have h1' : (t.l.length : Int) < 1 := by omega
    have H1 := Lib.hid h1
    clear h1
    go_wp2_with fail
    go_ret
    exact GoodEnd.no HB0.out (fun h _ => by have := h.n1; have := H1.out; omega)
  have h1' : ¬ (t.l.length : Int) < 1 := by omega
  by_cases h2 : 500 < t.l.length
  · have h2' : (500 : Int) < (t.l.length : Int) := by omega
    have H2 := Lib.hid h2
    clear h2
    go_wp2_with fail
    go_ret
    exact GoodEnd.no HB0.out (fun h _ => by have := h.n2; have := H2.out; omega)
  have h2' : ¬ (500 : Int) < (t.l.length : Int) := by omega
  have hsub : wrap64 ((t.l.length : Int) - 1) = (t.l.length : Int) - 1 := by unfold wrap64; omega
  by_cases h3 : t.r = (t.l.length : Int) - 1
  case neg =>
    have h3' : (t.r == (t.l.length : Int) - 1) = false := beq_false_of_ne h3
    have h3'' : (t.r != (t.l.length : Int) - 1) = true := bne_iff_ne.2 h3
    have H3 := Lib.hid h3
    clear h3
    go_wp2_with fail
    go_ret
    exact GoodEnd.no HB0.out (fun h _ => H3.out h.root)
  have HR := Lib.hid h3
  rw [h3] at x2
  clear h3
  go_upto_region 3 with fail
  refine wp_region_held_drew (S := fun V => V.cell? ⟨xb, 0, none⟩ = some (.slice A t.l.length c) ∧ V.cell? ⟨xb, 1, none⟩ = some (.slice A' t.y.length c') ∧ V.cell? ⟨xb, 2, none⟩ = some (.int .i64 ((t.l.length : Int) - 1))) (by kernel_rfl) ⟨x0, x1, x2⟩ (fun hHeld => ?_)
  clear x0 x1 x2
  have Hd0 := Lib.hid (Below.drew (Below.refl w0.heap.size w0))
  have HXd := Lib.hid (HX.out.drew)
  generalize hd : w0.drew = d at Hd0 HXd hHeld ⊢
  have HD := Lib.hid hd
  clear hd
  refine wpAnyH_take (i := 0) (oi := ⟨some 29, _, _, _, _, _⟩) (v := ?_) rfl (by kernel_rfl) (by kernel_rfl) (by kernel_rfl) (fun _ _ _ h => h) (Or.inl ⟨by kernel_rfl, ?_⟩) (by assumption) ?_
  rotate_left
  · intro V hSw
    obtain ⟨z0, z1, z2⟩ := hSw
    go_simp
    try with_reducible rfl
  try simp only [Act.put, List.setIfInBounds_toArray, List.set_cons_zero, List.set_cons_succ]
  refine wpAnyH_take (i := 1) (oi := ⟨some 30, _, _, _, _, _⟩) (v := ?_) rfl (by kernel_rfl) (by kernel_rfl) (by kernel_rfl) (fun _ _ _ h => h) (Or.inl ⟨by kernel_rfl, ?_⟩) (by assumption) ?_
  rotate_left
  · intro V hSw
    obtain ⟨z0, z1, z2⟩ := hSw
    go_simp
    try with_reducible rfl
  try simp only [Act.put, List.setIfInBounds_toArray, List.set_cons_zero, List.set_cons_succ]
  refine wpAnyH_take (i := 2) (oi := ⟨some 31, _, _, _, _, _⟩) (v := ?_) rfl (by kernel_rfl) (by kernel_rfl) (by kernel_rfl) (fun _ _ _ h => h) (Or.inl ⟨by kernel_rfl, ?_⟩) (by assumption) ?_
  rotate_left
  · intro V hSw
    obtain ⟨z0, z1, z2⟩ := hSw
    go_simp
    try with_reducible rfl
  try simp only [Act.put, List.setIfInBounds_toArray, List.set_cons_zero, List.set_cons_succ]
  refine wpAnyH_take (i := 3) (oi := ⟨some 32, _, _, _, _, _⟩) (v := ?_) rfl (by kernel_rfl) (by kernel_rfl) (by kernel_rfl) (fun _ _ _ h => h) (Or.inl ⟨by kernel_rfl, ?_⟩) (by assumption) ?_
  rotate_left
  · intro V hSw
    obtain ⟨z0, z1, z2⟩ := hSw
    go_simp
    try with_reducible rfl
  try simp only [Act.put, List.setIfInBounds_toArray, List.set_cons_zero, List.set_cons_succ]
  have hmk := run_ints t.l.length (by omega) d
  have hB3 := below_new d (.cells ((List.replicate t.l.length (0 : Int)).map intV).toArray 3)
  have HP3 := Lib.hid (Blk.new d 3 ((List.replicate t.l.length (0 : Int)).map intV).toArray)
  have HX3 := Lib.hid (HXd.out.next hB3)
  have HB3 := Lib.hid (Hd0.out.trans (hB3.mono Hd0.out.size))
  clear hB3
  generalize hd3 : d.alloc (.cells ((List.replicate t.l.length (0 : Int)).map intV).toArray 3) = d3 at HP3 HX3 HB3 hmk
  refine wpAnyH_ready (rs := [4]) (by kernel_rfl) (by simp) ?_
  refine AllReadyH.cons (o := ⟨some 33, _, _, _, _, _⟩) rfl (fun K hK => ?_) AllReadyH.nil
  go_simp
  refine hK.out _ _ ?_ (fun hHeld => ?_)
  · exact ⟨HX3.out.cell 0, HX3.out.cell 1, by rw [← HR.out]; exact HX3.out.cell 2⟩
  clear hK K hmk
  try simp only [Act.put, List.setIfInBounds_toArray, List.set_cons_zero, List.set_cons_succ]
  have HPB := Lib.hid (show w0.heap.size ≤ d.heap.size from Hd0.out.size)
  clear hd3
  generalize d.heap.size = pb at HP3 HPB ⊢
  refine wpAnyH_take (i := 5) (oi := ⟨some 34, _, _, _, _, _⟩) (v := ?_) rfl (by kernel_rfl) (by kernel_rfl) (by kernel_rfl) (fun _ _ _ h => h) (Or.inl ⟨by kernel_rfl, ?_⟩) (by assumption) ?_
  rotate_left
  · intro V hSw
    obtain ⟨z0, z1, z2⟩ := hSw
    go_simp
    try with_reducible rfl
  try simp only [Act.put, List.setIfInBounds_toArray, List.set_cons_zero, List.set_cons_succ]
  have hB4 := below_new d3 (.cells #[.slice A t.l.length c, .slice A' t.y.length c', .int .i64 ((t.l.length : Int) - 1), .slice (some ⟨pb, 0, none⟩) t.l.length t.l.length] 56)
  have HG4 := Lib.hid (Blk.new d3 56 #[.slice A t.l.length c, .slice A' t.y.length c', .int .i64 ((t.l.length : Int) - 1), .slice (some ⟨pb, 0, none⟩) t.l.length t.l.length])
  have HX4 := Lib.hid (HX3.out.next hB4)
  have HP4 := Lib.hid (HP3.out.next hB4)
  have HB4 := Lib.hid (next_ HB3.out hB4)
  clear hB4
  generalize hd4 : d3.alloc (.cells #[.slice A t.l.length c, .slice A' t.y.length c', .int .i64 ((t.l.length : Int) - 1), .slice (some ⟨pb, 0, none⟩) t.l.length t.l.length] 56) = d4 at HG4 HX4 HP4 HB4
  refine wpAnyH_ready (rs := [6]) (by kernel_rfl) (by simp) ?_
  refine AllReadyH.cons (o := ⟨some 35, _, _, _, _, _⟩) rfl (fun K hK => ?_) AllReadyH.nil
  go_simp
  refine hK.out _ _ ?_ (fun hHeld => ?_)
  · exact ⟨HX4.out.cell 0, HX4.out.cell 1, by rw [← HR.out]; exact HX4.out.cell 2⟩
  clear hK K hd4
  try simp only [Act.put, List.setIfInBounds_toArray, List.set_cons_zero, List.set_cons_succ]
  generalize d3.heap.size = g at HG4 ⊢
  refine wpAnyH_take (i := 7) (oi := ⟨some 3, _, _, _, _, _⟩) (v := ?_) rfl (by kernel_rfl) (by kernel_rfl) (by kernel_rfl) (fun _ _ _ h => h) (Or.inl ⟨by kernel_rfl, ?_⟩) (by assumption) ?_
  rotate_left
  · intro V hSw
    obtain ⟨z0, z1, z2⟩ := hSw
    go_simp
    try with_reducible rfl
  try simp only [Act.put, List.setIfInBounds_toArray, List.set_cons_zero, List.set_cons_succ]
  refine wpAnyH_done (by kernel_rfl) ?_ _
  have hAK : AskIs w0 d4 g pb A A' c c' t (psAll t 0) := ⟨by rw [psAll_len, HR.out]; exact HG4.out, HP4.out, HPB.out, HB4.out⟩
  have HAK := Lib.hid hAK
  have y0 : d4.cell? ⟨xb, 0, none⟩ = some (.slice A t.l.length c) := HX4.out.cell 0
  clear hAK HG4 HP4 HX4 HB4 HP3 HX3 HB3 HXd Hd0 hHeld HD
  go_wp2_with fail
  clear y0
  go_loopw [39] (fun i wr => ∃ k : Nat, k ≤ t.l.length ∧ i = .int .i64 k ∧ NodesOk t k ∧ AskIs w0 wr g pb A A' c c' t (psAll t k)) (fun i _ => t.l.length - (intOf i).toNat)
  case atStart => exact ⟨0, by omega, rfl, fun i h => absurd h (by omega), HAK.out⟩
  case round =>
    obtain ⟨k, hk, rfl, hok, hA⟩ := hrel
    have HOK := Lib.hid hok
    have HA := Lib.hid hA
    clear hok hA HAK
    by_cases hlt : k < t.l.length
    · have hlk : (k : Int) < (t.l.length : Int) := by omega
      have hk0 : (0 : Int) ≤ (k : Int) := by omega
      have hxk : t.l[k]? = some t.l[k] := List.getElem?_eq_getElem hlt
      have hxm := HL.out _ (List.getElem_mem hlt)
      have hmm : t.l[k] ∈ t.l := List.getElem_mem hlt
      generalize t.l[k] = x at hxk hxm hmm
      have HXK := Lib.hid hxk
      have HMM := Lib.hid hmm
      have HC := Lib.hid (c23 k x wr HA.out HT.out HS.out hxk (by omega) (psAll_len t k) hxm.1 hxm.2)
      clear hxk hxm hmm
      go_wp2_with fail
      refine HC.out.mono ?_
      rintro e w5 ⟨q, ps', rfl, hp, hA5, hG5, hq1, hq2⟩
      have HA5 := Lib.hid hA5
      clear hA5 hG5 HC
      cases q with
      | false =>
        have HQ := Lib.hid hq2
        clear hq1 hq2
        go_wp2_with fail
        go_ret
        exact GoodEnd.no (next_ HB0.out HA5.out.low) (fun h s => by
          have h8 := h.nodes k hlt x HXK.out
          have h9 := HQ.out h8.1 (s x HMM.out) h8.2
          cases h9)
      | true =>
        obtain ⟨q1, q2, q3⟩ := hq1 rfl
        subst q3
        have HQ := Lib.hid (And.intro q1 q2)
        clear hq2 q1 q2 hq1
        go_wp2_with fail
        go_roundw
        case rel => exact ⟨k + 1, by omega, by go_num, fun i hi y hy => by
            by_cases hik : i = k
            · subst hik
              have e9 := HXK.out
              rw [hy] at e9
              obtain rfl := Option.some.inj e9
              exact HQ.out
            · exact HOK.out i (by omega) y hy, by
            have e9 : psAll t (k + 1) = psK (ofL x).1 x k (psAll t k) 3 := by
              show (match t.l[k]? with | some x => psK (ofL x).1 x k (psAll t k) 3 | none => psAll t k) = _
              rw [HXK.out]
            rw [e9]
            exact HA5.out⟩
        case measure => simp [intOf]; omega
    · obtain rfl : k = t.l.length := by omega
      have hlk : ¬ ((t.l.length : Int) < (t.l.length : Int)) := by omega
      have y1 : wr.cell? ⟨xb, 1, none⟩ = some (.slice A' t.y.length c') := (HX.out.next HA.out.low).cell 1
      go_wp2_with fail
      clear y1
      have HOKN := HOK
      have hA0 := HA
      clear HOK HA
      go_loopw [5, 50] (fun l i wr => ∃ j : Nat, j ≤ t.y.length ∧ i = .int .i64 j ∧ l = .int .i64 (prevY t j) ∧ -1 ≤ prevY t j ∧ TyOk t j ∧ AskIs w0 wr g pb A A' c c' t (psY (psAll t t.l.length) (t.y.take j))) (fun _ i _ => t.y.length - (intOf i).toNat)
      case atStart => exact ⟨0, by omega, rfl, rfl, by show (-1 : Int) ≤ -1; decide, fun i h => absurd h (by omega), by simpa [psY] using hA0.out⟩
      case round =>
        obtain ⟨j, hj, rfl, rfl, hm, hok, hA⟩ := hrel
        have HOK := Lib.hid hok
        have HA := Lib.hid hA
        clear hok hA hA0
        by_cases hlt : j < t.y.length
        · have hlk : (j : Int) < (t.y.length : Int) := by omega
          have hj0 : (0 : Int) ≤ (j : Int) := by omega
          obtain ⟨ad, u, rfl, _, hu, hcell⟩ := (HT.out.next HA.out.low).types.at_ hlt
          have hyj : t.y[j]? = some t.y[j] := List.getElem?_eq_getElem hlt
          rw [List.getElem?_map, hyj] at hu
          obtain rfl := Option.some.inj hu
          generalize t.y[j] = k at hyj hcell
          have HYJ := Lib.hid hyj
          replace hcell : wr.cell? (ad.add j) = some (.int .i64 k) := hcell
          clear hyj hu
          go_upto_region 14 with fail
          obtain ⟨l, hl9⟩ : ∃ l, l = prevY t j := ⟨_, rfl⟩
          rw [← hl9] at hm ⊢
          have HLL := Lib.hid hl9
          clear hl9
          have y0 : wr.cell? ⟨xb, 0, none⟩ = some (.slice A t.l.length c) := (HX.out.next HA.out.low).cell 0
          by_cases h5 : k ≤ l
          · go_wp2_with fail
            go_ret
            exact GoodEnd.no (next_ HB0.out HA.out.low) (fun h _ => by have h9 := (h.types j hlt k HYJ.out).1; rw [← HLL.out] at h9; omega)
          by_cases h6 : (t.l.length : Int) ≤ k
          · go_wp2_with fail
            go_ret
            exact GoodEnd.no (next_ HB0.out HA.out.low) (fun h _ => by have h9 := (h.types j hlt k HYJ.out).2.1; omega)
          obtain ⟨kn, rfl⟩ : ∃ kn : Nat, k = (kn : Int) := ⟨k.toNat, by omega⟩
          have hkn : kn < t.l.length := by omega
          have hk0 : (0 : Int) ≤ (kn : Int) := by omega
          have hk1 : (kn : Int) < (t.l.length : Int) := by omega
          have hxk : t.l[kn]? = some t.l[kn] := List.getElem?_eq_getElem hkn
          generalize t.l[kn] = x at hxk
          have HXK := Lib.hid hxk
          obtain ⟨ad3, rfl, _, hcs⟩ := (HT.out.next HA.out.low).nodes.nodAt hxk
          have a0 : wr.cell? (ad3.add (kn * 8)) = some (.int .i64 x.k) := by have h9 := hcs 0 _ rfl; rw [add_of_add] at h9; simpa using h9
          clear hcs hxk
          by_cases h7 : x.k = 42
          case neg =>
            have f7 : (x.k == 42) = false := beq_false_of_ne h7
            have g7 : (x.k != 42) = true := bne_iff_ne.2 h7
            have H7 := Lib.hid h7
            clear h7
            go_wp2_with fail
            go_ret
            exact GoodEnd.no (next_ HB0.out HA.out.low) (fun h _ => by
              obtain ⟨y, h8, h9⟩ := (h.types j hlt kn HYJ.out).2.2
              rw [show ((kn : Nat) : Int).toNat = kn from rfl, HXK.out] at h8
              obtain rfl := Option.some.inj h8
              exact H7.out h9)
          have H7 := Lib.hid h7
          rw [h7] at a0
          clear h7
          go_upto_region 16 with fail
          clear a0 y0
          obtain ⟨ps, hps⟩ : ∃ ps, ps = psY (psAll t t.l.length) (t.y.take j) := ⟨_, rfl⟩
          rw [← hps] at HA
          have HPS := Lib.hid hps
          have hpl : ps.length = t.l.length := by rw [hps, psY_len, psAll_len]
          clear hps
          have hkp : kn < ps.length := by omega
          have x3 : wr.cell? ⟨g, 3, none⟩ = some (.slice (some ⟨pb, 0, none⟩) ps.length ps.length) := HA.out.ask.cell 3
          have pa : wr.cell? ⟨pb, kn, none⟩ = some (.int .i64 ps[kn]) := by
            rw [HA.out.cnt.cell kn]
            simp [intV, List.getElem?_eq_getElem hkp]
          have fz := HA.out.cnt.frozen kn
          have HA1 := Lib.hid (HA.out.bumped hkp)
          have HPL := Lib.hid hpl
          go_upto_region 17 with fail
          clear x3 pa fz
          generalize wr.setCell ⟨pb, kn, none⟩ (.int .i64 (wrap64 (ps[kn] + 1))) = w6 at HA1 ⊢
          go_wp2_with fail
          go_roundw
          case rel =>
            refine ⟨j + 1, by omega, by go_num, ?_, ?_, ?_, ?_⟩
            · show _ = Value.int .i64 (t.y.getD j 0)
              rw [List.getD_eq_getElem?_getD, HYJ.out]
              rfl
            · show (-1 : Int) ≤ t.y.getD j 0
              rw [List.getD_eq_getElem?_getD, HYJ.out]
              show (-1 : Int) ≤ (kn : Int)
              omega
            · intro i hi y hy
              by_cases hij : i = j
              · subst hij
                have e9 := HYJ.out
                rw [hy] at e9
                obtain rfl := Option.some.inj e9
                rw [← HLL.out]
                exact ⟨by omega, hk1, x, HXK.out, H7.out⟩
              · exact HOK.out i (by omega) y hy
            · rw [List.take_add_one, HYJ.out, show (some (kn : Int)).toList = [(kn : Int)] from rfl, psY_snoc, ← HPS.out]
              exact HA1.out
          case measure => simp [intOf]; omega
        · obtain rfl : j = t.y.length := by omega
          have hlk : ¬ ((t.y.length : Int) < (t.y.length : Int)) := by omega
          go_upto_region 19 with fail
          obtain ⟨rn, hrn⟩ : ∃ rn : Nat, (t.l.length : Int) - 1 = (rn : Int) := ⟨t.l.length - 1, by omega⟩
          have hrl : rn < t.l.length := by omega
          rw [List.take_length] at HA
          obtain ⟨ps, hps⟩ : ∃ ps, ps = psY (psAll t t.l.length) t.y := ⟨_, rfl⟩
          rw [← hps] at HA
          have HPS := Lib.hid hps
          have hpl : ps.length = t.l.length := by rw [hps, psY_len, psAll_len]
          clear hps
          have hrp : rn < ps.length := by omega
          have r0 : (0 : Int) ≤ (rn : Int) := by omega
          have r1 : (rn : Int) < (t.l.length : Int) := by omega
          have r2 : (rn : Int) < (ps.length : Int) := by omega
          have x3 : wr.cell? ⟨g, 3, none⟩ = some (.slice (some ⟨pb, 0, none⟩) ps.length ps.length) := HA.out.ask.cell 3
          have x2 : wr.cell? ⟨xb, 2, none⟩ = some (.int .i64 (rn : Int)) := by rw [← hrn, ← HR.out]; exact (HX.out.next HA.out.low).cell 2
          have pa : wr.cell? ⟨pb, rn, none⟩ = some (.int .i64 ps[rn]) := by
            rw [HA.out.cnt.cell rn]
            simp [intV, List.getElem?_eq_getElem hrp]
          have fz := HA.out.cnt.frozen rn
          have HA1 := Lib.hid (HA.out.bumped hrp)
          have HAd := Lib.hid (show AskIs w0 wr.drew g pb A A' c c' t ps from ⟨HA.out.ask, HA.out.cnt, HA.out.le, Below.drew HA.out.low⟩)
          generalize ps[rn] = v0 at pa HA1
          refine wp_region_last (S := fun V => V.cell? ⟨g, 3, none⟩ = some (.slice (some ⟨pb, 0, none⟩) ps.length ps.length) ∧ V.cell? ⟨xb, 2, none⟩ = some (.int .i64 (rn : Int)) ∧ V.cell? ⟨pb, rn, none⟩ = some (.int .i64 v0) ∧ V.frozen? ⟨pb, rn, none⟩ = false) 10 (by kernel_rfl) (by kernel_rfl) (by kernel_rfl) (by kernel_rfl) ⟨x3, x2, pa, fz⟩ (fun hHeld => ?_)
          clear x3 x2 pa fz
          refine wpAnyH_take (i := 0) (oi := ⟨some 84, _, _, _, _, _⟩) (v := ?_) rfl (by kernel_rfl) (by kernel_rfl) (by kernel_rfl) (fun _ _ _ h => h) (Or.inl ⟨by kernel_rfl, ?_⟩) (by assumption) ?_
          rotate_left
          · intro V hSw
            obtain ⟨z0, z1, z2, z3⟩ := hSw
            go_simp
            try with_reducible rfl
          try simp only [Act.put, List.setIfInBounds_toArray, List.set_cons_zero, List.set_cons_succ]
          refine wpAnyH_take (i := 1) (oi := ⟨some 85, _, _, _, _, _⟩) (v := ?_) rfl (by kernel_rfl) (by kernel_rfl) (by kernel_rfl) (fun _ _ _ h => h) (Or.inl ⟨by kernel_rfl, ?_⟩) (by assumption) ?_
          rotate_left
          · intro V hSw
            obtain ⟨z0, z1, z2, z3⟩ := hSw
            go_simp
            try with_reducible rfl
          try simp only [Act.put, List.setIfInBounds_toArray, List.set_cons_zero, List.set_cons_succ]
          refine wpAnyH_take (i := 2) (oi := ⟨some 86, _, _, _, _, _⟩) (v := ?_) rfl (by kernel_rfl) (by kernel_rfl) (by kernel_rfl) (fun _ _ _ h => h) (Or.inl ⟨by kernel_rfl, ?_⟩) (by assumption) ?_
          rotate_left
          · intro V hSw
            obtain ⟨z0, z1, z2, z3⟩ := hSw
            go_simp
            try with_reducible rfl
          try simp only [Act.put, List.setIfInBounds_toArray, List.set_cons_zero, List.set_cons_succ]
          refine wpAnyH_take (i := 3) (oi := ⟨some 87, _, _, _, _, _⟩) (v := ?_) rfl (by kernel_rfl) (by kernel_rfl) (by kernel_rfl) (fun _ _ _ h => h) (Or.inl ⟨by kernel_rfl, ?_⟩) (by assumption) ?_
          rotate_left
          · intro V hSw
            obtain ⟨z0, z1, z2, z3⟩ := hSw
            go_simp
            try with_reducible rfl
          try simp only [Act.put, List.setIfInBounds_toArray, List.set_cons_zero, List.set_cons_succ]
          refine wpAnyH_take (i := 4) (oi := ⟨some 88, _, _, _, _, _⟩) (v := ?_) rfl (by kernel_rfl) (by kernel_rfl) (by kernel_rfl) (fun _ _ _ h => h) (Or.inl ⟨by kernel_rfl, ?_⟩) (by assumption) ?_
          rotate_left
          · intro V hSw
            obtain ⟨z0, z1, z2, z3⟩ := hSw
            go_simp
            try with_reducible rfl
          try simp only [Act.put, List.setIfInBounds_toArray, List.set_cons_zero, List.set_cons_succ]
          refine wpAnyH_take (i := 5) (oi := ⟨some 89, _, _, _, _, _⟩) (v := ?_) rfl (by kernel_rfl) (by kernel_rfl) (by kernel_rfl) (fun _ _ _ h => h) (Or.inl ⟨by kernel_rfl, ?_⟩) (by assumption) ?_
          rotate_left
          · intro V hSw
            obtain ⟨z0, z1, z2, z3⟩ := hSw
            go_simp
            try with_reducible rfl
          try simp only [Act.put, List.setIfInBounds_toArray, List.set_cons_zero, List.set_cons_succ]
          refine wpAnyH_take (i := 6) (oi := ⟨some 90, _, _, _, _, _⟩) (v := ?_) rfl (by kernel_rfl) (by kernel_rfl) (by kernel_rfl) (fun _ _ _ h => h) (Or.inl ⟨by kernel_rfl, ?_⟩) (by assumption) ?_
          rotate_left
          · intro V hSw
            obtain ⟨z0, z1, z2, z3⟩ := hSw
            go_simp
            try with_reducible rfl
          try simp only [Act.put, List.setIfInBounds_toArray, List.set_cons_zero, List.set_cons_succ]
          refine wpAnyH_take (i := 7) (oi := ⟨some 91, _, _, _, _, _⟩) (v := ?_) rfl (by kernel_rfl) (by kernel_rfl) (by kernel_rfl) (fun _ _ _ h => h) (Or.inl ⟨by kernel_rfl, ?_⟩) (by assumption) ?_
          rotate_left
          · intro V hSw
            obtain ⟨z0, z1, z2, z3⟩ := hSw
            go_simp
            try with_reducible rfl
          try simp only [Act.put, List.setIfInBounds_toArray, List.set_cons_zero, List.set_cons_succ]
          refine wpAnyH_take (i := 8) (oi := ⟨some 92, _, _, _, _, _⟩) (v := ?_) rfl (by kernel_rfl) (by kernel_rfl) (by kernel_rfl) (fun _ _ _ h => h) (Or.inl ⟨by kernel_rfl, ?_⟩) (by assumption) ?_
          rotate_left
          · intro V hSw
            obtain ⟨z0, z1, z2, z3⟩ := hSw
            go_simp
            try with_reducible rfl
          try simp only [Act.put, List.setIfInBounds_toArray, List.set_cons_zero, List.set_cons_succ]
          refine wpAnyH_take (i := 9) (oi := ⟨some 93, _, _, _, _, _⟩) (v := ?_) rfl (by kernel_rfl) (by kernel_rfl) (by kernel_rfl) (fun _ _ _ h => h) (Or.inl ⟨by kernel_rfl, ?_⟩) (by assumption) ?_
          rotate_left
          · intro V hSw
            obtain ⟨z0, z1, z2, z3⟩ := hSw
            go_simp
            try with_reducible rfl
          try simp only [Act.put, List.setIfInBounds_toArray, List.set_cons_zero, List.set_cons_succ]
          refine wpAnyH_done (by kernel_rfl) ?_ _
          refine lastPost_run (o := ⟨none, _, _, _, _, _⟩) rfl (fun K hK => ?_)
          obtain ⟨z0, z1, z2, z3⟩ := hHeld
          go_simp
          refine hK.out _ _ ?_
          clear hK K
          have hPE : ps.modify rn bump = psEnd t := by unfold psEnd; rw [HR.out, hrn, show ((rn : Nat) : Int).toNat = rn from rfl, ← HPS.out]
          rw [show IntKind.i64.wrap (v0 + 1) = wrap64 (v0 + 1) by rw [IntKind.wrap_i64]; unfold wrap64; rfl]
          have HA2 := Lib.hid (show AskIs w0 (wr.setCell ⟨pb, rn, none⟩ (.int .i64 (wrap64 (v0 + 1)))).drew g pb A A' c c' t (psEnd t) from by rw [← hPE]; exact ⟨HA1.out.ask, HA1.out.cnt, HA1.out.le, Below.drew HA1.out.low⟩)
          have hql : (psEnd t).length = t.l.length := by rw [← hPE, List.length_modify, hpl]
          generalize (wr.setCell ⟨pb, rn, none⟩ (.int .i64 (wrap64 (v0 + 1)))).drew = w7 at HA2 ⊢
          clear z0 z1 z2 z3 hPE HPS HA1 HAd HA hrp hpl r2
          have x3 : w7.cell? ⟨g, 3, none⟩ = some (.slice (some ⟨pb, 0, none⟩) (psEnd t).length (psEnd t).length) := HA2.out.ask.cell 3
          obtain ⟨pe, hpe⟩ : ∃ pe, pe = psEnd t := ⟨_, rfl⟩
          rw [← hpe] at x3 hql HA2
          have HPE := Lib.hid hpe
          have HQL := Lib.hid hql
          clear hpe
          go_wp2_with fail
          clear x3
          go_loopw [99] (fun i wr => ∃ j : Nat, j ≤ t.l.length ∧ i = .int .i64 j ∧ wr = w7 ∧ ∀ i, i < j → ∀ v, pe[i]? = some v → v = 1) (fun i _ => t.l.length - (intOf i).toNat)
          case atStart => exact ⟨0, by omega, rfl, rfl, fun i h => absurd h (by omega)⟩
          case round =>
            obtain ⟨j, hj, rfl, rfl, hone⟩ := hrel
            have HO := Lib.hid hone
            clear hone
            by_cases hlt : j < t.l.length
            · have hlk : (j : Int) < (t.l.length : Int) := by omega
              have hj0 : (0 : Int) ≤ (j : Int) := by omega
              have hjp : j < pe.length := by omega
              have hpj : pe[j]? = some pe[j] := List.getElem?_eq_getElem hjp
              have pa : wr.cell? ⟨pb, j, none⟩ = some (.int .i64 pe[j]) := by
                rw [HA2.out.cnt.cell j]
                simp [intV, hpj]
              generalize pe[j] = v at hpj pa
              have HPJ := Lib.hid hpj
              clear hpj
              by_cases hv : v = 1
              · have f1 : (v == 1) = true := beq_iff_eq.2 hv
                have f2 : (v != 1) = false := by rw [hv]; rfl
                have HV := Lib.hid hv
                clear hv
                go_wp2_with fail
                go_roundw
                case rel => exact ⟨j + 1, by omega, by go_num, by first | rfl | trivial, fun i hi u hu => by
                    by_cases hij : i = j
                    · subst hij
                      have e9 := HPJ.out
                      rw [hu] at e9
                      obtain rfl := Option.some.inj e9
                      exact HV.out
                    · exact HO.out i (by omega) u hu⟩
                case measure => simp [intOf]; omega
              · have f1 : (v == 1) = false := beq_false_of_ne hv
                have f2 : (v != 1) = true := bne_iff_ne.2 hv
                have HV := Lib.hid hv
                clear hv
                go_wp2_with fail
                go_ret
                exact GoodEnd.no (next_ HB0.out HA2.out.low) (fun h _ => HV.out (h.ones v (by rw [← HPE.out]; exact List.mem_of_getElem? HPJ.out)))
            · obtain rfl : j = t.l.length := by omega
              have hlk : ¬ ((t.l.length : Int) < (t.l.length : Int)) := by omega
              go_upto_region 26 with fail
              have hxr : t.l[rn]? = some t.l[rn] := List.getElem?_eq_getElem hrl
              generalize t.l[rn] = x at hxr
              have HXR := Lib.hid hxr
              obtain ⟨k1, k2⟩ := of_in (HOKN.out rn hrl x hxr).1
              obtain ⟨kk, hkk⟩ : ∃ kk : Nat, x.k = (kk : Int) := ⟨x.k.toNat, by omega⟩
              obtain ⟨r, hr⟩ := rows_at (k := kk) (by omega)
              have hgd : (rowsL.getD x.k.toNat zeroR).is_ = r.is_ := by rw [show x.k.toNat = kk by omega, List.getD_eq_getElem?_getD, hr]; rfl
              have HGD := Lib.hid hgd
              have hc0 : wr.cell? ⟨0, kk * 8, none⟩ = some (.int .u8 r.is_) := by
                have h9 := (HS.out.ast.next HA2.out.low).at_ hr 0 _ rfl
                simpa [Addr.add] using h9
              obtain ⟨ad, rfl, _, hcs⟩ := (HT.out.next HA2.out.low).nodes.nodAt hxr
              have a0 : wr.cell? (ad.add (rn * 8)) = some (.int .i64 (kk : Int)) := by have h9 := hcs 0 _ rfl; rw [add_of_add, hkk] at h9; simpa using h9
              have j0 : (0 : Int) ≤ (kk : Int) := by omega
              have j1 : (kk : Int) < 44 := by omega
              have x0 : wr.cell? ⟨xb, 0, none⟩ = some (.slice (some ad) t.l.length c) := (HX.out.next HA2.out.low).cell 0
              have x2 : wr.cell? ⟨xb, 2, none⟩ = some (.int .i64 (rn : Int)) := by rw [← hrn, ← HR.out]; exact (HX.out.next HA2.out.low).cell 2
              have HRN := Lib.hid hrn
              clear hcs hxr hgd hr hkk k1 k2 hrn
              by_cases hi : r.is_ = 101
              · have f1 : (r.is_ == 101) = true := beq_iff_eq.2 hi
                have HI := Lib.hid hi
                rw [hi] at hc0
                clear hi
                go_wp2_with fail
                go_ret
                exact ⟨_, rfl, next_ HB0.out HA2.out.low, fun _ => ⟨by omega, by omega, HR.out, HOKN.out, HOK.out, fun v hv => by
                    rw [← HPE.out] at hv
                    obtain ⟨i, hi, hiv⟩ := List.mem_iff_getElem.1 hv
                    exact HO.out i (by have := HQL.out; omega) v (by rw [List.getElem?_eq_getElem hi, hiv]), fun y hy => by
                    have e8 := HRN.out
                    rw [show t.l.length - 1 = rn by omega, HXR.out] at hy
                    obtain rfl := Option.some.inj hy
                    rw [HGD.out, HI.out]⟩, fun _ _ => rfl⟩
              · have f1 : (r.is_ == 101) = false := beq_false_of_ne hi
                have HI := Lib.hid hi
                clear hi
                go_wp2_with fail
                go_ret
                refine GoodEnd.no (next_ HB0.out HA2.out.low) (fun h _ => HI.out ?_)
                have h9 := h.is_ x (by rw [show t.l.length - 1 = rn by have := HRN.out; omega]; exact HXR.out)
                rw [HGD.out] at h9
                exact h9
end Go.Proofs.YtphojigdapaaiaaDoor
