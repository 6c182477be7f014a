/- The document's unify, at two nodes that are no variables. -/
import Derived.Test.YtcilodgpbdafeaaDoorZA
namespace Go.Proofs.YtcilodgpbdafeaaDoor
open Go.ChangeShapes Go.WideShapes Go.ChangeAt Go.RowKit
set_option linter.unusedVariables false
set_option linter.unusedSimpArgs false
theorem pair_info : (Tryd.prog.info? 63).map (fun i => (i.zero, i.size, i.bytes)) = some (some (.agg #[.int .i64 0, .int .i64 0]), 2, 16) := by kernel_rfl
theorem pair_one (p : Nat × Nat) : ∀ u ∈ pairC p, u.oneCell' = true := by simp [pairC, Value.oneCell']
theorem reads_pair (w : World) (p : Nat × Nat) (b : Nat) (hb : w.heap.size = b) : Reads (w.alloc (.cells (pairC p).toArray 63)) (b + 1) 2 (some ⟨b, 0, none⟩) 1 (pairC p) := by
  subst hb
  exact reads_blkN (Blk.new w 63 _) rfl
theorem nonvar_kind {S : Ty} (w : S.wf) (h : ∀ n, S ≠ .var n) : S.kind ≠ 11 := by
  cases S with
  | var n => exact absurd rfl (h n)
  | leaf k t => simp only [Ty.wf, Ty.kind] at w ⊢; omega
  | one k s => simp only [Ty.wf, Ty.kind] at w ⊢; omega
  | two k s u => simp only [Ty.wf, Ty.kind] at w ⊢; omega
section
variable {w w7 : World} {base pb db : Nat} {A A' A1 : Option Addr} {c c' c1 : Nat} {L : List Tm} {D : List (Nat × Nat)}
/-- A pair more is done. -/
theorem UniM.push (h : UniM w base pb db A c L D) {p : Nat × Nat} (hp : p ∉ D) (hok : ∃ U, Den (nodes L) p.1 U ∧ Den (nodes L) p.2 U) (q : Blk w db 64 #[.slice A' D.length c']) (o1 : w.ownsRow base 63 2 (.slice A' D.length c') D.length (D.flatMap pairC)) {o : Obj}
    (oA : w7.ownsRow base 63 2 (.slice A1 (D.length + 1) c1) (D.length + 1) (D.flatMap pairC ++ pairC p)) (gA : (w.alloc o).grownBy w7 (Value.slice A' D.length c').ownBlock) :
    UniM (w7.setCell ⟨db, 0, none⟩ (.slice A1 (D.length + 1) c1)) base pb db A c L (D ++ [p]) ∧ Below base w (w7.setCell ⟨db, 0, none⟩ (.slice A1 (D.length + 1) c1)) := by
  have h1 := h.next (below_new w o)
  have q1 := q.next (below_new w o)
  have o2 := own_next o1 (below_new w o)
  have q7 : Blk w7 db 64 #[.slice A' D.length c'] := q1.grown gA (fun e => own_blk_ne o2 q1 (by decide) e.symm)
  have hl : (D ++ [p]).length = D.length + 1 := by simp
  have p7 : PoolM w7 base pb A c L := by
    refine h1.pool.grown gA (fun e => own_blk_ne o2 h1.pool.blk (by decide) e) ?_
    rcases own_own_ne o2 h1.pool.own (by decide) with e | e
    · exact .inr e
    · exact .inl e
  refine ⟨⟨⟨p7.blk.far (Blk.ne_ p7.blk q7 (by decide)) _, own_set p7.own q7 (by decide), p7.pbb, p7.ok, p7.few⟩, ⟨A1, c1, by rw [hl]; exact q7.set_ 0 _, ?_⟩, h.dbb, ?_, fun x hx => ?_⟩, ?_⟩
  · rw [hl, List.flatMap_append, show [p].flatMap pairC = pairC p by simp]
    exact own_set oA q7 (by decide)
  · rw [List.nodup_append]
    refine ⟨h.nodup, by simp, fun x hx y hy e => ?_⟩
    rw [List.mem_singleton] at hy
    subst hy e
    exact hp hx
  · rcases List.mem_append.1 hx with hx | hx
    · exact h.ok x hx
    · rw [List.mem_singleton.1 hx]; exact hok
  · have hb7 : Below base w w7 := ((Below.refl base w).alloc (Nat.le_of_lt (Nat.lt_of_le_of_lt h.pool.pbb h.pool.lt)) o).grown gA (by rw [World.size_alloc]; have := h.pool.pbb; have := h.pool.lt; omega) (fun k e => own_base o2 k e)
    exact ⟨hb7.os, hb7.tape, hb7.output, by rw [World.size_setCell]; exact hb7.size, fun k hk => (Below.heap_setCell w7 ⟨db, 0, none⟩ _ k (by have := h.dbb; show k ≠ db; omega)).trans (hb7.block k hk)⟩
theorem UniM.pairAt (h : w.ownsRow base 63 2 (.slice A' D.length c') D.length (D.flatMap pairC)) {k : Nat} {p : Nat × Nat} (hk : D[k]? = some p) :
    ∃ ad, A' = some ad ∧ ∀ j v, (pairC p)[j]? = some v → w.cell? ((ad.add (k * 2)).add j) = some v := by
  obtain ⟨ad, e, _, hc⟩ := Reads.rowAt (f := pairC) (m := 2) (fun _ => rfl) (Reads.of_own h) (by decide) hk
  exact ⟨ad, e, hc⟩
end
/-- What becomes of two parts, behind what was found ahead. -/
def UniPart (base pb db : Nat) (A : Option Addr) (c : Nat) (L : List Tm) (D : List (Nat × Nat)) (V : List Int) (θ : Int → Ty) (S T : Ty) (W : World) (e : Ending) (W' : World) : Prop :=
  ∃ r L', e = .returned (.bool r) ∧ Below base W W' ∧ PoolM W' base pb A c L' ∧ Same L L' ∧ (r = false → ∀ τ, sub τ (sub θ S) ≠ sub τ (sub θ T)) ∧ (r = true → ∃ θ' D', Mgu θ' (sub θ S) (sub θ T) ∧ UniM W' base pb db A c L' D' ∧ Carries (nodes L) (nodes L') θ' ∧ WfS θ' ∧ (Fewer V fun n => sub θ' (θ n)) ∧ ∀ p ∈ D', p ∈ D ∨ ∃ U, Den (nodes L') p.1 U ∧ SubT U (sub θ' (sub θ S)))
def UniOk (n m : Nat) : Prop := ∀ (base pb db : Nat) (A : Option Addr) (c : Nat) (L : List Tm) (D : List (Nat × Nat)) (V : List Int) (a b : Nat) (S T : Ty) (W : World), V.length ≤ n → S.size ≤ m → UniM W base pb db A c L D → Den (nodes L) a S → Den (nodes L) b T → S.wf → T.wf → vin V S → vin V T → Calls Tryd.prog 48 #[ptr pb, .int .i64 (a : Int), .int .i64 (b : Int), ptr db] W (UniEnd base pb db A c L D V S T W)
def UniStep (V : List Int) (m : Nat) : Prop := ∀ (base pb db : Nat) (A : Option Addr) (c : Nat) (L : List Tm) (D : List (Nat × Nat)) (θ : Int → Ty) (a b : Nat) (S T : Ty) (W : World), Fewer V θ → WfS θ → S.size ≤ m → UniM W base pb db A c L D → Den (nodes L) a (sub θ S) → Den (nodes L) b (sub θ T) → S.wf → T.wf → vin V S → vin V T → Calls Tryd.prog 48 #[ptr pb, .int .i64 (a : Int), .int .i64 (b : Int), ptr db] W (UniPart base pb db A c L D V θ S T W)
theorem UniOk.step {n m : Nat} {V : List Int} (hV : V.length ≤ n) (ihn : ∀ n' < n, ∀ m, UniOk n' m) (ihm : UniOk n m) : UniStep V m := by
  intro base pb db A c L D θ a b S T W hF hW hm hN hx hy wS wT vS vT
  rcases hF with hi | ⟨v, hv, hs⟩
  · have eU := sub_id hi S
    have eV := sub_id hi T
    rw [eU] at hx
    rw [eV] at hy
    refine (ihm base pb db A c L D V a b S T W hV hm hN hx hy wS wT vS vT).mono ?_
    rintro e w ⟨r, L', e1, h1, h2, h3, h4, h5⟩
    refine ⟨r, L', e1, h1, h2, h3, by rw [eU, eV]; exact h4, fun hr => ?_⟩
    obtain ⟨θ', D', g1, g2, g3, g4, g5, g6⟩ := h5 hr
    exact ⟨θ', D', by rw [eU, eV]; exact g1, g2, g3, g4, g5.nxt hi, by rw [eU]; exact g6⟩
  · have hlt := filter_len hv
    refine (ihn _ (Nat.lt_of_lt_of_le hlt hV) _ base pb db A c L D _ a b _ _ W (Nat.le_refl _) (Nat.le_refl _) hN hx hy (sub_wf hW S wS) (sub_wf hW T wT) (vin_subF hs S vS) (vin_subF hs T vT)).mono ?_
    rintro e w ⟨r, L', e1, h1, h2, h3, h4, h5⟩
    refine ⟨r, L', e1, h1, h2, h3, h4, fun hr => ?_⟩
    obtain ⟨θ', D', g1, g2, g3, g4, g5, g6⟩ := h5 hr
    exact ⟨θ', D', g1, g2, g3, g4, Fewer.comp hv hs g5, g6⟩
theorem leaf_eq {k : Int} {t : List UInt8} {T : Ty} (wS : (Ty.leaf k t).wf) (wT : T.wf) (hT : ∀ n, T ≠ .var n) (h : (Ty.leaf k t).kind = T.kind ∧ (Ty.leaf k t).text = T.text) : T = .leaf k t := by
  obtain ⟨h1, h2⟩ := h
  cases T with
  | var n => exact absurd rfl (hT n)
  | leaf k' t' => simp only [Ty.kind, Ty.text] at h1 h2; rw [h1, h2]
  | one k' s' => simp only [Ty.wf, Ty.kind] at wS wT h1; exfalso; omega
  | two k' s' u' => simp only [Ty.wf, Ty.kind] at wS wT h1; exfalso; omega
theorem one_eq {k : Int} {s T : Ty} (wS : (Ty.one k s).wf) (wT : T.wf) (hT : ∀ n, T ≠ .var n) (h : (Ty.one k s).kind = T.kind ∧ (Ty.one k s).text = T.text) : ∃ s', T = .one k s' := by
  obtain ⟨h1, h2⟩ := h
  cases T with
  | var n => exact absurd rfl (hT n)
  | leaf k' t' => simp only [Ty.wf, Ty.kind] at wS wT h1; exfalso; omega
  | one k' s' => simp only [Ty.kind] at h1; exact ⟨s', by rw [h1]⟩
  | two k' s' u' => simp only [Ty.wf, Ty.kind] at wS wT h1; exfalso; omega
theorem two_eq {k : Int} {s u T : Ty} (wS : (Ty.two k s u).wf) (wT : T.wf) (hT : ∀ n, T ≠ .var n) (h : (Ty.two k s u).kind = T.kind ∧ (Ty.two k s u).text = T.text) : ∃ s' u', T = .two k s' u' := by
  obtain ⟨h1, h2⟩ := h
  cases T with
  | var n => exact absurd rfl (hT n)
  | leaf k' t' => simp only [Ty.wf, Ty.kind] at wS wT h1; exfalso; omega
  | one k' s' => simp only [Ty.wf, Ty.kind] at wS wT h1; exfalso; omega
  | two k' s' u' => simp only [Ty.kind] at h1; exact ⟨s', u', by rw [h1]⟩
theorem UniM.drewN {W : World} {base pb db : Nat} {A : Option Addr} {c : Nat} {L : List Tm} {D : List (Nat × Nat)} (h : UniM W base pb db A c L D) (n : Nat) : UniM (W.drewN n) base pb db A c L D := ⟨h.pool.drewN n, h.done, h.dbb, h.nodup, h.ok⟩
theorem grewD {w w7 : World} {base db n c' : Nat} {A' : Option Addr} {xs : List Value} (q : Blk w db 64 #[.slice A' n c']) (o1 : w.ownsRow base 63 2 (.slice A' n c') n xs) {o : Obj} (gA : (w.alloc o).grownBy w7 (Value.slice A' n c').ownBlock) : w7.cell? ⟨db, 0, none⟩ = some (.slice A' n c') ∧ w7.frozen? ⟨db, 0, none⟩ = false ∧ db < w7.heap.size := by
  have q7 := (q.next (below_new w o)).grown gA (fun e => own_blk_ne (own_next o1 (below_new w o)) (q.next (below_new w o)) (by decide) e.symm)
  exact ⟨q7.cell 0, q7.frozen 0, q7.lt⟩
section
variable {W : World} {base pb ra rb h1 g1 h2 g2 : Nat} {ad : Addr} {c : Nat} {L L' : List Tm} {y z : Tm}
theorem same_cells1 (h : PoolM W base pb (some ad) c L') (hs : Same L L') (hy : L[ra]? = some y) (hz : L[rb]? = some z) (e1 : y.a = (h1 : Int)) (e2 : z.a = (g1 : Int)) :
    W.cell? ⟨pb, 0, none⟩ = some (.slice (some ad) L.length c) ∧ W.cell? ⟨(ad.add (ra * 5)).block, (ad.add (ra * 5)).off + 1, none⟩ = some (.int .i64 (h1 : Int)) ∧ W.cell? ⟨(ad.add (rb * 5)).block, (ad.add (rb * 5)).off + 1, none⟩ = some (.int .i64 (g1 : Int)) := by
  obtain ⟨s, hy'⟩ := hs.get hy
  obtain ⟨s', hz'⟩ := hs.get hz
  obtain ⟨ad1, e, _, a1, _⟩ := h.at_ hy'
  obtain rfl := Option.some.inj e
  obtain ⟨ad2, e', _, b1, _⟩ := h.at_ hz'
  obtain rfl := Option.some.inj e'
  have p := h.cell
  rw [hs.len] at p
  simp only [e1] at a1
  simp only [e2] at b1
  exact ⟨p, a1, b1⟩
theorem same_cells2 (h : PoolM W base pb (some ad) c L') (hs : Same L L') (hy : L[ra]? = some y) (hz : L[rb]? = some z) (e1 : y.a = (h1 : Int)) (e2 : z.a = (g1 : Int)) (e3 : y.b = (h2 : Int)) (e4 : z.b = (g2 : Int)) :
    W.cell? ⟨pb, 0, none⟩ = some (.slice (some ad) L.length c) ∧ W.cell? ⟨(ad.add (ra * 5)).block, (ad.add (ra * 5)).off + 1, none⟩ = some (.int .i64 (h1 : Int)) ∧ W.cell? ⟨(ad.add (rb * 5)).block, (ad.add (rb * 5)).off + 1, none⟩ = some (.int .i64 (g1 : Int)) ∧ W.cell? ⟨(ad.add (ra * 5)).block, (ad.add (ra * 5)).off + 2, none⟩ = some (.int .i64 (h2 : Int)) ∧ W.cell? ⟨(ad.add (rb * 5)).block, (ad.add (rb * 5)).off + 2, none⟩ = some (.int .i64 (g2 : Int)) := by
  obtain ⟨p, a1, b1⟩ := same_cells1 h hs hy hz e1 e2
  obtain ⟨s, hy'⟩ := hs.get hy
  obtain ⟨s', hz'⟩ := hs.get hz
  obtain ⟨ad1, e, _, _, a2, _⟩ := h.at_ hy'
  obtain rfl := Option.some.inj e
  obtain ⟨ad2, e', _, _, b2, _⟩ := h.at_ hz'
  obtain rfl := Option.some.inj e'
  simp only [e3] at a2
  simp only [e4] at b2
  exact ⟨p, a1, b1, a2, b2⟩
end
theorem UniStep.fst {V : List Int} {m : Nat} (h : UniStep V m) (base pb db : Nat) (A : Option Addr) (c : Nat) (L : List Tm) (D : List (Nat × Nat)) (a b : Nat) (S T : Ty) (W : World) (hm : S.size ≤ m) (hM : UniM W base pb db A c L D) (da : Den (nodes L) a S) (db_ : Den (nodes L) b T) (wS : S.wf) (wT : T.wf) (vS : vin V S) (vT : vin V T) :
    Calls Tryd.prog 48 #[ptr pb, .int .i64 (a : Int), .int .i64 (b : Int), ptr db] W (UniEnd base pb db A c L D V S T W) := by
  refine (h base pb db A c L D .var a b S T W (.inl fun _ => rfl) WfS.var hm hM (by rw [sub_var]; exact da) (by rw [sub_var]; exact db_) wS wT vS vT).mono ?_
  rintro e w ⟨r, L', e1, h1, h2, h3, h4, h5⟩
  rw [sub_var, sub_var] at h4 h5
  refine ⟨r, L', e1, h1, h2, h3, h4, fun hr => ?_⟩
  obtain ⟨θ', D', g1, g2, g3, g4, g5, g6⟩ := h5 hr
  exact ⟨θ', D', g1, g2, g3, g4, g5, g6⟩
set_option maxRecDepth 100000 in
set_option maxHeartbeats 32000000 in
theorem c48n {base pb db : Nat} {A : Option Addr} {c : Nat} {L : List Tm} {D : List (Nat × Nat)} {V : List Int} {a b ra rb ka kb : Nat} {S T : Ty} (ha : Rep (nodes L) a ra ka) (hb : Rep (nodes L) b rb kb) (da : Den (nodes L) ra S) (db_ : Den (nodes L) rb T) (hS : ∀ n, S ≠ .var n) (hT : ∀ n, T ≠ .var n) (wS : S.wf) (wT : T.wf) (vS : vin V S) (vT : vin V T) {m : Nat} (hm : S.size ≤ m + 1) (hst : UniStep V m) (W : World) (hM : UniM W base pb db A c L D) :
    Calls Tryd.prog 48 #[ptr pb, .int .i64 (a : Int), .int .i64 (b : Int), ptr db] W (UniEnd base pb db A c L D V S T W) := by
  have rra := ha.isRoot
  have rrb := hb.isRoot
  obtain ⟨y, hy, hyk, hyt, _, hyc⟩ := da.tm rra hM.pool.ok
  obtain ⟨z, hz, hzk, hzt, _, hzc⟩ := db_.tm rrb hM.pool.ok
  have la := da.lt_
  have lb := db_.lt_
  have few := hM.pool.few
  have p0 := hM.pool.cell
  have hbase := hM.pool.pbb
  have hplt := hM.pool.lt
  obtain ⟨ad, hA, a0, a1, a2, a3, _⟩ := hM.pool.at_ hy
  subst hA
  obtain ⟨ad', hA', b0, b1, b2, b3, _⟩ := hM.pool.at_ hz
  obtain rfl := Option.some.inj hA'
  rw [hyk] at a0
  rw [hzk] at b0
  rw [hyt] at a3
  rw [hzt] at b3
  have kS := nonvar_kind wS hS
  have kT := nonvar_kind wT hT
  have fS : (S.kind == 11) = false := beq_false_of_ne kS
  have fS2 : (S.kind != 11) = true := bne_iff_ne.2 kS
  have fT : (T.kind == 11) = false := beq_false_of_ne kT
  have HA := Lib.hid ha
  have HB := Lib.hid hb
  have DA := Lib.hid da
  have DB := Lib.hid db_
  have RA := Lib.hid rra
  have RB := Lib.hid rrb
  have HM := Lib.hid hM
  have HS := Lib.hid hS
  have HT := Lib.hid hT
  have WS := Lib.hid wS
  have WT := Lib.hid wT
  have VS := Lib.hid vS
  have VT := Lib.hid vT
  have HSz := Lib.hid hm
  have HST := Lib.hid hst
  have HY := Lib.hid hy
  have HZ := Lib.hid hz
  have HYC := Lib.hid hyc
  have HZC := Lib.hid hzc
  have HYk := Lib.hid hyk
  clear ha hb da db_ rra rrb hM hS hT wS wT vS vT hm hst hy hz hA' hyk hzk hyt hzt hyc hzc kS kT
  have la0 : (0 : Int) ≤ (ra : Int) := by omega
  have laI : (ra : Int) < (L.length : Int) := by omega
  have lb0 : (0 : Int) ≤ (rb : Int) := by omega
  have lbI : (rb : Int) < (L.length : Int) := by omega
  by_cases hab : ra = rb
  · subst hab
    have ET := Lib.hid (show T = S from DB.out.fn DA.out)
    have fq : ((ra : Int) == (ra : Int)) = true := beq_self_eq_true _
    go_enter Tryd.func48, Tryd.ntmps48
    go_wp2_with fail
    refine (c54 HA.out HM.out.pool).mono ?_
    rintro e _ ⟨rfl, rfl⟩
    go_wp2_with fail
    refine (c54 HB.out HM.out.pool).mono ?_
    rintro e _ ⟨rfl, rfl⟩
    go_wp2_with fail
    go_ret
    refine ⟨true, L, rfl, Below.refl _ _, HM.out.pool, Same.refl L, fun h => (by cases h), fun _ => ⟨.var, D, ?_, HM.out, Carries.refl, WfS.var, .inl fun _ => rfl, fun p hp => .inl hp⟩⟩
    rw [ET.out]
    exact Mgu.id _
  have fq : ((ra : Int) == (rb : Int)) = false := beq_false_of_ne (by omega)
  clear hab
  obtain ⟨AD, cD, d0, d1, d2, d3, d4⟩ := HM.out.cell
  have D3 := Lib.hid d3
  have D4 := Lib.hid d4
  have dfew := HM.out.few
  clear d3 d4
  go_enter Tryd.func48, Tryd.ntmps48
  go_wp2_with fail
  refine (c54 HA.out HM.out.pool).mono ?_
  rintro e _ ⟨rfl, rfl⟩
  go_wp2_with fail
  refine (c54 HB.out HM.out.pool).mono ?_
  rintro e _ ⟨rfl, rfl⟩
  go_wp2_with fail
  go_loopw [9] (fun i wr => ∃ k : Nat, k ≤ D.length ∧ i = .int .i64 k ∧ W = wr ∧ (ra, rb) ∉ D.take k) (fun i _ => D.length - (intOf i).toNat)
  case atStart => exact ⟨0, by omega, rfl, by trivial, by simp⟩
  case round =>
    obtain ⟨k, hk, rfl, rfl, hnin⟩ := hrel
    have HNin := Lib.hid hnin
    clear hnin
    by_cases hlt : k < D.length
    · have hlk : (k : Int) < (D.length : Int) := by omega
      have hk0 : (0 : Int) ≤ (k : Int) := by omega
      have hpk : D[k]? = some D[k] := List.getElem?_eq_getElem hlt
      obtain ⟨adD, hAD, hcs⟩ := UniM.pairAt D4.out hpk
      subst hAD
      have HTK := Lib.hid (show D.take (k + 1) = D.take k ++ [D[k]] by rw [List.take_add_one, hpk]; rfl)
      have HMem := Lib.hid (List.mem_of_getElem? hpk)
      generalize D[k] = p at hpk hcs HTK HMem
      obtain ⟨x, z'⟩ := p
      have HCS := Lib.hid hcs
      clear hcs hpk
      by_cases hp : (x, z') = (ra, rb)
      · obtain ⟨rfl, rfl⟩ := Prod.mk.inj hp
        have e63 : ∀ w, (binOp .eql 63 (.agg #[.int .i64 (x : Int), .int .i64 (z' : Int)]) (.agg #[.int .i64 (x : Int), .int .i64 (z' : Int)])).run Tryd.prog w = .ok (.bool true) w := fun w => by rw [eql63]; simp
        clear hp
        go_wp2_with (first | (refine wpList_load_at rfl 63 (.tmp 81) rfl (adD.add (k * 2)) rfl [.int .i64 (x : Int), .int .i64 (z' : Int)] _ HCS.out Tryd.underlying63 rfl (by kernel_rfl) ?_))
        go_ret
        obtain ⟨U, u1, u2⟩ := HM.out.ok _ HMem.out
        have ET : T = S := (DB.out.fn u2).trans (u1.fn DA.out)
        refine ⟨true, L, rfl, Below.refl _ _, HM.out.pool, Same.refl L, fun h => (by cases h), fun _ => ⟨.var, D, ?_, HM.out, Carries.refl, WfS.var, .inl fun _ => rfl, fun p hp => .inl hp⟩⟩
        rw [ET]
        exact Mgu.id _
      · have e63 : ∀ w, (binOp .eql 63 (.agg #[.int .i64 (x : Int), .int .i64 (z' : Int)]) (.agg #[.int .i64 (ra : Int), .int .i64 (rb : Int)])).run Tryd.prog w = .ok (.bool false) w := fun w => by
          rw [eql63]
          have : ((x : Int) == (ra : Int) && (z' : Int) == (rb : Int)) = false := by
            rw [Bool.and_eq_false_iff]
            by_cases h1 : x = ra
            · refine .inr (beq_false_of_ne fun h2 => hp ?_)
              rw [h1, show z' = rb by omega]
            · exact .inl (beq_false_of_ne (by omega))
          rw [this]
        have HP := Lib.hid hp
        clear hp
        go_wp2_with (first | (refine wpList_load_at rfl 63 (.tmp 81) rfl (adD.add (k * 2)) rfl [.int .i64 (x : Int), .int .i64 (z' : Int)] _ HCS.out Tryd.underlying63 rfl (by kernel_rfl) ?_))
        go_roundw
        case rel =>
          refine ⟨k + 1, by omega, by go_num, by trivial, ?_⟩
          rw [HTK.out]
          intro hmem
          rcases List.mem_append.1 hmem with h | h
          · exact HNin.out h
          · exact HP.out (List.mem_singleton.1 h).symm
        case measure => simp [intOf]; omega
    · obtain rfl : k = D.length := by omega
      have hlk : ¬ ((D.length : Int) < (D.length : Int)) := by omega
      rw [List.take_length] at HNin
      clear hk hlt
      by_cases hkt : S.kind = T.kind ∧ S.text = T.text
      · have fk : (S.kind != T.kind) = false := bne_eq_false_iff_eq.2 hkt.1
        have f2 : (S.text == T.text) = true := beq_iff_eq.2 hkt.2
        have HKT := Lib.hid hkt
        clear hkt
        go_wp2_with fail
        go_quiet (fail)
        clear b0 a3 b3 fk f2 fS fS2 fT p0 a0 a1 a2 b1 b2 d0 d1 d2
        have m1 := HM.out.drewN nq
        have b1 : Below base W (W.drewN nq) := below_drewN (Below.refl _ _) _
        generalize W.drewN nq = w1 at m1 b1 ⊢
        have M1 := Lib.hid m1
        have B1 := Lib.hid b1
        clear m1 b1
        have p0 := M1.out.pool.cell
        obtain ⟨ad1, hA1, a0, a1, a2, _, _⟩ := M1.out.pool.at_ HY.out
        obtain rfl := Option.some.inj hA1
        obtain ⟨ad2, hA2, _, b1, b2, _, _⟩ := M1.out.pool.at_ HZ.out
        obtain rfl := Option.some.inj hA2
        rw [HYk.out] at a0
        clear hA1 hA2
        go_wp2_with fail
        refine (c27 S.kind _).mono ?_
        rintro e w1' ⟨rfl, rfl⟩
        rw [kids_kind WS.out]
        clear a0
        cases S with
        | var n => exact absurd rfl (HS.out n)
        | leaf k t =>
          have ET := Lib.hid (show T = .leaf k t from leaf_eq WS.out WT.out HT.out HKT.out)
          simp only [kidsN]
          go_wp2_with fail
          go_quiet (fail)
          have m2 := M1.out.drewN nq
          have b2' : Below base W (w1.drewN nq) := below_drewN B1.out _
          generalize w1.drewN nq = w2 at m2 b2' ⊢
          have M2 := Lib.hid m2
          have B2 := Lib.hid b2'
          clear m2 b2' p0 a1 a2 b1 b2
          have HMX := Lib.hid (M2.out)
          have HBX := Lib.hid (show Below base W (w2) from B2.out)
          have HNX := Lib.hid (show (ra, rb) ∉ D from HNin.out)
          have HOX := Lib.hid (show ∃ U, Den (nodes L) (ra, rb).1 U ∧ Den (nodes L) (ra, rb).2 U from ⟨_, DA.out, by have h := DB.out; rw [ET.out] at h; exact h⟩)
          obtain ⟨AX, cX, x0, x1, x2, x3, x4⟩ := HMX.out.cell
          have X3 := Lib.hid x3
          have X4 := Lib.hid x4
          have xfew := HMX.out.few
          obtain ⟨i63, fi63, hz0, hz1, hz2⟩ := info_parts pair_info
          have H63 := Lib.hid (show i63.zero = some (.agg #[.int .i64 0, .int .i64 0]) ∧ i63.size = 2 ∧ i63.bytes = 16 from ⟨hz0, hz1, hz2⟩)
          have hxs : base ≤ (w2).heap.size := Nat.le_of_lt (Nat.lt_of_le_of_lt HMX.out.pool.pbb HMX.out.pool.lt)
          clear x3 x4 hz0 hz1 hz2
          go_upto_region 21 with fail
          go_wp2_with (at_builtin; refine wpList_append_any _ rfl (.tmp 185) (.tmp 189) 64 rfl base 63 i63 _ 2 16 Tryd.underlying64 fi63 H63.out.1 H63.out.2.1 H63.out.2.2 rfl (by omega) (.slice AX D.length cX) D.length (D.flatMap pairC) rfl (own_next X4.out (below_new _ _)) ((w2).heap.size + 1) (some ⟨(w2).heap.size, 0, none⟩) 1 1 (pairC (ra, rb)) rfl (reads_pair (w2) (ra, rb) (w2).heap.size rfl) (pair_one (ra, rb)) (by unfold maxLen; omega) (by omega) (by rw [World.size_alloc]; omega) ?_; intro v1 w7 oA gA _; obtain ⟨A1, c1, rfl⟩ := own_form oA; obtain ⟨q0, q1, q2⟩ := grewD X3.out X4.out gA)
          have HOA := Lib.hid oA
          have HGA := Lib.hid gA
          clear oA gA q0 q1 q2
          go_ret
          obtain ⟨u1, u2⟩ := HMX.out.push HNX.out HOX.out X3.out X4.out HOA.out HGA.out
          refine ⟨true, L, rfl, HBX.out.trans u2, u1.pool, Same.refl L, fun h => (by cases h), fun _ => ⟨.var, D ++ [(ra, rb)], by rw [ET.out]; exact Mgu.id _, u1, Carries.refl, WfS.var, .inl fun _ => rfl, fun p hp => ?_⟩⟩
          rcases List.mem_append.1 hp with hp | hp
          · exact .inl hp
          · obtain rfl := List.mem_singleton.1 hp
            exact .inr ⟨_, Carries.refl _ _ DA.out, .refl _⟩
        | one k s =>
          obtain ⟨s', eT⟩ := one_eq WS.out WT.out HT.out HKT.out
          subst eT
          obtain ⟨h1, e1, y1⟩ := HYC.out
          obtain ⟨g1, e2, z1⟩ := HZC.out
          rw [e1] at a1
          rw [e2] at b1
          have E1 := Lib.hid e1
          have E2 := Lib.hid e2
          have hc := HST.out.fst base pb db (some ad) c L D h1 g1 s s' w1.drew (by have := HSz.out; simp only [Ty.size] at this; omega) (M1.out.drewN 1) y1 z1 WS.out.2 WT.out.2 VS.out VT.out
          have HC := Lib.hid hc
          clear hc e1 e2 y1 z1 a2 b2
          simp only [kidsN]
          go_wp2_with fail
          refine wp_region_held_drew (S := (fun X : World => X.cell? ⟨pb, 0, none⟩ = some (.slice (some ad) L.length c) ∧ X.cell? ⟨(ad.add (ra * 5)).block, (ad.add (ra * 5)).off + 1, none⟩ = some (.int .i64 (h1 : Int)) ∧ X.cell? ⟨(ad.add (rb * 5)).block, (ad.add (rb * 5)).off + 1, none⟩ = some (.int .i64 (g1 : Int)))) (by kernel_rfl) ⟨p0, a1, b1⟩ (fun hHeld => ?_)
          refine wpAnyH_take (i := 0) (oi := ⟨some 132, _, _, _, _, _⟩) (v := ?_) rfl (by kernel_rfl) (by kernel_rfl) (by kernel_rfl) (fun _ _ _ h => h) (Or.inl ⟨by kernel_rfl, ?_⟩) (by assumption) ?_
          rotate_left
          · intro w hSw
            go_simp
            try with_reducible rfl
          try simp only [Act.put, List.setIfInBounds_toArray, List.set_cons_zero, List.set_cons_succ]
          refine wpAnyH_take (i := 1) (oi := ⟨some 133, _, _, _, _, _⟩) (v := ?_) rfl (by kernel_rfl) (by kernel_rfl) (by kernel_rfl) (fun _ _ _ h => h) (Or.inl ⟨by kernel_rfl, ?_⟩) (by assumption) ?_
          rotate_left
          · intro w hSw
            go_simp
            try with_reducible rfl
          try simp only [Act.put, List.setIfInBounds_toArray, List.set_cons_zero, List.set_cons_succ]
          refine wpAnyH_take (i := 2) (oi := ⟨some 134, _, _, _, _, _⟩) (v := ?_) rfl (by kernel_rfl) (by kernel_rfl) (by kernel_rfl) (fun _ _ _ h => h) (Or.inl ⟨by kernel_rfl, ?_⟩) (by assumption) ?_
          rotate_left
          · intro w hSw
            go_simp
            try with_reducible rfl
          try simp only [Act.put, List.setIfInBounds_toArray, List.set_cons_zero, List.set_cons_succ]
          refine wpAnyH_take (i := 3) (oi := ⟨some 135, _, _, _, _, _⟩) (v := ?_) rfl (by kernel_rfl) (by kernel_rfl) (by kernel_rfl) (fun _ _ _ h => h) (Or.inl ⟨by kernel_rfl, ?_⟩) (by assumption) ?_
          rotate_left
          · intro w hSw
            go_simp
            try with_reducible rfl
          try simp only [Act.put, List.setIfInBounds_toArray, List.set_cons_zero, List.set_cons_succ]
          refine wpAnyH_take (i := 4) (oi := ⟨some 136, _, _, _, _, _⟩) (v := ?_) rfl (by kernel_rfl) (by kernel_rfl) (by kernel_rfl) (fun _ _ _ h => h) (Or.inl ⟨by kernel_rfl, ?_⟩) (by assumption) ?_
          rotate_left
          · intro w hSw
            go_simp
            try with_reducible rfl
          try simp only [Act.put, List.setIfInBounds_toArray, List.set_cons_zero, List.set_cons_succ]
          refine wpAnyH_take (i := 5) (oi := ⟨some 137, _, _, _, _, _⟩) (v := ?_) rfl (by kernel_rfl) (by kernel_rfl) (by kernel_rfl) (fun _ _ _ h => h) (Or.inl ⟨by kernel_rfl, ?_⟩) (by assumption) ?_
          rotate_left
          · intro w hSw
            go_simp
            try with_reducible rfl
          try simp only [Act.put, List.setIfInBounds_toArray, List.set_cons_zero, List.set_cons_succ]
          refine wpAnyH_take (i := 6) (oi := ⟨some 138, _, _, _, _, _⟩) (v := ?_) rfl (by kernel_rfl) (by kernel_rfl) (by kernel_rfl) (fun _ _ _ h => h) (Or.inl ⟨by kernel_rfl, ?_⟩) (by assumption) ?_
          rotate_left
          · intro w hSw
            go_simp
            try with_reducible rfl
          try simp only [Act.put, List.setIfInBounds_toArray, List.set_cons_zero, List.set_cons_succ]
          refine wpAnyH_take (i := 7) (oi := ⟨some 139, _, _, _, _, _⟩) (v := ?_) rfl (by kernel_rfl) (by kernel_rfl) (by kernel_rfl) (fun _ _ _ h => h) (Or.inl ⟨by kernel_rfl, ?_⟩) (by assumption) ?_
          rotate_left
          · intro w hSw
            go_simp
            try with_reducible rfl
          try simp only [Act.put, List.setIfInBounds_toArray, List.set_cons_zero, List.set_cons_succ]
          refine wpAnyH_take (i := 8) (oi := ⟨some 140, _, _, _, _, _⟩) (v := ?_) rfl (by kernel_rfl) (by kernel_rfl) (by kernel_rfl) (fun _ _ _ h => h) (Or.inl ⟨by kernel_rfl, ?_⟩) (by assumption) ?_
          rotate_left
          · intro w hSw
            go_simp
            try with_reducible rfl
          try simp only [Act.put, List.setIfInBounds_toArray, List.set_cons_zero, List.set_cons_succ]
          refine wpAnyH_take (i := 9) (oi := ⟨some 141, _, _, _, _, _⟩) (v := ?_) rfl (by kernel_rfl) (by kernel_rfl) (by kernel_rfl) (fun _ _ _ h => h) (Or.inl ⟨by kernel_rfl, ?_⟩) (by assumption) ?_
          rotate_left
          · intro w hSw
            go_simp
            try with_reducible rfl
          try simp only [Act.put, List.setIfInBounds_toArray, List.set_cons_zero, List.set_cons_succ]
          refine wpAnyH_take (i := 10) (oi := ⟨some 142, _, _, _, _, _⟩) (v := ?_) rfl (by kernel_rfl) (by kernel_rfl) (by kernel_rfl) (fun _ _ _ h => h) (Or.inl ⟨by kernel_rfl, ?_⟩) (by assumption) ?_
          rotate_left
          · intro w hSw
            go_simp
            try with_reducible rfl
          try simp only [Act.put, List.setIfInBounds_toArray, List.set_cons_zero, List.set_cons_succ]
          refine wpAnyH_take (i := 11) (oi := ⟨some 143, _, _, _, _, _⟩) (v := ?_) rfl (by kernel_rfl) (by kernel_rfl) (by kernel_rfl) (fun _ _ _ h => h) (Or.inl ⟨by kernel_rfl, ?_⟩) (by assumption) ?_
          rotate_left
          · intro w hSw
            go_simp
            try with_reducible rfl
          try simp only [Act.put, List.setIfInBounds_toArray, List.set_cons_zero, List.set_cons_succ]
          refine wpAnyH_take (i := 12) (oi := ⟨some 144, _, _, _, _, _⟩) (v := ?_) rfl (by kernel_rfl) (by kernel_rfl) (by kernel_rfl) (fun _ _ _ h => h) (Or.inl ⟨by kernel_rfl, ?_⟩) (by assumption) ?_
          rotate_left
          · intro w hSw
            go_simp
            try with_reducible rfl
          try simp only [Act.put, List.setIfInBounds_toArray, List.set_cons_zero, List.set_cons_succ]
          refine wpAnyH_take (i := 13) (oi := ⟨some 145, _, _, _, _, _⟩) (v := ?_) rfl (by kernel_rfl) (by kernel_rfl) (by kernel_rfl) (fun _ _ _ h => h) (Or.inl ⟨by kernel_rfl, ?_⟩) (by assumption) ?_
          rotate_left
          · intro w hSw
            go_simp
            try with_reducible rfl
          try simp only [Act.put, List.setIfInBounds_toArray, List.set_cons_zero, List.set_cons_succ]
          refine wpAnyH_take (i := 14) (oi := ⟨some 146, _, _, _, _, _⟩) (v := ?_) rfl (by kernel_rfl) (by kernel_rfl) (by kernel_rfl) (fun _ _ _ h => h) (Or.inl ⟨by kernel_rfl, ?_⟩) (by assumption) ?_
          rotate_left
          · intro w hSw
            go_simp
            try with_reducible rfl
          try simp only [Act.put, List.setIfInBounds_toArray, List.set_cons_zero, List.set_cons_succ]
          refine wpAnyH_take (i := 15) (oi := ⟨some 147, _, _, _, _, _⟩) (v := ?_) rfl (by kernel_rfl) (by kernel_rfl) (by kernel_rfl) (fun _ _ _ h => h) (Or.inl ⟨by kernel_rfl, ?_⟩) (by assumption) ?_
          rotate_left
          · intro w hSw
            go_simp
            try with_reducible rfl
          try simp only [Act.put, List.setIfInBounds_toArray, List.set_cons_zero, List.set_cons_succ]
          refine wpAnyH_take (i := 16) (oi := ⟨some 148, _, _, _, _, _⟩) (v := ?_) rfl (by kernel_rfl) (by kernel_rfl) (by kernel_rfl) (fun _ _ _ h => h) (Or.inl ⟨by kernel_rfl, ?_⟩) (by assumption) ?_
          rotate_left
          · intro w hSw
            go_simp
            try with_reducible rfl
          try simp only [Act.put, List.setIfInBounds_toArray, List.set_cons_zero, List.set_cons_succ]
          refine wpAnyH_take (i := 17) (oi := ⟨some 149, _, _, _, _, _⟩) (v := ?_) rfl (by kernel_rfl) (by kernel_rfl) (by kernel_rfl) (fun _ _ _ h => h) (Or.inl ⟨by kernel_rfl, ?_⟩) (by assumption) ?_
          rotate_left
          · intro w hSw
            go_simp
            try with_reducible rfl
          try simp only [Act.put, List.setIfInBounds_toArray, List.set_cons_zero, List.set_cons_succ]
          refine wpAnyH_take (i := 18) (oi := ⟨some 150, _, _, _, _, _⟩) (v := ?_) rfl (by kernel_rfl) (by kernel_rfl) (by kernel_rfl) (fun _ _ _ h => h) (Or.inl ⟨by kernel_rfl, ?_⟩) (by assumption) ?_
          rotate_left
          · intro w hSw
            go_simp
            try with_reducible rfl
          try simp only [Act.put, List.setIfInBounds_toArray, List.set_cons_zero, List.set_cons_succ]
          refine wpAnyH_take (i := 19) (oi := ⟨some 151, _, _, _, _, _⟩) (v := ?_) rfl (by kernel_rfl) (by kernel_rfl) (by kernel_rfl) (fun _ _ _ h => h) (Or.inl ⟨by kernel_rfl, ?_⟩) (by assumption) ?_
          rotate_left
          · intro w hSw
            go_simp
            try with_reducible rfl
          try simp only [Act.put, List.setIfInBounds_toArray, List.set_cons_zero, List.set_cons_succ]
          refine wpAnyH_take (i := 20) (oi := ⟨some 152, _, _, _, _, _⟩) (v := ?_) rfl (by kernel_rfl) (by kernel_rfl) (by kernel_rfl) (fun _ _ _ h => h) (Or.inl ⟨by kernel_rfl, ?_⟩) (by assumption) ?_
          rotate_left
          · intro w hSw
            go_simp
            try with_reducible rfl
          try simp only [Act.put, List.setIfInBounds_toArray, List.set_cons_zero, List.set_cons_succ]
          refine wpAnyH_ready (rs := [21]) (by kernel_rfl) (by simp) ?_
          refine AllReadyH.cons (o := ⟨some 153, _, _, _, _, _⟩) rfl (fun K hK => ?_) AllReadyH.nil
          go_simp
          refine HC.out.mono ?_
          rintro e w2 ⟨r, L2, rfl, b2, pm2, sm2, hno, hyes⟩
          have B2 := Lib.hid (show Below base W w2 from (below_drewN B1.out 1).trans b2)
          have PM2 := Lib.hid pm2
          have SM2 := Lib.hid sm2
          have HNO := Lib.hid hno
          have HYES := Lib.hid hyes
          clear b2 pm2 sm2 hno hyes
          go_wp2_with fail
          refine hK.out _ _ ?_ (fun hHeld2 => ?_)
          · exact same_cells1 PM2.out SM2.out HY.out HZ.out E1.out E2.out
          clear hK K
          try simp only [Act.put, List.setIfInBounds_toArray, List.set_cons_zero, List.set_cons_succ]
          have HE2 := Lib.hid hHeld2
          clear hHeld hHeld2 HC
          cases r with
          | false =>
            have hHeld3 := HE2.out
            refine wpAnyH_take (i := 22) (oi := ⟨some 154, _, _, _, _, _⟩) (v := ?_) rfl (by kernel_rfl) (by kernel_rfl) (by kernel_rfl) (fun _ _ _ h => h) (Or.inl ⟨by kernel_rfl, ?_⟩) (by assumption) ?_
            rotate_left
            · intro w hSw
              go_simp
              try with_reducible rfl
            try simp only [Act.put, List.setIfInBounds_toArray, List.set_cons_zero, List.set_cons_succ]
            refine wpAnyH_take (i := 23) (oi := ⟨some 155, _, _, _, _, _⟩) (v := ?_) rfl (by kernel_rfl) (by kernel_rfl) (by kernel_rfl) (fun _ _ _ h => h) (Or.inl ⟨by kernel_rfl, ?_⟩) (by assumption) ?_
            rotate_left
            · intro w hSw
              go_simp
              try with_reducible rfl
            try simp only [Act.put, List.setIfInBounds_toArray, List.set_cons_zero, List.set_cons_succ]
            refine wpAnyH_take (i := 24) (oi := ⟨some 156, _, _, _, _, _⟩) (v := ?_) rfl (by kernel_rfl) (by kernel_rfl) (by kernel_rfl) (fun _ _ _ h => h) (Or.inl ⟨by kernel_rfl, ?_⟩) (by assumption) ?_
            rotate_left
            · intro w hSw
              go_simp
              try with_reducible rfl
            try simp only [Act.put, List.setIfInBounds_toArray, List.set_cons_zero, List.set_cons_succ]
            refine wpAnyH_take (i := 25) (oi := ⟨some 157, _, _, _, _, _⟩) (v := undef) rfl (by kernel_rfl) (by kernel_rfl) (by kernel_rfl) (fun _ _ _ h => h) (Or.inr ⟨by kernel_rfl, rfl⟩) (by assumption) ?_
            try simp only [Act.put, List.setIfInBounds_toArray, List.set_cons_zero, List.set_cons_succ]
            refine wpAnyH_take (i := 26) (oi := ⟨some 158, _, _, _, _, _⟩) (v := undef) rfl (by kernel_rfl) (by kernel_rfl) (by kernel_rfl) (fun _ _ _ h => h) (Or.inr ⟨by kernel_rfl, rfl⟩) (by assumption) ?_
            try simp only [Act.put, List.setIfInBounds_toArray, List.set_cons_zero, List.set_cons_succ]
            refine wpAnyH_take (i := 27) (oi := ⟨some 159, _, _, _, _, _⟩) (v := undef) rfl (by kernel_rfl) (by kernel_rfl) (by kernel_rfl) (fun _ _ _ h => h) (Or.inr ⟨by kernel_rfl, rfl⟩) (by assumption) ?_
            try simp only [Act.put, List.setIfInBounds_toArray, List.set_cons_zero, List.set_cons_succ]
            refine wpAnyH_take (i := 28) (oi := ⟨some 160, _, _, _, _, _⟩) (v := undef) rfl (by kernel_rfl) (by kernel_rfl) (by kernel_rfl) (fun _ _ _ h => h) (Or.inr ⟨by kernel_rfl, rfl⟩) (by assumption) ?_
            try simp only [Act.put, List.setIfInBounds_toArray, List.set_cons_zero, List.set_cons_succ]
            refine wpAnyH_take (i := 29) (oi := ⟨some 161, _, _, _, _, _⟩) (v := undef) rfl (by kernel_rfl) (by kernel_rfl) (by kernel_rfl) (fun _ _ _ h => h) (Or.inr ⟨by kernel_rfl, rfl⟩) (by assumption) ?_
            try simp only [Act.put, List.setIfInBounds_toArray, List.set_cons_zero, List.set_cons_succ]
            refine wpAnyH_take (i := 30) (oi := ⟨some 162, _, _, _, _, _⟩) (v := undef) rfl (by kernel_rfl) (by kernel_rfl) (by kernel_rfl) (fun _ _ _ h => h) (Or.inr ⟨by kernel_rfl, rfl⟩) (by assumption) ?_
            try simp only [Act.put, List.setIfInBounds_toArray, List.set_cons_zero, List.set_cons_succ]
            refine wpAnyH_take (i := 31) (oi := ⟨some 163, _, _, _, _, _⟩) (v := undef) rfl (by kernel_rfl) (by kernel_rfl) (by kernel_rfl) (fun _ _ _ h => h) (Or.inr ⟨by kernel_rfl, rfl⟩) (by assumption) ?_
            try simp only [Act.put, List.setIfInBounds_toArray, List.set_cons_zero, List.set_cons_succ]
            refine wpAnyH_take (i := 32) (oi := ⟨some 164, _, _, _, _, _⟩) (v := undef) rfl (by kernel_rfl) (by kernel_rfl) (by kernel_rfl) (fun _ _ _ h => h) (Or.inr ⟨by kernel_rfl, rfl⟩) (by assumption) ?_
            try simp only [Act.put, List.setIfInBounds_toArray, List.set_cons_zero, List.set_cons_succ]
            refine wpAnyH_take (i := 33) (oi := ⟨some 165, _, _, _, _, _⟩) (v := undef) rfl (by kernel_rfl) (by kernel_rfl) (by kernel_rfl) (fun _ _ _ h => h) (Or.inr ⟨by kernel_rfl, rfl⟩) (by assumption) ?_
            try simp only [Act.put, List.setIfInBounds_toArray, List.set_cons_zero, List.set_cons_succ]
            refine wpAnyH_take (i := 34) (oi := ⟨some 166, _, _, _, _, _⟩) (v := undef) rfl (by kernel_rfl) (by kernel_rfl) (by kernel_rfl) (fun _ _ _ h => h) (Or.inr ⟨by kernel_rfl, rfl⟩) (by assumption) ?_
            try simp only [Act.put, List.setIfInBounds_toArray, List.set_cons_zero, List.set_cons_succ]
            refine wpAnyH_take (i := 35) (oi := ⟨some 167, _, _, _, _, _⟩) (v := undef) rfl (by kernel_rfl) (by kernel_rfl) (by kernel_rfl) (fun _ _ _ h => h) (Or.inr ⟨by kernel_rfl, rfl⟩) (by assumption) ?_
            try simp only [Act.put, List.setIfInBounds_toArray, List.set_cons_zero, List.set_cons_succ]
            refine wpAnyH_take (i := 36) (oi := ⟨some 168, _, _, _, _, _⟩) (v := undef) rfl (by kernel_rfl) (by kernel_rfl) (by kernel_rfl) (fun _ _ _ h => h) (Or.inr ⟨by kernel_rfl, rfl⟩) (by assumption) ?_
            try simp only [Act.put, List.setIfInBounds_toArray, List.set_cons_zero, List.set_cons_succ]
            refine wpAnyH_take (i := 37) (oi := ⟨some 169, _, _, _, _, _⟩) (v := undef) rfl (by kernel_rfl) (by kernel_rfl) (by kernel_rfl) (fun _ _ _ h => h) (Or.inr ⟨by kernel_rfl, rfl⟩) (by assumption) ?_
            try simp only [Act.put, List.setIfInBounds_toArray, List.set_cons_zero, List.set_cons_succ]
            refine wpAnyH_take (i := 38) (oi := ⟨some 170, _, _, _, _, _⟩) (v := undef) rfl (by kernel_rfl) (by kernel_rfl) (by kernel_rfl) (fun _ _ _ h => h) (Or.inr ⟨by kernel_rfl, rfl⟩) (by assumption) ?_
            try simp only [Act.put, List.setIfInBounds_toArray, List.set_cons_zero, List.set_cons_succ]
            refine wpAnyH_take (i := 39) (oi := ⟨some 171, _, _, _, _, _⟩) (v := undef) rfl (by kernel_rfl) (by kernel_rfl) (by kernel_rfl) (fun _ _ _ h => h) (Or.inr ⟨by kernel_rfl, rfl⟩) (by assumption) ?_
            try simp only [Act.put, List.setIfInBounds_toArray, List.set_cons_zero, List.set_cons_succ]
            refine wpAnyH_take (i := 40) (oi := ⟨some 172, _, _, _, _, _⟩) (v := undef) rfl (by kernel_rfl) (by kernel_rfl) (by kernel_rfl) (fun _ _ _ h => h) (Or.inr ⟨by kernel_rfl, rfl⟩) (by assumption) ?_
            try simp only [Act.put, List.setIfInBounds_toArray, List.set_cons_zero, List.set_cons_succ]
            refine wpAnyH_take (i := 41) (oi := ⟨some 173, _, _, _, _, _⟩) (v := undef) rfl (by kernel_rfl) (by kernel_rfl) (by kernel_rfl) (fun _ _ _ h => h) (Or.inr ⟨by kernel_rfl, rfl⟩) (by assumption) ?_
            try simp only [Act.put, List.setIfInBounds_toArray, List.set_cons_zero, List.set_cons_succ]
            refine wpAnyH_take (i := 42) (oi := ⟨some 174, _, _, _, _, _⟩) (v := undef) rfl (by kernel_rfl) (by kernel_rfl) (by kernel_rfl) (fun _ _ _ h => h) (Or.inr ⟨by kernel_rfl, rfl⟩) (by assumption) ?_
            try simp only [Act.put, List.setIfInBounds_toArray, List.set_cons_zero, List.set_cons_succ]
            refine wpAnyH_take (i := 43) (oi := ⟨some 175, _, _, _, _, _⟩) (v := undef) rfl (by kernel_rfl) (by kernel_rfl) (by kernel_rfl) (fun _ _ _ h => h) (Or.inr ⟨by kernel_rfl, rfl⟩) (by assumption) ?_
            try simp only [Act.put, List.setIfInBounds_toArray, List.set_cons_zero, List.set_cons_succ]
            refine wpAnyH_take (i := 44) (oi := ⟨some 176, _, _, _, _, _⟩) (v := undef) rfl (by kernel_rfl) (by kernel_rfl) (by kernel_rfl) (fun _ _ _ h => h) (Or.inr ⟨by kernel_rfl, rfl⟩) (by assumption) ?_
            try simp only [Act.put, List.setIfInBounds_toArray, List.set_cons_zero, List.set_cons_succ]
            refine wpAnyH_take (i := 45) (oi := ⟨some 177, _, _, _, _, _⟩) (v := undef) rfl (by kernel_rfl) (by kernel_rfl) (by kernel_rfl) (fun _ _ _ h => h) (Or.inr ⟨by kernel_rfl, rfl⟩) (by assumption) ?_
            try simp only [Act.put, List.setIfInBounds_toArray, List.set_cons_zero, List.set_cons_succ]
            refine wpAnyH_take (i := 46) (oi := ⟨some 178, _, _, _, _, _⟩) (v := undef) rfl (by kernel_rfl) (by kernel_rfl) (by kernel_rfl) (fun _ _ _ h => h) (Or.inr ⟨by kernel_rfl, rfl⟩) (by assumption) ?_
            try simp only [Act.put, List.setIfInBounds_toArray, List.set_cons_zero, List.set_cons_succ]
            refine wpAnyH_take (i := 47) (oi := ⟨some 179, _, _, _, _, _⟩) (v := undef) rfl (by kernel_rfl) (by kernel_rfl) (by kernel_rfl) (fun _ _ _ h => h) (Or.inr ⟨by kernel_rfl, rfl⟩) (by assumption) ?_
            try simp only [Act.put, List.setIfInBounds_toArray, List.set_cons_zero, List.set_cons_succ]
            refine wpAnyH_take (i := 48) (oi := ⟨some 180, _, _, _, _, _⟩) (v := undef) rfl (by kernel_rfl) (by kernel_rfl) (by kernel_rfl) (fun _ _ _ h => h) (Or.inr ⟨by kernel_rfl, rfl⟩) (by assumption) ?_
            try simp only [Act.put, List.setIfInBounds_toArray, List.set_cons_zero, List.set_cons_succ]
            refine wpAnyH_take (i := 49) (oi := ⟨some 181, _, _, _, _, _⟩) (v := ?_) rfl (by kernel_rfl) (by kernel_rfl) (by kernel_rfl) (fun _ _ _ h => h) (Or.inl ⟨by kernel_rfl, ?_⟩) (by assumption) ?_
            rotate_left
            · intro w hSw
              go_simp
              try with_reducible rfl
            try simp only [Act.put, List.setIfInBounds_toArray, List.set_cons_zero, List.set_cons_succ]
            refine wpAnyH_done (by kernel_rfl) ?_ _
            go_wp2_with fail
            go_ret
            exact ⟨false, L2, rfl, B2.out, PM2.out, SM2.out, fun _ τ e => HNO.out (by trivial) τ (by have e' : Ty.one k (sub τ s) = .one k (sub τ s') := e; injection e'), fun h => (by cases h)⟩
          | true =>
            obtain ⟨θ, D2, mg, um, car, wf, few2, prs⟩ := HYES.out (by trivial)
            have MG := Lib.hid mg
            have UM := Lib.hid um
            have CAR := Lib.hid car
            have WFS := Lib.hid wf
            have FEW := Lib.hid few2
            have PRS := Lib.hid prs
            clear mg um car wf few2 prs
            have hHeld3 := HE2.out
            refine wpAnyH_take (i := 22) (oi := ⟨some 154, _, _, _, _, _⟩) (v := ?_) rfl (by kernel_rfl) (by kernel_rfl) (by kernel_rfl) (fun _ _ _ h => h) (Or.inl ⟨by kernel_rfl, ?_⟩) (by assumption) ?_
            rotate_left
            · intro w hSw
              go_simp
              try with_reducible rfl
            try simp only [Act.put, List.setIfInBounds_toArray, List.set_cons_zero, List.set_cons_succ]
            refine wpAnyH_take (i := 23) (oi := ⟨some 155, _, _, _, _, _⟩) (v := ?_) rfl (by kernel_rfl) (by kernel_rfl) (by kernel_rfl) (fun _ _ _ h => h) (Or.inl ⟨by kernel_rfl, ?_⟩) (by assumption) ?_
            rotate_left
            · intro w hSw
              go_simp
              try with_reducible rfl
            try simp only [Act.put, List.setIfInBounds_toArray, List.set_cons_zero, List.set_cons_succ]
            refine wpAnyH_take (i := 24) (oi := ⟨some 156, _, _, _, _, _⟩) (v := ?_) rfl (by kernel_rfl) (by kernel_rfl) (by kernel_rfl) (fun _ _ _ h => h) (Or.inl ⟨by kernel_rfl, ?_⟩) (by assumption) ?_
            rotate_left
            · intro w hSw
              go_simp
              try with_reducible rfl
            try simp only [Act.put, List.setIfInBounds_toArray, List.set_cons_zero, List.set_cons_succ]
            refine wpAnyH_take (i := 25) (oi := ⟨some 157, _, _, _, _, _⟩) (v := ?_) rfl (by kernel_rfl) (by kernel_rfl) (by kernel_rfl) (fun _ _ _ h => h) (Or.inl ⟨by kernel_rfl, ?_⟩) (by assumption) ?_
            rotate_left
            · intro w hSw
              go_simp
              try with_reducible rfl
            try simp only [Act.put, List.setIfInBounds_toArray, List.set_cons_zero, List.set_cons_succ]
            refine wpAnyH_take (i := 26) (oi := ⟨some 158, _, _, _, _, _⟩) (v := ?_) rfl (by kernel_rfl) (by kernel_rfl) (by kernel_rfl) (fun _ _ _ h => h) (Or.inl ⟨by kernel_rfl, ?_⟩) (by assumption) ?_
            rotate_left
            · intro w hSw
              go_simp
              try with_reducible rfl
            try simp only [Act.put, List.setIfInBounds_toArray, List.set_cons_zero, List.set_cons_succ]
            refine wpAnyH_take (i := 27) (oi := ⟨some 159, _, _, _, _, _⟩) (v := ?_) rfl (by kernel_rfl) (by kernel_rfl) (by kernel_rfl) (fun _ _ _ h => h) (Or.inl ⟨by kernel_rfl, ?_⟩) (by assumption) ?_
            rotate_left
            · intro w hSw
              go_simp
              try with_reducible rfl
            try simp only [Act.put, List.setIfInBounds_toArray, List.set_cons_zero, List.set_cons_succ]
            refine wpAnyH_take (i := 28) (oi := ⟨some 160, _, _, _, _, _⟩) (v := undef) rfl (by kernel_rfl) (by kernel_rfl) (by kernel_rfl) (fun _ _ _ h => h) (Or.inr ⟨by kernel_rfl, rfl⟩) (by assumption) ?_
            try simp only [Act.put, List.setIfInBounds_toArray, List.set_cons_zero, List.set_cons_succ]
            refine wpAnyH_take (i := 29) (oi := ⟨some 161, _, _, _, _, _⟩) (v := undef) rfl (by kernel_rfl) (by kernel_rfl) (by kernel_rfl) (fun _ _ _ h => h) (Or.inr ⟨by kernel_rfl, rfl⟩) (by assumption) ?_
            try simp only [Act.put, List.setIfInBounds_toArray, List.set_cons_zero, List.set_cons_succ]
            refine wpAnyH_take (i := 30) (oi := ⟨some 162, _, _, _, _, _⟩) (v := undef) rfl (by kernel_rfl) (by kernel_rfl) (by kernel_rfl) (fun _ _ _ h => h) (Or.inr ⟨by kernel_rfl, rfl⟩) (by assumption) ?_
            try simp only [Act.put, List.setIfInBounds_toArray, List.set_cons_zero, List.set_cons_succ]
            refine wpAnyH_take (i := 31) (oi := ⟨some 163, _, _, _, _, _⟩) (v := undef) rfl (by kernel_rfl) (by kernel_rfl) (by kernel_rfl) (fun _ _ _ h => h) (Or.inr ⟨by kernel_rfl, rfl⟩) (by assumption) ?_
            try simp only [Act.put, List.setIfInBounds_toArray, List.set_cons_zero, List.set_cons_succ]
            refine wpAnyH_take (i := 32) (oi := ⟨some 164, _, _, _, _, _⟩) (v := undef) rfl (by kernel_rfl) (by kernel_rfl) (by kernel_rfl) (fun _ _ _ h => h) (Or.inr ⟨by kernel_rfl, rfl⟩) (by assumption) ?_
            try simp only [Act.put, List.setIfInBounds_toArray, List.set_cons_zero, List.set_cons_succ]
            refine wpAnyH_take (i := 33) (oi := ⟨some 165, _, _, _, _, _⟩) (v := undef) rfl (by kernel_rfl) (by kernel_rfl) (by kernel_rfl) (fun _ _ _ h => h) (Or.inr ⟨by kernel_rfl, rfl⟩) (by assumption) ?_
            try simp only [Act.put, List.setIfInBounds_toArray, List.set_cons_zero, List.set_cons_succ]
            refine wpAnyH_take (i := 34) (oi := ⟨some 166, _, _, _, _, _⟩) (v := undef) rfl (by kernel_rfl) (by kernel_rfl) (by kernel_rfl) (fun _ _ _ h => h) (Or.inr ⟨by kernel_rfl, rfl⟩) (by assumption) ?_
            try simp only [Act.put, List.setIfInBounds_toArray, List.set_cons_zero, List.set_cons_succ]
            refine wpAnyH_take (i := 35) (oi := ⟨some 167, _, _, _, _, _⟩) (v := undef) rfl (by kernel_rfl) (by kernel_rfl) (by kernel_rfl) (fun _ _ _ h => h) (Or.inr ⟨by kernel_rfl, rfl⟩) (by assumption) ?_
            try simp only [Act.put, List.setIfInBounds_toArray, List.set_cons_zero, List.set_cons_succ]
            refine wpAnyH_take (i := 36) (oi := ⟨some 168, _, _, _, _, _⟩) (v := undef) rfl (by kernel_rfl) (by kernel_rfl) (by kernel_rfl) (fun _ _ _ h => h) (Or.inr ⟨by kernel_rfl, rfl⟩) (by assumption) ?_
            try simp only [Act.put, List.setIfInBounds_toArray, List.set_cons_zero, List.set_cons_succ]
            refine wpAnyH_take (i := 37) (oi := ⟨some 169, _, _, _, _, _⟩) (v := undef) rfl (by kernel_rfl) (by kernel_rfl) (by kernel_rfl) (fun _ _ _ h => h) (Or.inr ⟨by kernel_rfl, rfl⟩) (by assumption) ?_
            try simp only [Act.put, List.setIfInBounds_toArray, List.set_cons_zero, List.set_cons_succ]
            refine wpAnyH_take (i := 38) (oi := ⟨some 170, _, _, _, _, _⟩) (v := undef) rfl (by kernel_rfl) (by kernel_rfl) (by kernel_rfl) (fun _ _ _ h => h) (Or.inr ⟨by kernel_rfl, rfl⟩) (by assumption) ?_
            try simp only [Act.put, List.setIfInBounds_toArray, List.set_cons_zero, List.set_cons_succ]
            refine wpAnyH_take (i := 39) (oi := ⟨some 171, _, _, _, _, _⟩) (v := undef) rfl (by kernel_rfl) (by kernel_rfl) (by kernel_rfl) (fun _ _ _ h => h) (Or.inr ⟨by kernel_rfl, rfl⟩) (by assumption) ?_
            try simp only [Act.put, List.setIfInBounds_toArray, List.set_cons_zero, List.set_cons_succ]
            refine wpAnyH_take (i := 40) (oi := ⟨some 172, _, _, _, _, _⟩) (v := undef) rfl (by kernel_rfl) (by kernel_rfl) (by kernel_rfl) (fun _ _ _ h => h) (Or.inr ⟨by kernel_rfl, rfl⟩) (by assumption) ?_
            try simp only [Act.put, List.setIfInBounds_toArray, List.set_cons_zero, List.set_cons_succ]
            refine wpAnyH_take (i := 41) (oi := ⟨some 173, _, _, _, _, _⟩) (v := undef) rfl (by kernel_rfl) (by kernel_rfl) (by kernel_rfl) (fun _ _ _ h => h) (Or.inr ⟨by kernel_rfl, rfl⟩) (by assumption) ?_
            try simp only [Act.put, List.setIfInBounds_toArray, List.set_cons_zero, List.set_cons_succ]
            refine wpAnyH_take (i := 42) (oi := ⟨some 174, _, _, _, _, _⟩) (v := undef) rfl (by kernel_rfl) (by kernel_rfl) (by kernel_rfl) (fun _ _ _ h => h) (Or.inr ⟨by kernel_rfl, rfl⟩) (by assumption) ?_
            try simp only [Act.put, List.setIfInBounds_toArray, List.set_cons_zero, List.set_cons_succ]
            refine wpAnyH_take (i := 43) (oi := ⟨some 175, _, _, _, _, _⟩) (v := undef) rfl (by kernel_rfl) (by kernel_rfl) (by kernel_rfl) (fun _ _ _ h => h) (Or.inr ⟨by kernel_rfl, rfl⟩) (by assumption) ?_
            try simp only [Act.put, List.setIfInBounds_toArray, List.set_cons_zero, List.set_cons_succ]
            refine wpAnyH_take (i := 44) (oi := ⟨some 176, _, _, _, _, _⟩) (v := undef) rfl (by kernel_rfl) (by kernel_rfl) (by kernel_rfl) (fun _ _ _ h => h) (Or.inr ⟨by kernel_rfl, rfl⟩) (by assumption) ?_
            try simp only [Act.put, List.setIfInBounds_toArray, List.set_cons_zero, List.set_cons_succ]
            refine wpAnyH_take (i := 45) (oi := ⟨some 177, _, _, _, _, _⟩) (v := undef) rfl (by kernel_rfl) (by kernel_rfl) (by kernel_rfl) (fun _ _ _ h => h) (Or.inr ⟨by kernel_rfl, rfl⟩) (by assumption) ?_
            try simp only [Act.put, List.setIfInBounds_toArray, List.set_cons_zero, List.set_cons_succ]
            refine wpAnyH_take (i := 46) (oi := ⟨some 178, _, _, _, _, _⟩) (v := undef) rfl (by kernel_rfl) (by kernel_rfl) (by kernel_rfl) (fun _ _ _ h => h) (Or.inr ⟨by kernel_rfl, rfl⟩) (by assumption) ?_
            try simp only [Act.put, List.setIfInBounds_toArray, List.set_cons_zero, List.set_cons_succ]
            refine wpAnyH_take (i := 47) (oi := ⟨some 179, _, _, _, _, _⟩) (v := undef) rfl (by kernel_rfl) (by kernel_rfl) (by kernel_rfl) (fun _ _ _ h => h) (Or.inr ⟨by kernel_rfl, rfl⟩) (by assumption) ?_
            try simp only [Act.put, List.setIfInBounds_toArray, List.set_cons_zero, List.set_cons_succ]
            refine wpAnyH_take (i := 48) (oi := ⟨some 180, _, _, _, _, _⟩) (v := ?_) rfl (by kernel_rfl) (by kernel_rfl) (by kernel_rfl) (fun _ _ _ h => h) (Or.inl ⟨by kernel_rfl, ?_⟩) (by assumption) ?_
            rotate_left
            · intro w hSw
              go_simp
              try with_reducible rfl
            try simp only [Act.put, List.setIfInBounds_toArray, List.set_cons_zero, List.set_cons_succ]
            refine wpAnyH_take (i := 49) (oi := ⟨some 181, _, _, _, _, _⟩) (v := ?_) rfl (by kernel_rfl) (by kernel_rfl) (by kernel_rfl) (fun _ _ _ h => h) (Or.inl ⟨by kernel_rfl, ?_⟩) (by assumption) ?_
            rotate_left
            · intro w hSw
              go_simp
              try with_reducible rfl
            try simp only [Act.put, List.setIfInBounds_toArray, List.set_cons_zero, List.set_cons_succ]
            refine wpAnyH_done (by kernel_rfl) ?_ _
            clear hHeld3
            have HMX := Lib.hid (UM.out)
            have HBX := Lib.hid (show Below base W (w2) from B2.out)
            have HNX := Lib.hid (show (ra, rb) ∉ D2 from fun hm => by
              rcases PRS.out _ hm with h | ⟨U, v1, v2⟩
              · exact HNin.out h
              · have e := v1.fn (CAR.out _ _ DA.out)
                have := v2.size
                rw [e] at this
                simp only [sub, Ty.size] at this
                omega)
            have HOX := Lib.hid (show ∃ U, Den (nodes L2) (ra, rb).1 U ∧ Den (nodes L2) (ra, rb).2 U from ⟨_, CAR.out _ _ DA.out, by have h := CAR.out _ _ DB.out; rw [← (MG.out.one k).1] at h; exact h⟩)
            obtain ⟨AX, cX, x0, x1, x2, x3, x4⟩ := HMX.out.cell
            have X3 := Lib.hid x3
            have X4 := Lib.hid x4
            have xfew := HMX.out.few
            obtain ⟨i63, fi63, hz0, hz1, hz2⟩ := info_parts pair_info
            have H63 := Lib.hid (show i63.zero = some (.agg #[.int .i64 0, .int .i64 0]) ∧ i63.size = 2 ∧ i63.bytes = 16 from ⟨hz0, hz1, hz2⟩)
            have hxs : base ≤ (w2).heap.size := Nat.le_of_lt (Nat.lt_of_le_of_lt HMX.out.pool.pbb HMX.out.pool.lt)
            clear x3 x4 hz0 hz1 hz2
            go_upto_region 21 with fail
            go_wp2_with (at_builtin; refine wpList_append_any _ rfl (.tmp 185) (.tmp 189) 64 rfl base 63 i63 _ 2 16 Tryd.underlying64 fi63 H63.out.1 H63.out.2.1 H63.out.2.2 rfl (by omega) (.slice AX D2.length cX) D2.length (D2.flatMap pairC) rfl (own_next X4.out (below_new _ _)) ((w2).heap.size + 1) (some ⟨(w2).heap.size, 0, none⟩) 1 1 (pairC (ra, rb)) rfl (reads_pair (w2) (ra, rb) (w2).heap.size rfl) (pair_one (ra, rb)) (by unfold maxLen; omega) (by omega) (by rw [World.size_alloc]; omega) ?_; intro v1 w7 oA gA _; obtain ⟨A1, c1, rfl⟩ := own_form oA; obtain ⟨q0, q1, q2⟩ := grewD X3.out X4.out gA)
            have HOA := Lib.hid oA
            have HGA := Lib.hid gA
            clear oA gA q0 q1 q2
            go_ret
            obtain ⟨u1, u2⟩ := HMX.out.push HNX.out HOX.out X3.out X4.out HOA.out HGA.out
            refine ⟨true, L2, rfl, HBX.out.trans u2, u1.pool, SM2.out, fun h => (by cases h), fun _ => ⟨θ, D2 ++ [(ra, rb)], MG.out.one k, u1, CAR.out, WFS.out, FEW.out, fun p hp => ?_⟩⟩
            rcases List.mem_append.1 hp with hp | hp
            · rcases PRS.out p hp with h | ⟨U, v1, v2⟩
              · exact .inl h
              · exact .inr ⟨U, v1, .one k v2⟩
            · obtain rfl := List.mem_singleton.1 hp
              exact .inr ⟨_, CAR.out _ _ DA.out, .refl _⟩
        | two k s u =>
          obtain ⟨s', u', eT⟩ := two_eq WS.out WT.out HT.out HKT.out
          subst eT
          obtain ⟨h1, h2, e1, e3, y1, y2⟩ := HYC.out
          obtain ⟨g1, g2, e2, e4, z1, z2⟩ := HZC.out
          rw [e1] at a1
          rw [e2] at b1
          rw [e3] at a2
          rw [e4] at b2
          have E1 := Lib.hid e1
          have E2 := Lib.hid e2
          have E3 := Lib.hid e3
          have E4 := Lib.hid e4
          have Y2 := Lib.hid y2
          have Z2 := Lib.hid z2
          have hc := HST.out.fst base pb db (some ad) c L D h1 g1 s s' w1.drew (by have := HSz.out; simp only [Ty.size] at this; omega) (M1.out.drewN 1) y1 z1 WS.out.2.1 WT.out.2.1 VS.out.1 VT.out.1
          have HC := Lib.hid hc
          clear hc e1 e2 e3 e4 y1 z1 y2 z2
          simp only [kidsN]
          go_wp2_with fail
          refine wp_region_held_drew (S := (fun X : World => X.cell? ⟨pb, 0, none⟩ = some (.slice (some ad) L.length c) ∧ X.cell? ⟨(ad.add (ra * 5)).block, (ad.add (ra * 5)).off + 1, none⟩ = some (.int .i64 (h1 : Int)) ∧ X.cell? ⟨(ad.add (rb * 5)).block, (ad.add (rb * 5)).off + 1, none⟩ = some (.int .i64 (g1 : Int)) ∧ X.cell? ⟨(ad.add (ra * 5)).block, (ad.add (ra * 5)).off + 2, none⟩ = some (.int .i64 (h2 : Int)) ∧ X.cell? ⟨(ad.add (rb * 5)).block, (ad.add (rb * 5)).off + 2, none⟩ = some (.int .i64 (g2 : Int)))) (by kernel_rfl) ⟨p0, a1, b1, a2, b2⟩ (fun hHeld => ?_)
          refine wpAnyH_take (i := 0) (oi := ⟨some 132, _, _, _, _, _⟩) (v := ?_) rfl (by kernel_rfl) (by kernel_rfl) (by kernel_rfl) (fun _ _ _ h => h) (Or.inl ⟨by kernel_rfl, ?_⟩) (by assumption) ?_
          rotate_left
          · intro w hSw
            go_simp
            try with_reducible rfl
          try simp only [Act.put, List.setIfInBounds_toArray, List.set_cons_zero, List.set_cons_succ]
          refine wpAnyH_take (i := 1) (oi := ⟨some 133, _, _, _, _, _⟩) (v := ?_) rfl (by kernel_rfl) (by kernel_rfl) (by kernel_rfl) (fun _ _ _ h => h) (Or.inl ⟨by kernel_rfl, ?_⟩) (by assumption) ?_
          rotate_left
          · intro w hSw
            go_simp
            try with_reducible rfl
          try simp only [Act.put, List.setIfInBounds_toArray, List.set_cons_zero, List.set_cons_succ]
          refine wpAnyH_take (i := 2) (oi := ⟨some 134, _, _, _, _, _⟩) (v := ?_) rfl (by kernel_rfl) (by kernel_rfl) (by kernel_rfl) (fun _ _ _ h => h) (Or.inl ⟨by kernel_rfl, ?_⟩) (by assumption) ?_
          rotate_left
          · intro w hSw
            go_simp
            try with_reducible rfl
          try simp only [Act.put, List.setIfInBounds_toArray, List.set_cons_zero, List.set_cons_succ]
          refine wpAnyH_take (i := 3) (oi := ⟨some 135, _, _, _, _, _⟩) (v := ?_) rfl (by kernel_rfl) (by kernel_rfl) (by kernel_rfl) (fun _ _ _ h => h) (Or.inl ⟨by kernel_rfl, ?_⟩) (by assumption) ?_
          rotate_left
          · intro w hSw
            go_simp
            try with_reducible rfl
          try simp only [Act.put, List.setIfInBounds_toArray, List.set_cons_zero, List.set_cons_succ]
          refine wpAnyH_take (i := 4) (oi := ⟨some 136, _, _, _, _, _⟩) (v := ?_) rfl (by kernel_rfl) (by kernel_rfl) (by kernel_rfl) (fun _ _ _ h => h) (Or.inl ⟨by kernel_rfl, ?_⟩) (by assumption) ?_
          rotate_left
          · intro w hSw
            go_simp
            try with_reducible rfl
          try simp only [Act.put, List.setIfInBounds_toArray, List.set_cons_zero, List.set_cons_succ]
          refine wpAnyH_take (i := 5) (oi := ⟨some 137, _, _, _, _, _⟩) (v := ?_) rfl (by kernel_rfl) (by kernel_rfl) (by kernel_rfl) (fun _ _ _ h => h) (Or.inl ⟨by kernel_rfl, ?_⟩) (by assumption) ?_
          rotate_left
          · intro w hSw
            go_simp
            try with_reducible rfl
          try simp only [Act.put, List.setIfInBounds_toArray, List.set_cons_zero, List.set_cons_succ]
          refine wpAnyH_take (i := 6) (oi := ⟨some 138, _, _, _, _, _⟩) (v := ?_) rfl (by kernel_rfl) (by kernel_rfl) (by kernel_rfl) (fun _ _ _ h => h) (Or.inl ⟨by kernel_rfl, ?_⟩) (by assumption) ?_
          rotate_left
          · intro w hSw
            go_simp
            try with_reducible rfl
          try simp only [Act.put, List.setIfInBounds_toArray, List.set_cons_zero, List.set_cons_succ]
          refine wpAnyH_take (i := 7) (oi := ⟨some 139, _, _, _, _, _⟩) (v := ?_) rfl (by kernel_rfl) (by kernel_rfl) (by kernel_rfl) (fun _ _ _ h => h) (Or.inl ⟨by kernel_rfl, ?_⟩) (by assumption) ?_
          rotate_left
          · intro w hSw
            go_simp
            try with_reducible rfl
          try simp only [Act.put, List.setIfInBounds_toArray, List.set_cons_zero, List.set_cons_succ]
          refine wpAnyH_take (i := 8) (oi := ⟨some 140, _, _, _, _, _⟩) (v := ?_) rfl (by kernel_rfl) (by kernel_rfl) (by kernel_rfl) (fun _ _ _ h => h) (Or.inl ⟨by kernel_rfl, ?_⟩) (by assumption) ?_
          rotate_left
          · intro w hSw
            go_simp
            try with_reducible rfl
          try simp only [Act.put, List.setIfInBounds_toArray, List.set_cons_zero, List.set_cons_succ]
          refine wpAnyH_take (i := 9) (oi := ⟨some 141, _, _, _, _, _⟩) (v := ?_) rfl (by kernel_rfl) (by kernel_rfl) (by kernel_rfl) (fun _ _ _ h => h) (Or.inl ⟨by kernel_rfl, ?_⟩) (by assumption) ?_
          rotate_left
          · intro w hSw
            go_simp
            try with_reducible rfl
          try simp only [Act.put, List.setIfInBounds_toArray, List.set_cons_zero, List.set_cons_succ]
          refine wpAnyH_take (i := 10) (oi := ⟨some 142, _, _, _, _, _⟩) (v := ?_) rfl (by kernel_rfl) (by kernel_rfl) (by kernel_rfl) (fun _ _ _ h => h) (Or.inl ⟨by kernel_rfl, ?_⟩) (by assumption) ?_
          rotate_left
          · intro w hSw
            go_simp
            try with_reducible rfl
          try simp only [Act.put, List.setIfInBounds_toArray, List.set_cons_zero, List.set_cons_succ]
          refine wpAnyH_take (i := 11) (oi := ⟨some 143, _, _, _, _, _⟩) (v := ?_) rfl (by kernel_rfl) (by kernel_rfl) (by kernel_rfl) (fun _ _ _ h => h) (Or.inl ⟨by kernel_rfl, ?_⟩) (by assumption) ?_
          rotate_left
          · intro w hSw
            go_simp
            try with_reducible rfl
          try simp only [Act.put, List.setIfInBounds_toArray, List.set_cons_zero, List.set_cons_succ]
          refine wpAnyH_take (i := 12) (oi := ⟨some 144, _, _, _, _, _⟩) (v := ?_) rfl (by kernel_rfl) (by kernel_rfl) (by kernel_rfl) (fun _ _ _ h => h) (Or.inl ⟨by kernel_rfl, ?_⟩) (by assumption) ?_
          rotate_left
          · intro w hSw
            go_simp
            try with_reducible rfl
          try simp only [Act.put, List.setIfInBounds_toArray, List.set_cons_zero, List.set_cons_succ]
          refine wpAnyH_take (i := 13) (oi := ⟨some 145, _, _, _, _, _⟩) (v := ?_) rfl (by kernel_rfl) (by kernel_rfl) (by kernel_rfl) (fun _ _ _ h => h) (Or.inl ⟨by kernel_rfl, ?_⟩) (by assumption) ?_
          rotate_left
          · intro w hSw
            go_simp
            try with_reducible rfl
          try simp only [Act.put, List.setIfInBounds_toArray, List.set_cons_zero, List.set_cons_succ]
          refine wpAnyH_take (i := 14) (oi := ⟨some 146, _, _, _, _, _⟩) (v := ?_) rfl (by kernel_rfl) (by kernel_rfl) (by kernel_rfl) (fun _ _ _ h => h) (Or.inl ⟨by kernel_rfl, ?_⟩) (by assumption) ?_
          rotate_left
          · intro w hSw
            go_simp
            try with_reducible rfl
          try simp only [Act.put, List.setIfInBounds_toArray, List.set_cons_zero, List.set_cons_succ]
          refine wpAnyH_take (i := 15) (oi := ⟨some 147, _, _, _, _, _⟩) (v := ?_) rfl (by kernel_rfl) (by kernel_rfl) (by kernel_rfl) (fun _ _ _ h => h) (Or.inl ⟨by kernel_rfl, ?_⟩) (by assumption) ?_
          rotate_left
          · intro w hSw
            go_simp
            try with_reducible rfl
          try simp only [Act.put, List.setIfInBounds_toArray, List.set_cons_zero, List.set_cons_succ]
          refine wpAnyH_take (i := 16) (oi := ⟨some 148, _, _, _, _, _⟩) (v := ?_) rfl (by kernel_rfl) (by kernel_rfl) (by kernel_rfl) (fun _ _ _ h => h) (Or.inl ⟨by kernel_rfl, ?_⟩) (by assumption) ?_
          rotate_left
          · intro w hSw
            go_simp
            try with_reducible rfl
          try simp only [Act.put, List.setIfInBounds_toArray, List.set_cons_zero, List.set_cons_succ]
          refine wpAnyH_take (i := 17) (oi := ⟨some 149, _, _, _, _, _⟩) (v := ?_) rfl (by kernel_rfl) (by kernel_rfl) (by kernel_rfl) (fun _ _ _ h => h) (Or.inl ⟨by kernel_rfl, ?_⟩) (by assumption) ?_
          rotate_left
          · intro w hSw
            go_simp
            try with_reducible rfl
          try simp only [Act.put, List.setIfInBounds_toArray, List.set_cons_zero, List.set_cons_succ]
          refine wpAnyH_take (i := 18) (oi := ⟨some 150, _, _, _, _, _⟩) (v := ?_) rfl (by kernel_rfl) (by kernel_rfl) (by kernel_rfl) (fun _ _ _ h => h) (Or.inl ⟨by kernel_rfl, ?_⟩) (by assumption) ?_
          rotate_left
          · intro w hSw
            go_simp
            try with_reducible rfl
          try simp only [Act.put, List.setIfInBounds_toArray, List.set_cons_zero, List.set_cons_succ]
          refine wpAnyH_take (i := 19) (oi := ⟨some 151, _, _, _, _, _⟩) (v := ?_) rfl (by kernel_rfl) (by kernel_rfl) (by kernel_rfl) (fun _ _ _ h => h) (Or.inl ⟨by kernel_rfl, ?_⟩) (by assumption) ?_
          rotate_left
          · intro w hSw
            go_simp
            try with_reducible rfl
          try simp only [Act.put, List.setIfInBounds_toArray, List.set_cons_zero, List.set_cons_succ]
          refine wpAnyH_take (i := 20) (oi := ⟨some 152, _, _, _, _, _⟩) (v := ?_) rfl (by kernel_rfl) (by kernel_rfl) (by kernel_rfl) (fun _ _ _ h => h) (Or.inl ⟨by kernel_rfl, ?_⟩) (by assumption) ?_
          rotate_left
          · intro w hSw
            go_simp
            try with_reducible rfl
          try simp only [Act.put, List.setIfInBounds_toArray, List.set_cons_zero, List.set_cons_succ]
          refine wpAnyH_ready (rs := [21]) (by kernel_rfl) (by simp) ?_
          refine AllReadyH.cons (o := ⟨some 153, _, _, _, _, _⟩) rfl (fun K hK => ?_) AllReadyH.nil
          go_simp
          refine HC.out.mono ?_
          rintro e w2 ⟨r, L2, rfl, b2, pm2, sm2, hno, hyes⟩
          have B2 := Lib.hid (show Below base W w2 from (below_drewN B1.out 1).trans b2)
          have PM2 := Lib.hid pm2
          have SM2 := Lib.hid sm2
          have HNO := Lib.hid hno
          have HYES := Lib.hid hyes
          clear b2 pm2 sm2 hno hyes
          go_wp2_with fail
          refine hK.out _ _ ?_ (fun hHeld2 => ?_)
          · exact same_cells2 PM2.out SM2.out HY.out HZ.out E1.out E2.out E3.out E4.out
          clear hK K
          try simp only [Act.put, List.setIfInBounds_toArray, List.set_cons_zero, List.set_cons_succ]
          have HE2 := Lib.hid hHeld2
          clear hHeld hHeld2 HC
          cases r with
          | false =>
            have hHeld3 := HE2.out
            refine wpAnyH_take (i := 22) (oi := ⟨some 154, _, _, _, _, _⟩) (v := ?_) rfl (by kernel_rfl) (by kernel_rfl) (by kernel_rfl) (fun _ _ _ h => h) (Or.inl ⟨by kernel_rfl, ?_⟩) (by assumption) ?_
            rotate_left
            · intro w hSw
              go_simp
              try with_reducible rfl
            try simp only [Act.put, List.setIfInBounds_toArray, List.set_cons_zero, List.set_cons_succ]
            refine wpAnyH_take (i := 23) (oi := ⟨some 155, _, _, _, _, _⟩) (v := ?_) rfl (by kernel_rfl) (by kernel_rfl) (by kernel_rfl) (fun _ _ _ h => h) (Or.inl ⟨by kernel_rfl, ?_⟩) (by assumption) ?_
            rotate_left
            · intro w hSw
              go_simp
              try with_reducible rfl
            try simp only [Act.put, List.setIfInBounds_toArray, List.set_cons_zero, List.set_cons_succ]
            refine wpAnyH_take (i := 24) (oi := ⟨some 156, _, _, _, _, _⟩) (v := ?_) rfl (by kernel_rfl) (by kernel_rfl) (by kernel_rfl) (fun _ _ _ h => h) (Or.inl ⟨by kernel_rfl, ?_⟩) (by assumption) ?_
            rotate_left
            · intro w hSw
              go_simp
              try with_reducible rfl
            try simp only [Act.put, List.setIfInBounds_toArray, List.set_cons_zero, List.set_cons_succ]
            refine wpAnyH_take (i := 25) (oi := ⟨some 157, _, _, _, _, _⟩) (v := undef) rfl (by kernel_rfl) (by kernel_rfl) (by kernel_rfl) (fun _ _ _ h => h) (Or.inr ⟨by kernel_rfl, rfl⟩) (by assumption) ?_
            try simp only [Act.put, List.setIfInBounds_toArray, List.set_cons_zero, List.set_cons_succ]
            refine wpAnyH_take (i := 26) (oi := ⟨some 158, _, _, _, _, _⟩) (v := undef) rfl (by kernel_rfl) (by kernel_rfl) (by kernel_rfl) (fun _ _ _ h => h) (Or.inr ⟨by kernel_rfl, rfl⟩) (by assumption) ?_
            try simp only [Act.put, List.setIfInBounds_toArray, List.set_cons_zero, List.set_cons_succ]
            refine wpAnyH_take (i := 27) (oi := ⟨some 159, _, _, _, _, _⟩) (v := undef) rfl (by kernel_rfl) (by kernel_rfl) (by kernel_rfl) (fun _ _ _ h => h) (Or.inr ⟨by kernel_rfl, rfl⟩) (by assumption) ?_
            try simp only [Act.put, List.setIfInBounds_toArray, List.set_cons_zero, List.set_cons_succ]
            refine wpAnyH_take (i := 28) (oi := ⟨some 160, _, _, _, _, _⟩) (v := undef) rfl (by kernel_rfl) (by kernel_rfl) (by kernel_rfl) (fun _ _ _ h => h) (Or.inr ⟨by kernel_rfl, rfl⟩) (by assumption) ?_
            try simp only [Act.put, List.setIfInBounds_toArray, List.set_cons_zero, List.set_cons_succ]
            refine wpAnyH_take (i := 29) (oi := ⟨some 161, _, _, _, _, _⟩) (v := undef) rfl (by kernel_rfl) (by kernel_rfl) (by kernel_rfl) (fun _ _ _ h => h) (Or.inr ⟨by kernel_rfl, rfl⟩) (by assumption) ?_
            try simp only [Act.put, List.setIfInBounds_toArray, List.set_cons_zero, List.set_cons_succ]
            refine wpAnyH_take (i := 30) (oi := ⟨some 162, _, _, _, _, _⟩) (v := undef) rfl (by kernel_rfl) (by kernel_rfl) (by kernel_rfl) (fun _ _ _ h => h) (Or.inr ⟨by kernel_rfl, rfl⟩) (by assumption) ?_
            try simp only [Act.put, List.setIfInBounds_toArray, List.set_cons_zero, List.set_cons_succ]
            refine wpAnyH_take (i := 31) (oi := ⟨some 163, _, _, _, _, _⟩) (v := undef) rfl (by kernel_rfl) (by kernel_rfl) (by kernel_rfl) (fun _ _ _ h => h) (Or.inr ⟨by kernel_rfl, rfl⟩) (by assumption) ?_
            try simp only [Act.put, List.setIfInBounds_toArray, List.set_cons_zero, List.set_cons_succ]
            refine wpAnyH_take (i := 32) (oi := ⟨some 164, _, _, _, _, _⟩) (v := undef) rfl (by kernel_rfl) (by kernel_rfl) (by kernel_rfl) (fun _ _ _ h => h) (Or.inr ⟨by kernel_rfl, rfl⟩) (by assumption) ?_
            try simp only [Act.put, List.setIfInBounds_toArray, List.set_cons_zero, List.set_cons_succ]
            refine wpAnyH_take (i := 33) (oi := ⟨some 165, _, _, _, _, _⟩) (v := undef) rfl (by kernel_rfl) (by kernel_rfl) (by kernel_rfl) (fun _ _ _ h => h) (Or.inr ⟨by kernel_rfl, rfl⟩) (by assumption) ?_
            try simp only [Act.put, List.setIfInBounds_toArray, List.set_cons_zero, List.set_cons_succ]
            refine wpAnyH_take (i := 34) (oi := ⟨some 166, _, _, _, _, _⟩) (v := undef) rfl (by kernel_rfl) (by kernel_rfl) (by kernel_rfl) (fun _ _ _ h => h) (Or.inr ⟨by kernel_rfl, rfl⟩) (by assumption) ?_
            try simp only [Act.put, List.setIfInBounds_toArray, List.set_cons_zero, List.set_cons_succ]
            refine wpAnyH_take (i := 35) (oi := ⟨some 167, _, _, _, _, _⟩) (v := undef) rfl (by kernel_rfl) (by kernel_rfl) (by kernel_rfl) (fun _ _ _ h => h) (Or.inr ⟨by kernel_rfl, rfl⟩) (by assumption) ?_
            try simp only [Act.put, List.setIfInBounds_toArray, List.set_cons_zero, List.set_cons_succ]
            refine wpAnyH_take (i := 36) (oi := ⟨some 168, _, _, _, _, _⟩) (v := undef) rfl (by kernel_rfl) (by kernel_rfl) (by kernel_rfl) (fun _ _ _ h => h) (Or.inr ⟨by kernel_rfl, rfl⟩) (by assumption) ?_
            try simp only [Act.put, List.setIfInBounds_toArray, List.set_cons_zero, List.set_cons_succ]
            refine wpAnyH_take (i := 37) (oi := ⟨some 169, _, _, _, _, _⟩) (v := undef) rfl (by kernel_rfl) (by kernel_rfl) (by kernel_rfl) (fun _ _ _ h => h) (Or.inr ⟨by kernel_rfl, rfl⟩) (by assumption) ?_
            try simp only [Act.put, List.setIfInBounds_toArray, List.set_cons_zero, List.set_cons_succ]
            refine wpAnyH_take (i := 38) (oi := ⟨some 170, _, _, _, _, _⟩) (v := undef) rfl (by kernel_rfl) (by kernel_rfl) (by kernel_rfl) (fun _ _ _ h => h) (Or.inr ⟨by kernel_rfl, rfl⟩) (by assumption) ?_
            try simp only [Act.put, List.setIfInBounds_toArray, List.set_cons_zero, List.set_cons_succ]
            refine wpAnyH_take (i := 39) (oi := ⟨some 171, _, _, _, _, _⟩) (v := undef) rfl (by kernel_rfl) (by kernel_rfl) (by kernel_rfl) (fun _ _ _ h => h) (Or.inr ⟨by kernel_rfl, rfl⟩) (by assumption) ?_
            try simp only [Act.put, List.setIfInBounds_toArray, List.set_cons_zero, List.set_cons_succ]
            refine wpAnyH_take (i := 40) (oi := ⟨some 172, _, _, _, _, _⟩) (v := undef) rfl (by kernel_rfl) (by kernel_rfl) (by kernel_rfl) (fun _ _ _ h => h) (Or.inr ⟨by kernel_rfl, rfl⟩) (by assumption) ?_
            try simp only [Act.put, List.setIfInBounds_toArray, List.set_cons_zero, List.set_cons_succ]
            refine wpAnyH_take (i := 41) (oi := ⟨some 173, _, _, _, _, _⟩) (v := undef) rfl (by kernel_rfl) (by kernel_rfl) (by kernel_rfl) (fun _ _ _ h => h) (Or.inr ⟨by kernel_rfl, rfl⟩) (by assumption) ?_
            try simp only [Act.put, List.setIfInBounds_toArray, List.set_cons_zero, List.set_cons_succ]
            refine wpAnyH_take (i := 42) (oi := ⟨some 174, _, _, _, _, _⟩) (v := undef) rfl (by kernel_rfl) (by kernel_rfl) (by kernel_rfl) (fun _ _ _ h => h) (Or.inr ⟨by kernel_rfl, rfl⟩) (by assumption) ?_
            try simp only [Act.put, List.setIfInBounds_toArray, List.set_cons_zero, List.set_cons_succ]
            refine wpAnyH_take (i := 43) (oi := ⟨some 175, _, _, _, _, _⟩) (v := undef) rfl (by kernel_rfl) (by kernel_rfl) (by kernel_rfl) (fun _ _ _ h => h) (Or.inr ⟨by kernel_rfl, rfl⟩) (by assumption) ?_
            try simp only [Act.put, List.setIfInBounds_toArray, List.set_cons_zero, List.set_cons_succ]
            refine wpAnyH_take (i := 44) (oi := ⟨some 176, _, _, _, _, _⟩) (v := undef) rfl (by kernel_rfl) (by kernel_rfl) (by kernel_rfl) (fun _ _ _ h => h) (Or.inr ⟨by kernel_rfl, rfl⟩) (by assumption) ?_
            try simp only [Act.put, List.setIfInBounds_toArray, List.set_cons_zero, List.set_cons_succ]
            refine wpAnyH_take (i := 45) (oi := ⟨some 177, _, _, _, _, _⟩) (v := undef) rfl (by kernel_rfl) (by kernel_rfl) (by kernel_rfl) (fun _ _ _ h => h) (Or.inr ⟨by kernel_rfl, rfl⟩) (by assumption) ?_
            try simp only [Act.put, List.setIfInBounds_toArray, List.set_cons_zero, List.set_cons_succ]
            refine wpAnyH_take (i := 46) (oi := ⟨some 178, _, _, _, _, _⟩) (v := undef) rfl (by kernel_rfl) (by kernel_rfl) (by kernel_rfl) (fun _ _ _ h => h) (Or.inr ⟨by kernel_rfl, rfl⟩) (by assumption) ?_
            try simp only [Act.put, List.setIfInBounds_toArray, List.set_cons_zero, List.set_cons_succ]
            refine wpAnyH_take (i := 47) (oi := ⟨some 179, _, _, _, _, _⟩) (v := undef) rfl (by kernel_rfl) (by kernel_rfl) (by kernel_rfl) (fun _ _ _ h => h) (Or.inr ⟨by kernel_rfl, rfl⟩) (by assumption) ?_
            try simp only [Act.put, List.setIfInBounds_toArray, List.set_cons_zero, List.set_cons_succ]
            refine wpAnyH_take (i := 48) (oi := ⟨some 180, _, _, _, _, _⟩) (v := undef) rfl (by kernel_rfl) (by kernel_rfl) (by kernel_rfl) (fun _ _ _ h => h) (Or.inr ⟨by kernel_rfl, rfl⟩) (by assumption) ?_
            try simp only [Act.put, List.setIfInBounds_toArray, List.set_cons_zero, List.set_cons_succ]
            refine wpAnyH_take (i := 49) (oi := ⟨some 181, _, _, _, _, _⟩) (v := ?_) rfl (by kernel_rfl) (by kernel_rfl) (by kernel_rfl) (fun _ _ _ h => h) (Or.inl ⟨by kernel_rfl, ?_⟩) (by assumption) ?_
            rotate_left
            · intro w hSw
              go_simp
              try with_reducible rfl
            try simp only [Act.put, List.setIfInBounds_toArray, List.set_cons_zero, List.set_cons_succ]
            refine wpAnyH_done (by kernel_rfl) ?_ _
            go_wp2_with fail
            go_ret
            exact ⟨false, L2, rfl, B2.out, PM2.out, SM2.out, fun _ τ e => HNO.out (by trivial) τ (by have e' : Ty.two k (sub τ s) (sub τ u) = .two k (sub τ s') (sub τ u') := e; injection e'), fun h => (by cases h)⟩
          | true =>
            obtain ⟨θ, D2, mg, um, car, wf, few2, prs⟩ := HYES.out (by trivial)
            have MG := Lib.hid mg
            have UM := Lib.hid um
            have CAR := Lib.hid car
            have WFS := Lib.hid wf
            have PRS := Lib.hid prs
            have hc := HST.out base pb db (some ad) c L2 D2 θ h2 g2 u u' w2 few2 wf (by have := HSz.out; simp only [Ty.size] at this; omega) um (car _ _ Y2.out) (car _ _ Z2.out) WS.out.2.2 WT.out.2.2 VS.out.2 VT.out.2
            have HC := Lib.hid hc
            clear mg um car wf few2 prs hc
            have hHeld3 := HE2.out
            refine wpAnyH_take (i := 22) (oi := ⟨some 154, _, _, _, _, _⟩) (v := ?_) rfl (by kernel_rfl) (by kernel_rfl) (by kernel_rfl) (fun _ _ _ h => h) (Or.inl ⟨by kernel_rfl, ?_⟩) (by assumption) ?_
            rotate_left
            · intro w hSw
              go_simp
              try with_reducible rfl
            try simp only [Act.put, List.setIfInBounds_toArray, List.set_cons_zero, List.set_cons_succ]
            refine wpAnyH_take (i := 23) (oi := ⟨some 155, _, _, _, _, _⟩) (v := ?_) rfl (by kernel_rfl) (by kernel_rfl) (by kernel_rfl) (fun _ _ _ h => h) (Or.inl ⟨by kernel_rfl, ?_⟩) (by assumption) ?_
            rotate_left
            · intro w hSw
              go_simp
              try with_reducible rfl
            try simp only [Act.put, List.setIfInBounds_toArray, List.set_cons_zero, List.set_cons_succ]
            refine wpAnyH_take (i := 24) (oi := ⟨some 156, _, _, _, _, _⟩) (v := ?_) rfl (by kernel_rfl) (by kernel_rfl) (by kernel_rfl) (fun _ _ _ h => h) (Or.inl ⟨by kernel_rfl, ?_⟩) (by assumption) ?_
            rotate_left
            · intro w hSw
              go_simp
              try with_reducible rfl
            try simp only [Act.put, List.setIfInBounds_toArray, List.set_cons_zero, List.set_cons_succ]
            refine wpAnyH_take (i := 25) (oi := ⟨some 157, _, _, _, _, _⟩) (v := ?_) rfl (by kernel_rfl) (by kernel_rfl) (by kernel_rfl) (fun _ _ _ h => h) (Or.inl ⟨by kernel_rfl, ?_⟩) (by assumption) ?_
            rotate_left
            · intro w hSw
              go_simp
              try with_reducible rfl
            try simp only [Act.put, List.setIfInBounds_toArray, List.set_cons_zero, List.set_cons_succ]
            refine wpAnyH_take (i := 26) (oi := ⟨some 158, _, _, _, _, _⟩) (v := ?_) rfl (by kernel_rfl) (by kernel_rfl) (by kernel_rfl) (fun _ _ _ h => h) (Or.inl ⟨by kernel_rfl, ?_⟩) (by assumption) ?_
            rotate_left
            · intro w hSw
              go_simp
              try with_reducible rfl
            try simp only [Act.put, List.setIfInBounds_toArray, List.set_cons_zero, List.set_cons_succ]
            refine wpAnyH_take (i := 27) (oi := ⟨some 159, _, _, _, _, _⟩) (v := ?_) rfl (by kernel_rfl) (by kernel_rfl) (by kernel_rfl) (fun _ _ _ h => h) (Or.inl ⟨by kernel_rfl, ?_⟩) (by assumption) ?_
            rotate_left
            · intro w hSw
              go_simp
              try with_reducible rfl
            try simp only [Act.put, List.setIfInBounds_toArray, List.set_cons_zero, List.set_cons_succ]
            refine wpAnyH_take (i := 28) (oi := ⟨some 160, _, _, _, _, _⟩) (v := ?_) rfl (by kernel_rfl) (by kernel_rfl) (by kernel_rfl) (fun _ _ _ h => h) (Or.inl ⟨by kernel_rfl, ?_⟩) (by assumption) ?_
            rotate_left
            · intro w hSw
              go_simp
              try with_reducible rfl
            try simp only [Act.put, List.setIfInBounds_toArray, List.set_cons_zero, List.set_cons_succ]
            refine wpAnyH_take (i := 29) (oi := ⟨some 161, _, _, _, _, _⟩) (v := ?_) rfl (by kernel_rfl) (by kernel_rfl) (by kernel_rfl) (fun _ _ _ h => h) (Or.inl ⟨by kernel_rfl, ?_⟩) (by assumption) ?_
            rotate_left
            · intro w hSw
              go_simp
              try with_reducible rfl
            try simp only [Act.put, List.setIfInBounds_toArray, List.set_cons_zero, List.set_cons_succ]
            refine wpAnyH_take (i := 30) (oi := ⟨some 162, _, _, _, _, _⟩) (v := ?_) rfl (by kernel_rfl) (by kernel_rfl) (by kernel_rfl) (fun _ _ _ h => h) (Or.inl ⟨by kernel_rfl, ?_⟩) (by assumption) ?_
            rotate_left
            · intro w hSw
              go_simp
              try with_reducible rfl
            try simp only [Act.put, List.setIfInBounds_toArray, List.set_cons_zero, List.set_cons_succ]
            refine wpAnyH_take (i := 31) (oi := ⟨some 163, _, _, _, _, _⟩) (v := ?_) rfl (by kernel_rfl) (by kernel_rfl) (by kernel_rfl) (fun _ _ _ h => h) (Or.inl ⟨by kernel_rfl, ?_⟩) (by assumption) ?_
            rotate_left
            · intro w hSw
              go_simp
              try with_reducible rfl
            try simp only [Act.put, List.setIfInBounds_toArray, List.set_cons_zero, List.set_cons_succ]
            refine wpAnyH_take (i := 32) (oi := ⟨some 164, _, _, _, _, _⟩) (v := ?_) rfl (by kernel_rfl) (by kernel_rfl) (by kernel_rfl) (fun _ _ _ h => h) (Or.inl ⟨by kernel_rfl, ?_⟩) (by assumption) ?_
            rotate_left
            · intro w hSw
              go_simp
              try with_reducible rfl
            try simp only [Act.put, List.setIfInBounds_toArray, List.set_cons_zero, List.set_cons_succ]
            refine wpAnyH_take (i := 33) (oi := ⟨some 165, _, _, _, _, _⟩) (v := ?_) rfl (by kernel_rfl) (by kernel_rfl) (by kernel_rfl) (fun _ _ _ h => h) (Or.inl ⟨by kernel_rfl, ?_⟩) (by assumption) ?_
            rotate_left
            · intro w hSw
              go_simp
              try with_reducible rfl
            try simp only [Act.put, List.setIfInBounds_toArray, List.set_cons_zero, List.set_cons_succ]
            refine wpAnyH_take (i := 34) (oi := ⟨some 166, _, _, _, _, _⟩) (v := ?_) rfl (by kernel_rfl) (by kernel_rfl) (by kernel_rfl) (fun _ _ _ h => h) (Or.inl ⟨by kernel_rfl, ?_⟩) (by assumption) ?_
            rotate_left
            · intro w hSw
              go_simp
              try with_reducible rfl
            try simp only [Act.put, List.setIfInBounds_toArray, List.set_cons_zero, List.set_cons_succ]
            refine wpAnyH_take (i := 35) (oi := ⟨some 167, _, _, _, _, _⟩) (v := ?_) rfl (by kernel_rfl) (by kernel_rfl) (by kernel_rfl) (fun _ _ _ h => h) (Or.inl ⟨by kernel_rfl, ?_⟩) (by assumption) ?_
            rotate_left
            · intro w hSw
              go_simp
              try with_reducible rfl
            try simp only [Act.put, List.setIfInBounds_toArray, List.set_cons_zero, List.set_cons_succ]
            refine wpAnyH_take (i := 36) (oi := ⟨some 168, _, _, _, _, _⟩) (v := ?_) rfl (by kernel_rfl) (by kernel_rfl) (by kernel_rfl) (fun _ _ _ h => h) (Or.inl ⟨by kernel_rfl, ?_⟩) (by assumption) ?_
            rotate_left
            · intro w hSw
              go_simp
              try with_reducible rfl
            try simp only [Act.put, List.setIfInBounds_toArray, List.set_cons_zero, List.set_cons_succ]
            refine wpAnyH_take (i := 37) (oi := ⟨some 169, _, _, _, _, _⟩) (v := ?_) rfl (by kernel_rfl) (by kernel_rfl) (by kernel_rfl) (fun _ _ _ h => h) (Or.inl ⟨by kernel_rfl, ?_⟩) (by assumption) ?_
            rotate_left
            · intro w hSw
              go_simp
              try with_reducible rfl
            try simp only [Act.put, List.setIfInBounds_toArray, List.set_cons_zero, List.set_cons_succ]
            refine wpAnyH_take (i := 38) (oi := ⟨some 170, _, _, _, _, _⟩) (v := ?_) rfl (by kernel_rfl) (by kernel_rfl) (by kernel_rfl) (fun _ _ _ h => h) (Or.inl ⟨by kernel_rfl, ?_⟩) (by assumption) ?_
            rotate_left
            · intro w hSw
              go_simp
              try with_reducible rfl
            try simp only [Act.put, List.setIfInBounds_toArray, List.set_cons_zero, List.set_cons_succ]
            refine wpAnyH_take (i := 39) (oi := ⟨some 171, _, _, _, _, _⟩) (v := ?_) rfl (by kernel_rfl) (by kernel_rfl) (by kernel_rfl) (fun _ _ _ h => h) (Or.inl ⟨by kernel_rfl, ?_⟩) (by assumption) ?_
            rotate_left
            · intro w hSw
              go_simp
              try with_reducible rfl
            try simp only [Act.put, List.setIfInBounds_toArray, List.set_cons_zero, List.set_cons_succ]
            refine wpAnyH_take (i := 40) (oi := ⟨some 172, _, _, _, _, _⟩) (v := ?_) rfl (by kernel_rfl) (by kernel_rfl) (by kernel_rfl) (fun _ _ _ h => h) (Or.inl ⟨by kernel_rfl, ?_⟩) (by assumption) ?_
            rotate_left
            · intro w hSw
              go_simp
              try with_reducible rfl
            try simp only [Act.put, List.setIfInBounds_toArray, List.set_cons_zero, List.set_cons_succ]
            refine wpAnyH_take (i := 41) (oi := ⟨some 173, _, _, _, _, _⟩) (v := ?_) rfl (by kernel_rfl) (by kernel_rfl) (by kernel_rfl) (fun _ _ _ h => h) (Or.inl ⟨by kernel_rfl, ?_⟩) (by assumption) ?_
            rotate_left
            · intro w hSw
              go_simp
              try with_reducible rfl
            try simp only [Act.put, List.setIfInBounds_toArray, List.set_cons_zero, List.set_cons_succ]
            refine wpAnyH_take (i := 42) (oi := ⟨some 174, _, _, _, _, _⟩) (v := ?_) rfl (by kernel_rfl) (by kernel_rfl) (by kernel_rfl) (fun _ _ _ h => h) (Or.inl ⟨by kernel_rfl, ?_⟩) (by assumption) ?_
            rotate_left
            · intro w hSw
              go_simp
              try with_reducible rfl
            try simp only [Act.put, List.setIfInBounds_toArray, List.set_cons_zero, List.set_cons_succ]
            refine wpAnyH_take (i := 43) (oi := ⟨some 175, _, _, _, _, _⟩) (v := ?_) rfl (by kernel_rfl) (by kernel_rfl) (by kernel_rfl) (fun _ _ _ h => h) (Or.inl ⟨by kernel_rfl, ?_⟩) (by assumption) ?_
            rotate_left
            · intro w hSw
              go_simp
              try with_reducible rfl
            try simp only [Act.put, List.setIfInBounds_toArray, List.set_cons_zero, List.set_cons_succ]
            refine wpAnyH_take (i := 44) (oi := ⟨some 176, _, _, _, _, _⟩) (v := ?_) rfl (by kernel_rfl) (by kernel_rfl) (by kernel_rfl) (fun _ _ _ h => h) (Or.inl ⟨by kernel_rfl, ?_⟩) (by assumption) ?_
            rotate_left
            · intro w hSw
              go_simp
              try with_reducible rfl
            try simp only [Act.put, List.setIfInBounds_toArray, List.set_cons_zero, List.set_cons_succ]
            refine wpAnyH_take (i := 45) (oi := ⟨some 177, _, _, _, _, _⟩) (v := ?_) rfl (by kernel_rfl) (by kernel_rfl) (by kernel_rfl) (fun _ _ _ h => h) (Or.inl ⟨by kernel_rfl, ?_⟩) (by assumption) ?_
            rotate_left
            · intro w hSw
              go_simp
              try with_reducible rfl
            try simp only [Act.put, List.setIfInBounds_toArray, List.set_cons_zero, List.set_cons_succ]
            refine wpAnyH_ready (rs := [46]) (by kernel_rfl) (by simp) ?_
            refine AllReadyH.cons (o := ⟨some 178, _, _, _, _, _⟩) rfl (fun K hK => ?_) AllReadyH.nil
            go_simp
            refine HC.out.mono ?_
            rintro e w3 ⟨r, L3, rfl, b3, pm3, sm3, hno, hyes⟩
            have B3 := Lib.hid (show Below base W w3 from B2.out.trans b3)
            have PM3 := Lib.hid pm3
            have SM3 := Lib.hid (SM2.out.trans sm3)
            have HNO3 := Lib.hid hno
            have HYES3 := Lib.hid hyes
            clear b3 pm3 sm3 hno hyes
            go_wp2_with fail
            refine hK.out _ _ ?_ (fun hHeld2 => ?_)
            · exact same_cells2 PM3.out SM3.out HY.out HZ.out E1.out E2.out E3.out E4.out
            clear hK K
            try simp only [Act.put, List.setIfInBounds_toArray, List.set_cons_zero, List.set_cons_succ]
            have HE3 := Lib.hid hHeld2
            clear hHeld3 hHeld2 HC
            cases r with
            | false =>
              have hHeld3 := HE3.out
              refine wpAnyH_take (i := 47) (oi := ⟨some 179, _, _, _, _, _⟩) (v := ?_) rfl (by kernel_rfl) (by kernel_rfl) (by kernel_rfl) (fun _ _ _ h => h) (Or.inl ⟨by kernel_rfl, ?_⟩) (by assumption) ?_
              rotate_left
              · intro w hSw
                go_simp
                try with_reducible rfl
              try simp only [Act.put, List.setIfInBounds_toArray, List.set_cons_zero, List.set_cons_succ]
              refine wpAnyH_take (i := 48) (oi := ⟨some 180, _, _, _, _, _⟩) (v := ?_) rfl (by kernel_rfl) (by kernel_rfl) (by kernel_rfl) (fun _ _ _ h => h) (Or.inl ⟨by kernel_rfl, ?_⟩) (by assumption) ?_
              rotate_left
              · intro w hSw
                go_simp
                try with_reducible rfl
              try simp only [Act.put, List.setIfInBounds_toArray, List.set_cons_zero, List.set_cons_succ]
              refine wpAnyH_take (i := 49) (oi := ⟨some 181, _, _, _, _, _⟩) (v := ?_) rfl (by kernel_rfl) (by kernel_rfl) (by kernel_rfl) (fun _ _ _ h => h) (Or.inl ⟨by kernel_rfl, ?_⟩) (by assumption) ?_
              rotate_left
              · intro w hSw
                go_simp
                try with_reducible rfl
              try simp only [Act.put, List.setIfInBounds_toArray, List.set_cons_zero, List.set_cons_succ]
              refine wpAnyH_done (by kernel_rfl) ?_ _
              go_wp2_with fail
              go_ret
              exact ⟨false, L3, rfl, B3.out, PM3.out, SM3.out, fun _ τ => no_two MG.out (HNO3.out (by trivial)) k k τ, fun h => (by cases h)⟩
            | true =>
              obtain ⟨θ', D3, mg, um, car, wf, few2, prs⟩ := HYES3.out (by trivial)
              have MG3 := Lib.hid mg
              have UM3 := Lib.hid um
              have CAR3 := Lib.hid (CAR.out.trans car)
              have CR3 := Lib.hid car
              have WFS3 := Lib.hid (WFS.out.comp wf)
              have FEW3 := Lib.hid few2
              have PRS3 := Lib.hid prs
              clear mg um car wf few2 prs
              have hHeld3 := HE3.out
              refine wpAnyH_take (i := 47) (oi := ⟨some 179, _, _, _, _, _⟩) (v := ?_) rfl (by kernel_rfl) (by kernel_rfl) (by kernel_rfl) (fun _ _ _ h => h) (Or.inl ⟨by kernel_rfl, ?_⟩) (by assumption) ?_
              rotate_left
              · intro w hSw
                go_simp
                try with_reducible rfl
              try simp only [Act.put, List.setIfInBounds_toArray, List.set_cons_zero, List.set_cons_succ]
              refine wpAnyH_take (i := 48) (oi := ⟨some 180, _, _, _, _, _⟩) (v := ?_) rfl (by kernel_rfl) (by kernel_rfl) (by kernel_rfl) (fun _ _ _ h => h) (Or.inl ⟨by kernel_rfl, ?_⟩) (by assumption) ?_
              rotate_left
              · intro w hSw
                go_simp
                try with_reducible rfl
              try simp only [Act.put, List.setIfInBounds_toArray, List.set_cons_zero, List.set_cons_succ]
              refine wpAnyH_take (i := 49) (oi := ⟨some 181, _, _, _, _, _⟩) (v := ?_) rfl (by kernel_rfl) (by kernel_rfl) (by kernel_rfl) (fun _ _ _ h => h) (Or.inl ⟨by kernel_rfl, ?_⟩) (by assumption) ?_
              rotate_left
              · intro w hSw
                go_simp
                try with_reducible rfl
              try simp only [Act.put, List.setIfInBounds_toArray, List.set_cons_zero, List.set_cons_succ]
              refine wpAnyH_done (by kernel_rfl) ?_ _
              clear hHeld3
              have HPR := Lib.hid (show ∀ p ∈ D3, p ∈ D ∨ ∃ X, Den (nodes L3) p.1 X ∧ (SubT X (sub (fun n => sub θ' (θ n)) s) ∨ SubT X (sub (fun n => sub θ' (θ n)) u)) from fun p hp => by
                rcases PRS3.out p hp with h | ⟨X, v1, v2⟩
                · rcases PRS.out p h with h | ⟨X, v1, v2⟩
                  · exact .inl h
                  · refine .inr ⟨_, CR3.out _ _ v1, .inl ?_⟩
                    rw [← sub_sub]
                    exact v2.sub_ θ'
                · refine .inr ⟨X, v1, .inr ?_⟩
                  rw [← sub_sub]
                  exact v2)
              have HMX := Lib.hid (UM3.out)
              have HBX := Lib.hid (show Below base W (w3) from B3.out)
              have HNX := Lib.hid (show (ra, rb) ∉ D3 from fun hm => by
                rcases HPR.out _ hm with h | ⟨X, v1, v2⟩
                · exact HNin.out h
                · have e := v1.fn (CAR3.out _ _ DA.out)
                  have hsz : X.size ≤ (sub (fun n => sub θ' (θ n)) s).size ∨ X.size ≤ (sub (fun n => sub θ' (θ n)) u).size := v2.imp SubT.size SubT.size
                  rw [e] at hsz
                  simp only [sub, Ty.size] at hsz
                  omega)
              have HOX := Lib.hid (show ∃ U, Den (nodes L3) (ra, rb).1 U ∧ Den (nodes L3) (ra, rb).2 U from ⟨_, CAR3.out _ _ DA.out, by have h := CAR3.out _ _ DB.out; rw [← (MG.out.two MG3.out k).1] at h; exact h⟩)
              obtain ⟨AX, cX, x0, x1, x2, x3, x4⟩ := HMX.out.cell
              have X3 := Lib.hid x3
              have X4 := Lib.hid x4
              have xfew := HMX.out.few
              obtain ⟨i63, fi63, hz0, hz1, hz2⟩ := info_parts pair_info
              have H63 := Lib.hid (show i63.zero = some (.agg #[.int .i64 0, .int .i64 0]) ∧ i63.size = 2 ∧ i63.bytes = 16 from ⟨hz0, hz1, hz2⟩)
              have hxs : base ≤ (w3).heap.size := Nat.le_of_lt (Nat.lt_of_le_of_lt HMX.out.pool.pbb HMX.out.pool.lt)
              clear x3 x4 hz0 hz1 hz2
              go_upto_region 21 with fail
              go_wp2_with (at_builtin; refine wpList_append_any _ rfl (.tmp 185) (.tmp 189) 64 rfl base 63 i63 _ 2 16 Tryd.underlying64 fi63 H63.out.1 H63.out.2.1 H63.out.2.2 rfl (by omega) (.slice AX D3.length cX) D3.length (D3.flatMap pairC) rfl (own_next X4.out (below_new _ _)) ((w3).heap.size + 1) (some ⟨(w3).heap.size, 0, none⟩) 1 1 (pairC (ra, rb)) rfl (reads_pair (w3) (ra, rb) (w3).heap.size rfl) (pair_one (ra, rb)) (by unfold maxLen; omega) (by omega) (by rw [World.size_alloc]; omega) ?_; intro v1 w7 oA gA _; obtain ⟨A1, c1, rfl⟩ := own_form oA; obtain ⟨q0, q1, q2⟩ := grewD X3.out X4.out gA)
              have HOA := Lib.hid oA
              have HGA := Lib.hid gA
              clear oA gA q0 q1 q2
              go_ret
              obtain ⟨u1, u2⟩ := HMX.out.push HNX.out HOX.out X3.out X4.out HOA.out HGA.out
              refine ⟨true, L3, rfl, HBX.out.trans u2, u1.pool, SM3.out, fun h => (by cases h), fun _ => ⟨fun n => sub θ' (θ n), D3 ++ [(ra, rb)], MG.out.two MG3.out k, u1, CAR3.out, WFS3.out, FEW3.out, fun p hp => ?_⟩⟩
              rcases List.mem_append.1 hp with hp | hp
              · rcases HPR.out p hp with h | ⟨X, v1, v2 | v2⟩
                · exact .inl h
                · exact .inr ⟨X, v1, .left k _ v2⟩
                · exact .inr ⟨X, v1, .right k _ v2⟩
              · obtain rfl := List.mem_singleton.1 hp
                exact .inr ⟨_, CAR3.out _ _ DA.out, .refl _⟩
      · have HNo := Lib.hid (fun τ => no_head HS.out HT.out (show S.kind ≠ T.kind ∨ S.text ≠ T.text by
          by_cases h1 : S.kind = T.kind
          · exact .inr fun h2 => hkt ⟨h1, h2⟩
          · exact .inl h1) τ)
        by_cases hk1 : S.kind = T.kind
        · have fk : (S.kind != T.kind) = false := bne_eq_false_iff_eq.2 hk1
          have f2 : (S.text == T.text) = false := beq_false_of_ne fun h => hkt ⟨hk1, h⟩
          clear hkt hk1
          go_wp2_with fail
          go_quiet (fail)
          go_wp2_with fail
          go_ret
          exact ⟨false, L, rfl, below_drewN (Below.refl _ _) _, HM.out.pool.drewN _, Same.refl L, fun _ τ => HNo.out τ, fun h => (by cases h)⟩
        · have fk : (S.kind != T.kind) = true := bne_iff_ne.2 hk1
          clear hkt hk1
          go_wp2_with fail
          go_quiet (fail)
          go_wp2_with fail
          go_ret
          exact ⟨false, L, rfl, below_drewN (Below.refl _ _) _, HM.out.pool.drewN _, Same.refl L, fun _ τ => HNo.out τ, fun h => (by cases h)⟩
end Go.Proofs.YtcilodgpbdafeaaDoor
