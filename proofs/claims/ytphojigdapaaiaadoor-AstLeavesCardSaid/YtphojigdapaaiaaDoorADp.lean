/- ast.Deep. -/
import Derived.Test.YtphojigdapaaiaaDoorAKi
import Derived.Test.YtphojigdapaaiaaDoorAR7
namespace Go.Proofs.YtphojigdapaaiaaDoor
open Go.ChangeShapes Go.WideShapes Go.ChangeAt Go.RowKit
set_option linter.unusedVariables false
set_option linter.unusedSimpArgs false
def mx (x y : Int) : Int := if y > x then y else x
theorem run_max (x y : Int) (w : World) : (Builtin.max_ #[3, 3] 3 #[.int .i64 x, .int .i64 y]).run Tryd.prog w = .ok (.int .i64 (mx x y)) w := by
  simp [Builtin.max_, List.foldlM_cons, List.foldlM_nil, Builtin.max2, mx]
def moreL (x : Nod) (c : Int) : Int := if x.k = 19 ∧ c = x.c then 0 else 1
/-- What a child more makes of the depths. -/
def dstep (x : Nod) (k : Nat) (ds : List Int) (c : Int) : List Int := ds.set k (mx (ds.getD k 0) (wrap64 (ds.getD c.toNat 0 + moreL x c)))
def dfold (x : Nod) (k : Nat) (ds : List Int) (l : List Int) : List Int := l.foldl (dstep x k) ds
theorem dfold_snoc (x : Nod) (k : Nat) (ds l : List Int) (c : Int) : dfold x k ds (l ++ [c]) = dstep x k (dfold x k ds l) c := by unfold dfold; rw [List.foldl_append]; rfl
theorem dfold_len (x : Nod) (k : Nat) (l : List Int) : ∀ ds, (dfold x k ds l).length = ds.length := by
  induction l with
  | nil => intro ds; rfl
  | cons c l ih => intro ds; show (dfold x k (dstep x k ds c) l).length = _; rw [ih]; simp [dstep]
/-- The depths behind k nodes. -/
def deepK (t : Tre) : Nat → List Int
  | 0 => List.replicate t.l.length 0
  | k + 1 => match t.l[k]? with | some x => dfold x k ((deepK t k).set k 1) (kidsL x) | none => deepK t k
theorem deepK_len (t : Tre) (k : Nat) : (deepK t k).length = t.l.length := by
  induction k with
  | zero => simp [deepK]
  | succ k ih =>
    unfold deepK
    split
    · rw [dfold_len, List.length_set, ih]
    · exact ih
def deepL (t : Tre) : Int := (deepK t t.l.length).getD t.r.toNat 0
def DeepEnd (t : Tre) (w : World) (e : Ending) (w' : World) : Prop := ∃ v : Int, e = .returned (.int .i64 v) ∧ Below w.heap.size w w' ∧ (¬ GoodN t → v = 0) ∧ (GoodN t → SureAll t → v = deepL t)
theorem kid1_lt {t : Tre} {is at_ : Int} {me : Nat} (h : childL t is at_ me = true) : ∀ c ∈ kid1 is at_, 0 ≤ c ∧ c < me := by
  intro c hc
  unfold kid1 at hc
  split at hc
  case isFalse => cases hc
  case isTrue h1 =>
    obtain rfl := List.mem_singleton.1 hc
    unfold childL at h
    rw [if_neg h1.1, if_neg (by omega)] at h
    split at h
    case isTrue h2 => exact h2
    case isFalse => cases h
theorem kids_lt {t : Tre} {x : Nod} {me : Nat} (h : okK t (ofL x).1 x me 3) : ∀ c ∈ kidsL x, 0 ≤ c ∧ c < me := by
  intro c hc
  unfold kidsL at hc
  simp only [kidTo, List.mem_append] at hc
  obtain ⟨h1, h2, h3⟩ := h
  rcases hc with (hc | hc) | hc
  · exact kid1_lt h1 c hc
  · exact kid1_lt h2 c hc
  · exact kid1_lt h3 c hc
theorem OwnedIs.put_ {W0 w : World} {pb n : Nat} {ps : List Int} (h : OwnedIs W0 w pb n ps) (a : Nat) (v : Int) : OwnedIs W0 (w.setCell ⟨pb, a, none⟩ (.int .i64 v)) pb n (ps.set a v) := by
  refine ⟨?_, by rw [List.length_set]; exact h.len, h.le, h.low.setCell (p := ⟨pb, a, none⟩) h.le _⟩
  have h1 := h.cnt.set_ a (.int .i64 v)
  rw [List.setIfInBounds_toArray] at h1
  rw [List.map_set]
  exact h1
theorem OwnedIs.get {W0 w : World} {pb n : Nat} {ps : List Int} (h : OwnedIs W0 w pb n ps) {a : Nat} (ha : a < n) : w.cell? ⟨pb, a, none⟩ = some (.int .i64 (ps.getD a 0)) := by
  have hl : a < ps.length := by rw [h.len]; exact ha
  rw [h.cnt.cell a]
  simp [intV, List.getElem?_eq_getElem hl, List.getD_eq_getElem?_getD]
set_option maxRecDepth 100000 in
set_option maxHeartbeats 16000000 in
theorem c12 (t : Tre) (A A' : Option Addr) (c c' : Nat) (w : World) (hT : TreIs w A A' t) (hS : Tabs w) (hl : t.l.length ≤ 281474976710656) (hy : t.y.length ≤ 281474976710656) (hx : ∀ p ∈ t.l, p.t.length ≤ 281474976710656 ∧ p.t2.length ≤ 281474976710656) :
    Calls Tryd.prog 12 #[treV A c A' c' t] w (DeepEnd t w) := by
  show Calls Tryd.prog 12 #[.agg #[.slice A t.l.length c, .slice A' t.y.length c', .int .i64 t.r]] w _
  have hX := Blk.new w 25 #[.slice A t.l.length c, .slice A' t.y.length c', .int .i64 t.r]
  have hb0 := below_new w (.cells #[.slice A t.l.length c, .slice A' t.y.length c', .int .i64 t.r] 25)
  have HT := Lib.hid (hT.next hb0)
  have HS := Lib.hid (hS.next hb0)
  have HB := Lib.hid hb0
  generalize hw1 : w.alloc (.cells #[.slice A t.l.length c, .slice A' t.y.length c', .int .i64 t.r] 25) = w1 at hX HB HS HT
  have HX := Lib.hid hX
  clear hX hb0 hT hS
  go_enter Tryd.func12, Tryd.ntmps12
  go_upto_region 1 with fail
  clear hw1
  generalize w.heap.size = xb at HX ⊢
  have x0 : w1.cell? ⟨xb, 0, none⟩ = some (.slice A t.l.length c) := HX.out.cell 0
  have x1 : w1.cell? ⟨xb, 1, none⟩ = some (.slice A' t.y.length c') := HX.out.cell 1
  have x2 : w1.cell? ⟨xb, 2, none⟩ = some (.int .i64 t.r) := HX.out.cell 2
  have HC := Lib.hid (c10 t A A' c c' w1 HT.out HS.out hl hy hx)
  clear hx
  go_wp2_with fail
  refine HC.out.mono ?_
  rintro e w2 ⟨b, rfl, hb2, hb3, hb4⟩
  have HT2 := Lib.hid (HT.out.next hb2)
  have HS2 := Lib.hid (HS.out.next hb2)
  have HX2 := Lib.hid (HX.out.next hb2)
  have HB2 := Lib.hid (next_ HB.out hb2)
  have H3 := Lib.hid hb3
  have H4 := Lib.hid hb4
  clear hb2 hb3 hb4 HC x0 x1 x2
  cases b with
  | false =>
    go_wp2_with fail
    go_ret
    exact ⟨0, rfl, HB2.out, fun _ => rfl, fun g s => absurd (H4.out g s) (by decide)⟩
  | true =>
  have HG := Lib.hid (H3.out rfl)
  have hn500 := HG.out.n2
  have hn1 := HG.out.n1
  clear H3 H4 HT HS HX HB
  have x0 : w2.cell? ⟨xb, 0, none⟩ = some (.slice A t.l.length c) := HX2.out.cell 0
  have hmk := run_ints t.l.length (by omega) w2
  have hP := Blk.new w2 3 ((List.replicate t.l.length (0 : Int)).map intV).toArray
  have hb4 := below_new w2 (.cells ((List.replicate t.l.length (0 : Int)).map intV).toArray 3)
  generalize hw4 : w2.alloc (.cells ((List.replicate t.l.length (0 : Int)).map intV).toArray 3) = w4 at hP hb4 hmk
  have HO4 := Lib.hid (show OwnedIs w2 w4 w2.heap.size t.l.length (deepK t 0) from ⟨hP, by simp [deepK], Nat.le_refl _, hb4⟩)
  clear hP hb4
  go_upto_region 4 with fail
  clear hmk hw4 x0
  generalize w2.heap.size = db at HO4 ⊢
  have x0 : w4.cell? ⟨xb, 0, none⟩ = some (.slice A t.l.length c) := (HX2.out.next HO4.out.low).cell 0
  go_wp2_with fail
  clear x0
  go_loopw [19] (fun i wr => ∃ k : Nat, k ≤ t.l.length ∧ i = .int .i64 k ∧ OwnedIs w2 wr db t.l.length (deepK t k)) (fun i _ => t.l.length - (intOf i).toNat)
  case atStart => exact ⟨0, by omega, rfl, HO4.out⟩
  case round =>
    obtain ⟨k, hk, rfl, hO⟩ := hrel
    have HO := Lib.hid hO
    clear hO HO4
    by_cases hlt : k < t.l.length
    case neg =>
      obtain rfl : k = t.l.length := by omega
      have hlk : ¬ ((t.l.length : Int) < (t.l.length : Int)) := by omega
      obtain ⟨rn, hrn⟩ : ∃ rn : Nat, t.r = (rn : Int) := ⟨t.l.length - 1, by have := HG.out.root; omega⟩
      have hrl : rn < t.l.length := by have := HG.out.root; omega
      have HV := Lib.hid (show deepL t = (deepK t t.l.length).getD rn 0 by unfold deepL; rw [hrn]; rfl)
      have x2 : wr.cell? ⟨xb, 2, none⟩ = some (.int .i64 (rn : Int)) := by rw [← hrn]; exact (HX2.out.next HO.out.low).cell 2
      have p0 := HO.out.get hrl
      have r0 : (0 : Int) ≤ (rn : Int) := by omega
      have r1 : (rn : Int) < (t.l.length : Int) := by omega
      generalize (deepK t t.l.length).getD rn 0 = v at p0 HV
      clear hrn
      go_wp2_with fail
      go_ret
      exact ⟨v, rfl, next_ HB2.out HO.out.low, fun h => absurd HG.out h, fun _ _ => HV.out.symm⟩
    case pos =>
      have hlk : (k : Int) < (t.l.length : Int) := by omega
      have hk0 : (0 : Int) ≤ (k : Int) := by omega
      have hxk : t.l[k]? = some t.l[k] := List.getElem?_eq_getElem hlt
      generalize t.l[k] = x at hxk
      have HXK := Lib.hid hxk
      have HOK := Lib.hid (kids_lt (HG.out.nodes k hlt x hxk).2)
      obtain ⟨ad, rfl, _, hcs⟩ := (HT2.out.next HO.out.low).nodes.nodAt hxk
      have HCS := Lib.hid hcs
      clear hcs hxk
      have hN := Blk.new wr 30 #[.int .i64 x.k, strV x.t, strV x.t2, .int .i64 x.n, .int .i64 x.a, .int .i64 x.b, .int .i64 x.c, .int .i64 x.h]
      have hb1 := below_new wr (.cells #[.int .i64 x.k, strV x.t, strV x.t2, .int .i64 x.n, .int .i64 x.a, .int .i64 x.b, .int .i64 x.c, .int .i64 x.h] 30)
      have HO1 := Lib.hid (HO.out.next hb1)
      generalize hw1 : wr.alloc (.cells #[.int .i64 x.k, strV x.t, strV x.t2, .int .i64 x.n, .int .i64 x.a, .int .i64 x.b, .int .i64 x.c, .int .i64 x.h] 30) = w1 at hN HO1
      have HN1 := Lib.hid hN
      clear hN hb1
      go_upto_region 7 with (first | (refine wpList_load_at rfl 30 (.tmp 22) rfl (ad.add (k * 8)) rfl [.int .i64 x.k, strV x.t, strV x.t2, .int .i64 x.n, .int .i64 x.a, .int .i64 x.b, .int .i64 x.c, .int .i64 x.h] _ HCS.out Tryd.underlying30 rfl (by kernel_rfl) ?_))
      clear hw1
      generalize wr.heap.size = nb at HN1 ⊢
      have p0 := HO1.out.get hlt
      have pf := HO1.out.cnt.frozen k
      have HO2 := Lib.hid (HO1.out.put_ k 1)
      have HN2 := Lib.hid (HN1.out.far (p := ⟨db, k, none⟩) (HN1.out.ne_ HO1.out.cnt (by decide)) (.int .i64 1))
      go_upto_region 8 with fail
      clear p0 pf
      generalize w1.setCell ⟨db, k, none⟩ (.int .i64 1) = w3 at HO2 HN2 ⊢
      have x0 : w3.cell? ⟨xb, 0, none⟩ = some (.slice (some ad) t.l.length c) := (HX2.out.next HO2.out.low).cell 0
      have x1 : w3.cell? ⟨xb, 1, none⟩ = some (.slice A' t.y.length c') := (HX2.out.next HO2.out.low).cell 1
      have x2 : w3.cell? ⟨xb, 2, none⟩ = some (.int .i64 t.r) := (HX2.out.next HO2.out.low).cell 2
      have HK := Lib.hid (c24 t (some ad) A' c c' k x w3 (HT2.out.next HO2.out.low) (HS2.out.ast.next HO2.out.low) HXK.out hl)
      go_wp2_with fail
      refine HK.out.mono ?_
      rintro e w5 ⟨A5, c5, rfl, hI⟩
      have HO5 := Lib.hid (HO2.out.next hI.low)
      have HN5 := Lib.hid (HN2.out.next hI.low)
      have HDB := Lib.hid (show db < w3.heap.size from HO2.out.cnt.lt)
      have HI5 := Lib.hid hI.own
      clear hI HK x0 x1 x2 HO1 HN1
      have HDK := Lib.hid (show deepK t (k + 1) = dfold x k ((deepK t k).set k 1) (kidsL x) by
        show (match t.l[k]? with | some x => dfold x k ((deepK t k).set k 1) (kidsL x) | none => deepK t k) = _
        rw [HXK.out])
      generalize (deepK t k).set k 1 = ds at HO5 HDK
      have hL3 : (kidsL x).length ≤ 3 := kidTo_len _ _ _
      generalize kidsL x = L at HI5 HOK HDK hL3 ⊢
      generalize w3.heap.size = b0 at HDB HI5
      go_wp2_with fail
      go_loopw [31] (fun i wr => ∃ j : Nat, j ≤ L.length ∧ i = .int .i64 j ∧ OwnedIs w2 wr db t.l.length (dfold x k ds (L.take j)) ∧ Blk wr nb 30 #[.int .i64 x.k, strV x.t, strV x.t2, .int .i64 x.n, .int .i64 x.a, .int .i64 x.b, .int .i64 x.c, .int .i64 x.h] ∧ wr.ownsRow b0 3 1 (.slice A5 L.length c5) L.length (L.map intV)) (fun i _ => L.length - (intOf i).toNat)
      case atStart => exact ⟨0, by omega, rfl, HO5.out, HN5.out, HI5.out⟩
      case round =>
        obtain ⟨j, hj, rfl, hO, hN, hI⟩ := hrel
        have HO := Lib.hid hO
        have HN := Lib.hid hN
        have HI := Lib.hid hI
        clear hO hN hI HO5 HN5 HI5
        by_cases hjt : j < L.length
        case neg =>
          obtain rfl : j = L.length := by omega
          have hjt2 : ¬ ((L.length : Int) < (L.length : Int)) := by omega
          go_wp2_with fail
          go_roundw
          case rel => exact ⟨k + 1, by omega, by go_num, by rw [HDK.out]; have h9 := HO.out; rw [List.take_length] at h9; exact h9⟩
          case measure => simp [intOf]; omega
        case pos =>
          have hj1 : (j : Int) < (L.length : Int) := by omega
          have hj0 : (0 : Int) ≤ (j : Int) := by omega
          have hLj : L[j]? = some L[j] := List.getElem?_eq_getElem hjt
          have hcm := HOK.out _ (List.getElem_mem hjt)
          obtain ⟨ay, u, rfl, _, hu, hcell⟩ := (Reads.of_own HI.out).at_ hjt
          rw [List.getElem?_map, hLj] at hu
          obtain rfl := Option.some.inj hu
          have HTK := Lib.hid (show L.take (j + 1) = L.take j ++ [L[j]] by rw [List.take_add_one, hLj]; rfl)
          generalize L[j] = z at hcell hcm HTK
          replace hcell : wr.cell? (ay.add j) = some (.int .i64 z) := hcell
          clear hu hLj
          obtain ⟨zn, rfl⟩ : ∃ zn : Nat, z = (zn : Int) := ⟨z.toNat, by omega⟩
          have hzl : zn < t.l.length := by omega
          have hz0 : (0 : Int) ≤ (zn : Int) := by omega
          have hz1 : (zn : Int) < (t.l.length : Int) := by omega
          have n0 : wr.cell? ⟨nb, 0, none⟩ = some (.int .i64 x.k) := HN.out.cell 0
          have n6 : wr.cell? ⟨nb, 6, none⟩ = some (.int .i64 x.c) := HN.out.cell 6
          generalize hdj : dfold x k ds (L.take j) = dj at HO
          have HDJ := Lib.hid hdj
          clear hdj
          have pk := HO.out.get hlt
          have pz := HO.out.get hzl
          have pf := HO.out.cnt.frozen k
          generalize hvk : dj.getD k 0 = vk at pk
          generalize hvz : dj.getD zn 0 = vz at pz
          have HVK := Lib.hid hvk
          have HVZ := Lib.hid hvz
          clear hvk hvz
          have hmore : moreL x (zn : Int) = 0 ∧ x.k = 19 ∧ (zn : Int) = x.c ∨ moreL x (zn : Int) = 1 ∧ ¬ (x.k = 19 ∧ (zn : Int) = x.c) := by
            unfold moreL
            by_cases h9 : x.k = 19 ∧ (zn : Int) = x.c
            · exact .inl ⟨if_pos h9, h9⟩
            · exact .inr ⟨if_neg h9, h9⟩
          have HMX := Lib.hid (fun (a b : Int) (V : World) => run_max a b V)
          have NEXT : ∀ (m : Int), moreL x (zn : Int) = m → OwnedIs w2 (wr.setCell ⟨db, k, none⟩ (.int .i64 (mx vk (wrap64 (vz + m))))) db t.l.length (dfold x k ds (L.take (j + 1))) := fun m hm => by
            have h9 := HO.out.put_ k (mx vk (wrap64 (vz + m)))
            rw [HTK.out, dfold_snoc, HDJ.out]
            unfold dstep
            rw [show ((zn : Nat) : Int).toNat = zn from rfl, HVK.out, HVZ.out, hm]
            exact h9
          have HNX := Lib.hid NEXT
          have KEEP : ∀ (v : Int), Blk (wr.setCell ⟨db, k, none⟩ (.int .i64 v)) nb 30 #[.int .i64 x.k, strV x.t, strV x.t2, .int .i64 x.n, .int .i64 x.a, .int .i64 x.b, .int .i64 x.c, .int .i64 x.h] ∧ (wr.setCell ⟨db, k, none⟩ (.int .i64 v)).ownsRow b0 3 1 (.slice (some ay) L.length c5) L.length (L.map intV) := fun v =>
            ⟨HN.out.far (p := ⟨db, k, none⟩) (HN.out.ne_ HO.out.cnt (by decide)) _, HI.out.kept (grown_set wr db k _) (.inr (fun e => by have h9 := (HI.out.lt db e).1; have := HDB.out; omega))⟩
          have HKP := Lib.hid KEEP
          clear NEXT KEEP
          rcases hmore with ⟨hm, h19, hzc⟩ | ⟨hm, hno⟩
          · have HM := Lib.hid hm
            have e1 : (x.k == 19) = true := beq_iff_eq.2 h19
            have e2 : ((zn : Int) == x.c) = true := beq_iff_eq.2 hzc
            clear h19 hzc hm
            go_upto_region 14 with fail
            refine wp_region_last (S := fun V => V.cell? ⟨db, k, none⟩ = some (.int .i64 vk) ∧ V.cell? ⟨db, zn, none⟩ = some (.int .i64 vz) ∧ V.frozen? ⟨db, k, none⟩ = false) 14 (by kernel_rfl) (by kernel_rfl) (by kernel_rfl) (by kernel_rfl) ⟨pk, pz, pf⟩ (fun hHeld => ?_)
            clear n0 n6 pk pz pf hcell
            have hmx := HMX.out
            have HNZ := Lib.hid (show OwnedIs w2 (wr.setCell ⟨db, k, none⟩ (.int .i64 (mx vk (wrap64 vz)))) db t.l.length (dfold x k ds (L.take (j + 1))) by have h9 := HNX.out 0 HM.out; rwa [Int.add_zero] at h9)
            refine wpAnyH_take (i := 0) (oi := ⟨some 44, _, _, _, _, _⟩) (v := ?_) rfl (by kernel_rfl) (by kernel_rfl) (by kernel_rfl) (fun _ _ _ h => h) (Or.inl ⟨by kernel_rfl, ?_⟩) (by assumption) ?_
            rotate_left
            · intro V hSw
              obtain ⟨z0, z1, z2⟩ := hSw
              go_simp
              try with_reducible rfl
            try simp only [Act.put, List.setIfInBounds_toArray, List.set_cons_zero, List.set_cons_succ]
            refine wpAnyH_take (i := 1) (oi := ⟨some 45, _, _, _, _, _⟩) (v := ?_) rfl (by kernel_rfl) (by kernel_rfl) (by kernel_rfl) (fun _ _ _ h => h) (Or.inl ⟨by kernel_rfl, ?_⟩) (by assumption) ?_
            rotate_left
            · intro V hSw
              obtain ⟨z0, z1, z2⟩ := hSw
              go_simp
              try with_reducible rfl
            try simp only [Act.put, List.setIfInBounds_toArray, List.set_cons_zero, List.set_cons_succ]
            refine wpAnyH_take (i := 2) (oi := ⟨some 46, _, _, _, _, _⟩) (v := ?_) rfl (by kernel_rfl) (by kernel_rfl) (by kernel_rfl) (fun _ _ _ h => h) (Or.inl ⟨by kernel_rfl, ?_⟩) (by assumption) ?_
            rotate_left
            · intro V hSw
              obtain ⟨z0, z1, z2⟩ := hSw
              go_simp
              try with_reducible rfl
            try simp only [Act.put, List.setIfInBounds_toArray, List.set_cons_zero, List.set_cons_succ]
            refine wpAnyH_take (i := 3) (oi := ⟨some 47, _, _, _, _, _⟩) (v := ?_) rfl (by kernel_rfl) (by kernel_rfl) (by kernel_rfl) (fun _ _ _ h => h) (Or.inl ⟨by kernel_rfl, ?_⟩) (by assumption) ?_
            rotate_left
            · intro V hSw
              obtain ⟨z0, z1, z2⟩ := hSw
              go_simp
              try with_reducible rfl
            try simp only [Act.put, List.setIfInBounds_toArray, List.set_cons_zero, List.set_cons_succ]
            refine wpAnyH_take (i := 4) (oi := ⟨some 48, _, _, _, _, _⟩) (v := ?_) rfl (by kernel_rfl) (by kernel_rfl) (by kernel_rfl) (fun _ _ _ h => h) (Or.inl ⟨by kernel_rfl, ?_⟩) (by assumption) ?_
            rotate_left
            · intro V hSw
              obtain ⟨z0, z1, z2⟩ := hSw
              go_simp
              try with_reducible rfl
            try simp only [Act.put, List.setIfInBounds_toArray, List.set_cons_zero, List.set_cons_succ]
            refine wpAnyH_take (i := 5) (oi := ⟨some 49, _, _, _, _, _⟩) (v := ?_) rfl (by kernel_rfl) (by kernel_rfl) (by kernel_rfl) (fun _ _ _ h => h) (Or.inl ⟨by kernel_rfl, ?_⟩) (by assumption) ?_
            rotate_left
            · intro V hSw
              obtain ⟨z0, z1, z2⟩ := hSw
              go_simp
              try with_reducible rfl
            try simp only [Act.put, List.setIfInBounds_toArray, List.set_cons_zero, List.set_cons_succ]
            refine wpAnyH_take (i := 6) (oi := ⟨some 50, _, _, _, _, _⟩) (v := ?_) rfl (by kernel_rfl) (by kernel_rfl) (by kernel_rfl) (fun _ _ _ h => h) (Or.inl ⟨by kernel_rfl, ?_⟩) (by assumption) ?_
            rotate_left
            · intro V hSw
              obtain ⟨z0, z1, z2⟩ := hSw
              go_simp
              try with_reducible rfl
            try simp only [Act.put, List.setIfInBounds_toArray, List.set_cons_zero, List.set_cons_succ]
            refine wpAnyH_take (i := 7) (oi := ⟨some 51, _, _, _, _, _⟩) (v := ?_) rfl (by kernel_rfl) (by kernel_rfl) (by kernel_rfl) (fun _ _ _ h => h) (Or.inl ⟨by kernel_rfl, ?_⟩) (by assumption) ?_
            rotate_left
            · intro V hSw
              obtain ⟨z0, z1, z2⟩ := hSw
              go_simp
              try with_reducible rfl
            try simp only [Act.put, List.setIfInBounds_toArray, List.set_cons_zero, List.set_cons_succ]
            refine wpAnyH_take (i := 8) (oi := ⟨some 52, _, _, _, _, _⟩) (v := ?_) rfl (by kernel_rfl) (by kernel_rfl) (by kernel_rfl) (fun _ _ _ h => h) (Or.inl ⟨by kernel_rfl, ?_⟩) (by assumption) ?_
            rotate_left
            · intro V hSw
              obtain ⟨z0, z1, z2⟩ := hSw
              go_simp
              try with_reducible rfl
            try simp only [Act.put, List.setIfInBounds_toArray, List.set_cons_zero, List.set_cons_succ]
            refine wpAnyH_take (i := 9) (oi := ⟨some 53, _, _, _, _, _⟩) (v := ?_) rfl (by kernel_rfl) (by kernel_rfl) (by kernel_rfl) (fun _ _ _ h => h) (Or.inl ⟨by kernel_rfl, ?_⟩) (by assumption) ?_
            rotate_left
            · intro V hSw
              obtain ⟨z0, z1, z2⟩ := hSw
              go_simp
              try with_reducible rfl
            try simp only [Act.put, List.setIfInBounds_toArray, List.set_cons_zero, List.set_cons_succ]
            refine wpAnyH_take (i := 10) (oi := ⟨some 54, _, _, _, _, _⟩) (v := ?_) rfl (by kernel_rfl) (by kernel_rfl) (by kernel_rfl) (fun _ _ _ h => h) (Or.inl ⟨by kernel_rfl, ?_⟩) (by assumption) ?_
            rotate_left
            · intro V hSw
              obtain ⟨z0, z1, z2⟩ := hSw
              go_simp
              try with_reducible rfl
            try simp only [Act.put, List.setIfInBounds_toArray, List.set_cons_zero, List.set_cons_succ]
            refine wpAnyH_take (i := 11) (oi := ⟨some 55, _, _, _, _, _⟩) (v := ?_) rfl (by kernel_rfl) (by kernel_rfl) (by kernel_rfl) (fun _ _ _ h => h) (Or.inl ⟨by kernel_rfl, ?_⟩) (by assumption) ?_
            rotate_left
            · intro V hSw
              obtain ⟨z0, z1, z2⟩ := hSw
              go_simp
              try with_reducible rfl
            try simp only [Act.put, List.setIfInBounds_toArray, List.set_cons_zero, List.set_cons_succ]
            refine wpAnyH_take (i := 12) (oi := ⟨some 56, _, _, _, _, _⟩) (v := ?_) rfl (by kernel_rfl) (by kernel_rfl) (by kernel_rfl) (fun _ _ _ h => h) (Or.inl ⟨by kernel_rfl, ?_⟩) (by assumption) ?_
            rotate_left
            · intro V hSw
              obtain ⟨z0, z1, z2⟩ := hSw
              go_simp
              try with_reducible rfl
            try simp only [Act.put, List.setIfInBounds_toArray, List.set_cons_zero, List.set_cons_succ]
            refine wpAnyH_take (i := 13) (oi := ⟨some 57, _, _, _, _, _⟩) (v := ?_) rfl (by kernel_rfl) (by kernel_rfl) (by kernel_rfl) (fun _ _ _ h => h) (Or.inl ⟨by kernel_rfl, ?_⟩) (by assumption) ?_
            rotate_left
            · intro V hSw
              obtain ⟨z0, z1, z2⟩ := hSw
              go_simp
              try with_reducible rfl
            try simp only [Act.put, List.setIfInBounds_toArray, List.set_cons_zero, List.set_cons_succ]
            refine wpAnyH_done (by kernel_rfl) ?_ _
            refine lastPost_run (o := ⟨none, _, _, _, _, _⟩) rfl (fun K hK => ?_)
            obtain ⟨z0, z1, z2⟩ := hHeld
            go_simp
            refine hK.out _ _ ?_
            clear hK K hmx z0 z1 z2
            try rw [show IntKind.i64.wrap vz = wrap64 vz by rw [IntKind.wrap_i64]; unfold wrap64; rfl]
            have HO9 := Lib.hid (show OwnedIs w2 (wr.setCell ⟨db, k, none⟩ (.int .i64 (mx vk (wrap64 vz)))).drew db t.l.length (dfold x k ds (L.take (j + 1))) from ⟨HNZ.out.cnt, HNZ.out.len, HNZ.out.le, Below.drew HNZ.out.low⟩)
            have HN9 := Lib.hid (show Blk (wr.setCell ⟨db, k, none⟩ (.int .i64 (mx vk (wrap64 vz)))).drew nb 30 #[.int .i64 x.k, strV x.t, strV x.t2, .int .i64 x.n, .int .i64 x.a, .int .i64 x.b, .int .i64 x.c, .int .i64 x.h] from (HKP.out _).1)
            have HI9 := Lib.hid (show (wr.setCell ⟨db, k, none⟩ (.int .i64 (mx vk (wrap64 vz)))).drew.ownsRow b0 3 1 (.slice (some ay) L.length c5) L.length (L.map intV) from (HKP.out _).2)
            generalize (wr.setCell ⟨db, k, none⟩ (.int .i64 (mx vk (wrap64 vz)))).drew = w9 at HO9 HN9 HI9 ⊢
            go_wp2_with fail
            go_roundw
            case rel => exact ⟨j + 1, by omega, by go_num, HO9.out, HN9.out, HI9.out⟩
            case measure => simp [intOf]; omega
          by_cases h19 : x.k = 19
          · have HM := Lib.hid hm
            have e1 : (x.k == 19) = true := beq_iff_eq.2 h19
            have e2 : ((zn : Int) == x.c) = false := beq_false_of_ne (fun h => hno ⟨h19, h⟩)
            clear h19 hno hm
            go_upto_region 14 with fail
            refine wp_region_last (S := fun V => V.cell? ⟨db, k, none⟩ = some (.int .i64 vk) ∧ V.cell? ⟨db, zn, none⟩ = some (.int .i64 vz) ∧ V.frozen? ⟨db, k, none⟩ = false) 14 (by kernel_rfl) (by kernel_rfl) (by kernel_rfl) (by kernel_rfl) ⟨pk, pz, pf⟩ (fun hHeld => ?_)
            clear n0 n6 pk pz pf hcell
            have hmx := HMX.out
            refine wpAnyH_take (i := 0) (oi := ⟨some 44, _, _, _, _, _⟩) (v := ?_) rfl (by kernel_rfl) (by kernel_rfl) (by kernel_rfl) (fun _ _ _ h => h) (Or.inl ⟨by kernel_rfl, ?_⟩) (by assumption) ?_
            rotate_left
            · intro V hSw
              obtain ⟨z0, z1, z2⟩ := hSw
              go_simp
              try with_reducible rfl
            try simp only [Act.put, List.setIfInBounds_toArray, List.set_cons_zero, List.set_cons_succ]
            refine wpAnyH_take (i := 1) (oi := ⟨some 45, _, _, _, _, _⟩) (v := ?_) rfl (by kernel_rfl) (by kernel_rfl) (by kernel_rfl) (fun _ _ _ h => h) (Or.inl ⟨by kernel_rfl, ?_⟩) (by assumption) ?_
            rotate_left
            · intro V hSw
              obtain ⟨z0, z1, z2⟩ := hSw
              go_simp
              try with_reducible rfl
            try simp only [Act.put, List.setIfInBounds_toArray, List.set_cons_zero, List.set_cons_succ]
            refine wpAnyH_take (i := 2) (oi := ⟨some 46, _, _, _, _, _⟩) (v := ?_) rfl (by kernel_rfl) (by kernel_rfl) (by kernel_rfl) (fun _ _ _ h => h) (Or.inl ⟨by kernel_rfl, ?_⟩) (by assumption) ?_
            rotate_left
            · intro V hSw
              obtain ⟨z0, z1, z2⟩ := hSw
              go_simp
              try with_reducible rfl
            try simp only [Act.put, List.setIfInBounds_toArray, List.set_cons_zero, List.set_cons_succ]
            refine wpAnyH_take (i := 3) (oi := ⟨some 47, _, _, _, _, _⟩) (v := ?_) rfl (by kernel_rfl) (by kernel_rfl) (by kernel_rfl) (fun _ _ _ h => h) (Or.inl ⟨by kernel_rfl, ?_⟩) (by assumption) ?_
            rotate_left
            · intro V hSw
              obtain ⟨z0, z1, z2⟩ := hSw
              go_simp
              try with_reducible rfl
            try simp only [Act.put, List.setIfInBounds_toArray, List.set_cons_zero, List.set_cons_succ]
            refine wpAnyH_take (i := 4) (oi := ⟨some 48, _, _, _, _, _⟩) (v := ?_) rfl (by kernel_rfl) (by kernel_rfl) (by kernel_rfl) (fun _ _ _ h => h) (Or.inl ⟨by kernel_rfl, ?_⟩) (by assumption) ?_
            rotate_left
            · intro V hSw
              obtain ⟨z0, z1, z2⟩ := hSw
              go_simp
              try with_reducible rfl
            try simp only [Act.put, List.setIfInBounds_toArray, List.set_cons_zero, List.set_cons_succ]
            refine wpAnyH_take (i := 5) (oi := ⟨some 49, _, _, _, _, _⟩) (v := ?_) rfl (by kernel_rfl) (by kernel_rfl) (by kernel_rfl) (fun _ _ _ h => h) (Or.inl ⟨by kernel_rfl, ?_⟩) (by assumption) ?_
            rotate_left
            · intro V hSw
              obtain ⟨z0, z1, z2⟩ := hSw
              go_simp
              try with_reducible rfl
            try simp only [Act.put, List.setIfInBounds_toArray, List.set_cons_zero, List.set_cons_succ]
            refine wpAnyH_take (i := 6) (oi := ⟨some 50, _, _, _, _, _⟩) (v := ?_) rfl (by kernel_rfl) (by kernel_rfl) (by kernel_rfl) (fun _ _ _ h => h) (Or.inl ⟨by kernel_rfl, ?_⟩) (by assumption) ?_
            rotate_left
            · intro V hSw
              obtain ⟨z0, z1, z2⟩ := hSw
              go_simp
              try with_reducible rfl
            try simp only [Act.put, List.setIfInBounds_toArray, List.set_cons_zero, List.set_cons_succ]
            refine wpAnyH_take (i := 7) (oi := ⟨some 51, _, _, _, _, _⟩) (v := ?_) rfl (by kernel_rfl) (by kernel_rfl) (by kernel_rfl) (fun _ _ _ h => h) (Or.inl ⟨by kernel_rfl, ?_⟩) (by assumption) ?_
            rotate_left
            · intro V hSw
              obtain ⟨z0, z1, z2⟩ := hSw
              go_simp
              try with_reducible rfl
            try simp only [Act.put, List.setIfInBounds_toArray, List.set_cons_zero, List.set_cons_succ]
            refine wpAnyH_take (i := 8) (oi := ⟨some 52, _, _, _, _, _⟩) (v := ?_) rfl (by kernel_rfl) (by kernel_rfl) (by kernel_rfl) (fun _ _ _ h => h) (Or.inl ⟨by kernel_rfl, ?_⟩) (by assumption) ?_
            rotate_left
            · intro V hSw
              obtain ⟨z0, z1, z2⟩ := hSw
              go_simp
              try with_reducible rfl
            try simp only [Act.put, List.setIfInBounds_toArray, List.set_cons_zero, List.set_cons_succ]
            refine wpAnyH_take (i := 9) (oi := ⟨some 53, _, _, _, _, _⟩) (v := ?_) rfl (by kernel_rfl) (by kernel_rfl) (by kernel_rfl) (fun _ _ _ h => h) (Or.inl ⟨by kernel_rfl, ?_⟩) (by assumption) ?_
            rotate_left
            · intro V hSw
              obtain ⟨z0, z1, z2⟩ := hSw
              go_simp
              try with_reducible rfl
            try simp only [Act.put, List.setIfInBounds_toArray, List.set_cons_zero, List.set_cons_succ]
            refine wpAnyH_take (i := 10) (oi := ⟨some 54, _, _, _, _, _⟩) (v := ?_) rfl (by kernel_rfl) (by kernel_rfl) (by kernel_rfl) (fun _ _ _ h => h) (Or.inl ⟨by kernel_rfl, ?_⟩) (by assumption) ?_
            rotate_left
            · intro V hSw
              obtain ⟨z0, z1, z2⟩ := hSw
              go_simp
              try with_reducible rfl
            try simp only [Act.put, List.setIfInBounds_toArray, List.set_cons_zero, List.set_cons_succ]
            refine wpAnyH_take (i := 11) (oi := ⟨some 55, _, _, _, _, _⟩) (v := ?_) rfl (by kernel_rfl) (by kernel_rfl) (by kernel_rfl) (fun _ _ _ h => h) (Or.inl ⟨by kernel_rfl, ?_⟩) (by assumption) ?_
            rotate_left
            · intro V hSw
              obtain ⟨z0, z1, z2⟩ := hSw
              go_simp
              try with_reducible rfl
            try simp only [Act.put, List.setIfInBounds_toArray, List.set_cons_zero, List.set_cons_succ]
            refine wpAnyH_take (i := 12) (oi := ⟨some 56, _, _, _, _, _⟩) (v := ?_) rfl (by kernel_rfl) (by kernel_rfl) (by kernel_rfl) (fun _ _ _ h => h) (Or.inl ⟨by kernel_rfl, ?_⟩) (by assumption) ?_
            rotate_left
            · intro V hSw
              obtain ⟨z0, z1, z2⟩ := hSw
              go_simp
              try with_reducible rfl
            try simp only [Act.put, List.setIfInBounds_toArray, List.set_cons_zero, List.set_cons_succ]
            refine wpAnyH_take (i := 13) (oi := ⟨some 57, _, _, _, _, _⟩) (v := ?_) rfl (by kernel_rfl) (by kernel_rfl) (by kernel_rfl) (fun _ _ _ h => h) (Or.inl ⟨by kernel_rfl, ?_⟩) (by assumption) ?_
            rotate_left
            · intro V hSw
              obtain ⟨z0, z1, z2⟩ := hSw
              go_simp
              try with_reducible rfl
            try simp only [Act.put, List.setIfInBounds_toArray, List.set_cons_zero, List.set_cons_succ]
            refine wpAnyH_done (by kernel_rfl) ?_ _
            refine lastPost_run (o := ⟨none, _, _, _, _, _⟩) rfl (fun K hK => ?_)
            obtain ⟨z0, z1, z2⟩ := hHeld
            go_simp
            refine hK.out _ _ ?_
            clear hK K hmx z0 z1 z2
            try rw [show IntKind.i64.wrap (vz + 1) = wrap64 (vz + 1) by rw [IntKind.wrap_i64]; unfold wrap64; rfl]
            have HO9 := Lib.hid (show OwnedIs w2 (wr.setCell ⟨db, k, none⟩ (.int .i64 (mx vk (wrap64 (vz + 1))))).drew db t.l.length (dfold x k ds (L.take (j + 1))) from ⟨(HNX.out 1 HM.out).cnt, (HNX.out 1 HM.out).len, (HNX.out 1 HM.out).le, Below.drew (HNX.out 1 HM.out).low⟩)
            have HN9 := Lib.hid (show Blk (wr.setCell ⟨db, k, none⟩ (.int .i64 (mx vk (wrap64 (vz + 1))))).drew nb 30 #[.int .i64 x.k, strV x.t, strV x.t2, .int .i64 x.n, .int .i64 x.a, .int .i64 x.b, .int .i64 x.c, .int .i64 x.h] from (HKP.out _).1)
            have HI9 := Lib.hid (show (wr.setCell ⟨db, k, none⟩ (.int .i64 (mx vk (wrap64 (vz + 1))))).drew.ownsRow b0 3 1 (.slice (some ay) L.length c5) L.length (L.map intV) from (HKP.out _).2)
            generalize (wr.setCell ⟨db, k, none⟩ (.int .i64 (mx vk (wrap64 (vz + 1))))).drew = w9 at HO9 HN9 HI9 ⊢
            go_wp2_with fail
            go_roundw
            case rel => exact ⟨j + 1, by omega, by go_num, HO9.out, HN9.out, HI9.out⟩
            case measure => simp [intOf]; omega
          have HM := Lib.hid hm
          have e1 : (x.k == 19) = false := beq_false_of_ne h19
          clear h19 hno hm
          go_upto_region 14 with fail
          refine wp_region_last (S := fun V => V.cell? ⟨db, k, none⟩ = some (.int .i64 vk) ∧ V.cell? ⟨db, zn, none⟩ = some (.int .i64 vz) ∧ V.frozen? ⟨db, k, none⟩ = false) 14 (by kernel_rfl) (by kernel_rfl) (by kernel_rfl) (by kernel_rfl) ⟨pk, pz, pf⟩ (fun hHeld => ?_)
          clear n0 n6 pk pz pf hcell
          have hmx := HMX.out
          refine wpAnyH_take (i := 0) (oi := ⟨some 44, _, _, _, _, _⟩) (v := ?_) rfl (by kernel_rfl) (by kernel_rfl) (by kernel_rfl) (fun _ _ _ h => h) (Or.inl ⟨by kernel_rfl, ?_⟩) (by assumption) ?_
          rotate_left
          · intro V hSw
            obtain ⟨z0, z1, z2⟩ := hSw
            go_simp
            try with_reducible rfl
          try simp only [Act.put, List.setIfInBounds_toArray, List.set_cons_zero, List.set_cons_succ]
          refine wpAnyH_take (i := 1) (oi := ⟨some 45, _, _, _, _, _⟩) (v := ?_) rfl (by kernel_rfl) (by kernel_rfl) (by kernel_rfl) (fun _ _ _ h => h) (Or.inl ⟨by kernel_rfl, ?_⟩) (by assumption) ?_
          rotate_left
          · intro V hSw
            obtain ⟨z0, z1, z2⟩ := hSw
            go_simp
            try with_reducible rfl
          try simp only [Act.put, List.setIfInBounds_toArray, List.set_cons_zero, List.set_cons_succ]
          refine wpAnyH_take (i := 2) (oi := ⟨some 46, _, _, _, _, _⟩) (v := ?_) rfl (by kernel_rfl) (by kernel_rfl) (by kernel_rfl) (fun _ _ _ h => h) (Or.inl ⟨by kernel_rfl, ?_⟩) (by assumption) ?_
          rotate_left
          · intro V hSw
            obtain ⟨z0, z1, z2⟩ := hSw
            go_simp
            try with_reducible rfl
          try simp only [Act.put, List.setIfInBounds_toArray, List.set_cons_zero, List.set_cons_succ]
          refine wpAnyH_take (i := 3) (oi := ⟨some 47, _, _, _, _, _⟩) (v := ?_) rfl (by kernel_rfl) (by kernel_rfl) (by kernel_rfl) (fun _ _ _ h => h) (Or.inl ⟨by kernel_rfl, ?_⟩) (by assumption) ?_
          rotate_left
          · intro V hSw
            obtain ⟨z0, z1, z2⟩ := hSw
            go_simp
            try with_reducible rfl
          try simp only [Act.put, List.setIfInBounds_toArray, List.set_cons_zero, List.set_cons_succ]
          refine wpAnyH_take (i := 4) (oi := ⟨some 48, _, _, _, _, _⟩) (v := ?_) rfl (by kernel_rfl) (by kernel_rfl) (by kernel_rfl) (fun _ _ _ h => h) (Or.inl ⟨by kernel_rfl, ?_⟩) (by assumption) ?_
          rotate_left
          · intro V hSw
            obtain ⟨z0, z1, z2⟩ := hSw
            go_simp
            try with_reducible rfl
          try simp only [Act.put, List.setIfInBounds_toArray, List.set_cons_zero, List.set_cons_succ]
          refine wpAnyH_take (i := 5) (oi := ⟨some 49, _, _, _, _, _⟩) (v := ?_) rfl (by kernel_rfl) (by kernel_rfl) (by kernel_rfl) (fun _ _ _ h => h) (Or.inl ⟨by kernel_rfl, ?_⟩) (by assumption) ?_
          rotate_left
          · intro V hSw
            obtain ⟨z0, z1, z2⟩ := hSw
            go_simp
            try with_reducible rfl
          try simp only [Act.put, List.setIfInBounds_toArray, List.set_cons_zero, List.set_cons_succ]
          refine wpAnyH_take (i := 6) (oi := ⟨some 50, _, _, _, _, _⟩) (v := ?_) rfl (by kernel_rfl) (by kernel_rfl) (by kernel_rfl) (fun _ _ _ h => h) (Or.inl ⟨by kernel_rfl, ?_⟩) (by assumption) ?_
          rotate_left
          · intro V hSw
            obtain ⟨z0, z1, z2⟩ := hSw
            go_simp
            try with_reducible rfl
          try simp only [Act.put, List.setIfInBounds_toArray, List.set_cons_zero, List.set_cons_succ]
          refine wpAnyH_take (i := 7) (oi := ⟨some 51, _, _, _, _, _⟩) (v := ?_) rfl (by kernel_rfl) (by kernel_rfl) (by kernel_rfl) (fun _ _ _ h => h) (Or.inl ⟨by kernel_rfl, ?_⟩) (by assumption) ?_
          rotate_left
          · intro V hSw
            obtain ⟨z0, z1, z2⟩ := hSw
            go_simp
            try with_reducible rfl
          try simp only [Act.put, List.setIfInBounds_toArray, List.set_cons_zero, List.set_cons_succ]
          refine wpAnyH_take (i := 8) (oi := ⟨some 52, _, _, _, _, _⟩) (v := ?_) rfl (by kernel_rfl) (by kernel_rfl) (by kernel_rfl) (fun _ _ _ h => h) (Or.inl ⟨by kernel_rfl, ?_⟩) (by assumption) ?_
          rotate_left
          · intro V hSw
            obtain ⟨z0, z1, z2⟩ := hSw
            go_simp
            try with_reducible rfl
          try simp only [Act.put, List.setIfInBounds_toArray, List.set_cons_zero, List.set_cons_succ]
          refine wpAnyH_take (i := 9) (oi := ⟨some 53, _, _, _, _, _⟩) (v := ?_) rfl (by kernel_rfl) (by kernel_rfl) (by kernel_rfl) (fun _ _ _ h => h) (Or.inl ⟨by kernel_rfl, ?_⟩) (by assumption) ?_
          rotate_left
          · intro V hSw
            obtain ⟨z0, z1, z2⟩ := hSw
            go_simp
            try with_reducible rfl
          try simp only [Act.put, List.setIfInBounds_toArray, List.set_cons_zero, List.set_cons_succ]
          refine wpAnyH_take (i := 10) (oi := ⟨some 54, _, _, _, _, _⟩) (v := ?_) rfl (by kernel_rfl) (by kernel_rfl) (by kernel_rfl) (fun _ _ _ h => h) (Or.inl ⟨by kernel_rfl, ?_⟩) (by assumption) ?_
          rotate_left
          · intro V hSw
            obtain ⟨z0, z1, z2⟩ := hSw
            go_simp
            try with_reducible rfl
          try simp only [Act.put, List.setIfInBounds_toArray, List.set_cons_zero, List.set_cons_succ]
          refine wpAnyH_take (i := 11) (oi := ⟨some 55, _, _, _, _, _⟩) (v := ?_) rfl (by kernel_rfl) (by kernel_rfl) (by kernel_rfl) (fun _ _ _ h => h) (Or.inl ⟨by kernel_rfl, ?_⟩) (by assumption) ?_
          rotate_left
          · intro V hSw
            obtain ⟨z0, z1, z2⟩ := hSw
            go_simp
            try with_reducible rfl
          try simp only [Act.put, List.setIfInBounds_toArray, List.set_cons_zero, List.set_cons_succ]
          refine wpAnyH_take (i := 12) (oi := ⟨some 56, _, _, _, _, _⟩) (v := ?_) rfl (by kernel_rfl) (by kernel_rfl) (by kernel_rfl) (fun _ _ _ h => h) (Or.inl ⟨by kernel_rfl, ?_⟩) (by assumption) ?_
          rotate_left
          · intro V hSw
            obtain ⟨z0, z1, z2⟩ := hSw
            go_simp
            try with_reducible rfl
          try simp only [Act.put, List.setIfInBounds_toArray, List.set_cons_zero, List.set_cons_succ]
          refine wpAnyH_take (i := 13) (oi := ⟨some 57, _, _, _, _, _⟩) (v := ?_) rfl (by kernel_rfl) (by kernel_rfl) (by kernel_rfl) (fun _ _ _ h => h) (Or.inl ⟨by kernel_rfl, ?_⟩) (by assumption) ?_
          rotate_left
          · intro V hSw
            obtain ⟨z0, z1, z2⟩ := hSw
            go_simp
            try with_reducible rfl
          try simp only [Act.put, List.setIfInBounds_toArray, List.set_cons_zero, List.set_cons_succ]
          refine wpAnyH_done (by kernel_rfl) ?_ _
          refine lastPost_run (o := ⟨none, _, _, _, _, _⟩) rfl (fun K hK => ?_)
          obtain ⟨z0, z1, z2⟩ := hHeld
          go_simp
          refine hK.out _ _ ?_
          clear hK K hmx z0 z1 z2
          try rw [show IntKind.i64.wrap (vz + 1) = wrap64 (vz + 1) by rw [IntKind.wrap_i64]; unfold wrap64; rfl]
          have HO9 := Lib.hid (show OwnedIs w2 (wr.setCell ⟨db, k, none⟩ (.int .i64 (mx vk (wrap64 (vz + 1))))).drew db t.l.length (dfold x k ds (L.take (j + 1))) from ⟨(HNX.out 1 HM.out).cnt, (HNX.out 1 HM.out).len, (HNX.out 1 HM.out).le, Below.drew (HNX.out 1 HM.out).low⟩)
          have HN9 := Lib.hid (show Blk (wr.setCell ⟨db, k, none⟩ (.int .i64 (mx vk (wrap64 (vz + 1))))).drew nb 30 #[.int .i64 x.k, strV x.t, strV x.t2, .int .i64 x.n, .int .i64 x.a, .int .i64 x.b, .int .i64 x.c, .int .i64 x.h] from (HKP.out _).1)
          have HI9 := Lib.hid (show (wr.setCell ⟨db, k, none⟩ (.int .i64 (mx vk (wrap64 (vz + 1))))).drew.ownsRow b0 3 1 (.slice (some ay) L.length c5) L.length (L.map intV) from (HKP.out _).2)
          generalize (wr.setCell ⟨db, k, none⟩ (.int .i64 (mx vk (wrap64 (vz + 1))))).drew = w9 at HO9 HN9 HI9 ⊢
          go_wp2_with fail
          go_roundw
          case rel => exact ⟨j + 1, by omega, by go_num, HO9.out, HN9.out, HI9.out⟩
          case measure => simp [intOf]; omega
end Go.Proofs.YtphojigdapaaiaaDoor
