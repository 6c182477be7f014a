/- scope's constructors. -/
import Derived.Test.YtphojigdapaaiaaDoorZBj
import Derived.Test.YtphojigdapaaiaaDoorSHp
namespace Go.Proofs.YtphojigdapaaiaaDoor
open Go.ChangeShapes Go.WideShapes Go.ChangeAt Go.RowKit
set_option linter.unusedVariables false
set_option linter.unusedSimpArgs false
def ConsEnd (t : Tre) (w : World) (e : Ending) (w' : World) : Prop := ∃ mm, e = .returned (.map (some mm)) ∧ SMap w' mm (fun s => (conMap t s).map conV) ∧ w.heap.size ≤ mm ∧ Below w.heap.size w w'
theorem con_put {M : CM} (s : KS) (v : Con) : (fun x => if x = s then some (conV v) else (M x).map conV) = (fun x => (put M s v x).map conV) := by
  funext x
  unfold put
  split <;> rfl
theorem nod_cells {w : World} {ad : Addr} {q : Nat} {y : Nod} (h : ∀ j v, (nodC y)[j]? = some v → w.cell? ((ad.add (q * 8)).add j) = some v) :
    w.cell? (ad.add (q * 8)) = some (.int .i64 y.k) ∧ w.cell? ⟨(ad.add (q * 8)).block, (ad.add (q * 8)).off + 1, none⟩ = some (strV y.t) ∧ w.cell? ⟨(ad.add (q * 8)).block, (ad.add (q * 8)).off + 4, none⟩ = some (.int .i64 y.a) ∧ w.cell? ⟨(ad.add (q * 8)).block, (ad.add (q * 8)).off + 5, none⟩ = some (.int .i64 y.b) ∧ w.cell? ⟨(ad.add (q * 8)).block, (ad.add (q * 8)).off + 7, none⟩ = some (.int .i64 y.h) := by
  generalize ad.add (q * 8) = z at h
  have h0 := h 0 _ rfl
  have h1 := h 1 _ rfl
  have h4 := h 4 _ rfl
  have h5 := h 5 _ rfl
  have h7 := h 7 _ rfl
  refine ⟨?_, by simpa [Addr.add] using h1, by simpa [Addr.add] using h4, by simpa [Addr.add] using h5, by simpa [Addr.add] using h7⟩
  simpa [Addr.add] using h0
structure Cs (w0 w : World) (xb mm : Nat) (A A' : Option Addr) (c c' : Nat) (t : Tre) (M : CM) : Prop where
  box : Blk w xb 25 #[.slice A t.l.length c, .slice A' t.y.length c', .int .i64 t.r]
  map : SMap w mm (fun s => (M s).map conV)
  low : Below w0.heap.size w0 w
  le : w0.heap.size ≤ mm
  tree : TreIs w A A' t
theorem Cs.next {w0 w w' : World} {xb mm : Nat} {A A' : Option Addr} {c c' : Nat} {t : Tre} {M : CM} (h : Cs w0 w xb mm A A' c c' t M) (hb : Below w.heap.size w w') : Cs w0 w' xb mm A A' c c' t M :=
  ⟨h.box.next hb, h.map.next hb, next_ h.low hb, h.le, h.tree.next hb⟩
theorem Reads.grownM {w w' : World} {B s n : Nat} {A : Option Addr} {l : List Value} (h : Reads w B s A n l) (hg : ∀ p : Addr, p.block < B → (∃ u, w.cell? p = some u) → w'.cell? p = w.cell? p) : Reads w' B s A n l := by
  refine ⟨h.1, fun hn => ?_⟩
  obtain ⟨ad, h1, h2, h3⟩ := h.2 hn
  refine ⟨ad, h1, h2, fun j u hj => ?_⟩
  rw [hg _ (by rw [block_of_add]; exact h2) ⟨u, h3 j u hj⟩]
  exact h3 j u hj
theorem TreIs.mapped {w w' : World} {A A' : Option Addr} {t : Tre} (h : TreIs w A A' t) {mm : Nat} {D : KS → Option Value} (hm : SMap w mm D) (hg : w.grownBy w' (some mm)) : TreIs w' A A' t := by
  have hk : ∀ p : Addr, p.block < w.heap.size → (∃ u, w.cell? p = some u) → w'.cell? p = w.cell? p := fun p hp ⟨u, hu⟩ => World.cell?_of_block (hg.block _ hp (fun e => hm.cell_ne hu (Option.some.inj e)))
  exact ⟨(h.nodes.grownM hk).more hg.size, (h.types.grownM hk).more hg.size⟩
theorem Cs.put {w0 w : World} {xb mm : Nat} {A A' : Option Addr} {c c' : Nat} {t : Tre} {M : CM} (h : Cs w0 w xb mm A A' c c' t M) (s : KS) (v : Con) : ∃ w', (Instr.mapUpdate 63 (.map (some mm)) (strV s) (conV v)).run Tryd.prog w = .ok () w' ∧ Cs w0 w' xb mm A A' c c' t (Go.Proofs.YtphojigdapaaiaaDoor.put M s v) ∧ w.grownBy w' (some mm) := by
  obtain ⟨w', hr, hm, hg⟩ := store63 h.map s (conV v)
  rw [con_put] at hm
  exact ⟨w', hr, ⟨h.box.grown hg (fun e => h.map.ne h.box (Option.some.inj e)), hm, h.low.grown hg h.low.size (fun j hj => by obtain rfl := Option.some.inj hj; exact h.le), h.le, h.tree.mapped h.map hg⟩, hg⟩
set_option maxRecDepth 100000 in
set_option maxHeartbeats 8000000 in
theorem c26 {t : Tre} {A A' : Option Addr} {c c' : Nat} (hs : Shp t) (w : World) (hT : TreIs w A A' t) (hy : t.y.length ≤ 281474976710656) : Calls Tryd.prog 26 #[treV A c A' c' t] w (ConsEnd t w) := by
  have HSH := Lib.hid hs
  have HYL := Lib.hid hy
  have hX := Blk.new w 25 #[.slice A t.l.length c, .slice A' t.y.length c', .int .i64 t.r]
  have hb0 := below_new w (.cells #[.slice A t.l.length c, .slice A' t.y.length c', .int .i64 t.r] 25)
  have hm := SMap.made (w.alloc (.cells #[.slice A t.l.length c, .slice A' t.y.length c', .int .i64 t.r] 25))
  have hbm := (Below.refl (w.alloc (.cells #[.slice A t.l.length c, .slice A' t.y.length c', .int .i64 t.r] 25)).heap.size (w.alloc (.cells #[.slice A t.l.length c, .slice A' t.y.length c', .int .i64 t.r] 25))).alloc (Nat.le_refl _) (.map #[] 0)
  rw [World.size_alloc] at hm
  have HC0 := Lib.hid (show Cs w ((w.alloc (.cells #[.slice A t.l.length c, .slice A' t.y.length c', .int .i64 t.r] 25)).alloc (.map #[] 0)) w.heap.size (w.heap.size + 1) A A' c c' t (fun _ => none) from ⟨hX.next hbm, hm, next_ hb0 hbm, by omega, (hT.next hb0).next hbm⟩)
  clear hs hy hT hX hb0 hm hbm
  show Calls Tryd.prog 26 #[.agg #[.slice A t.l.length c, .slice A' t.y.length c', .int .i64 t.r]] w _
  have hmk := @run_makeMap Tryd.prog
  go_enter Tryd.func26, Tryd.ntmps26
  go_upto_region 2 with fail
  clear hmk
  have HME := Lib.hid (Nat.le_refl w.heap.size)
  generalize (w.alloc (.cells #[.slice A t.l.length c, .slice A' t.y.length c', .int .i64 t.r] 25)).alloc (.map #[] 0) = w0 at HC0 ⊢
  generalize w.heap.size + 1 = mm at HC0 ⊢
  generalize hxb : w.heap.size = xb at HC0 ⊢
  have HXB := Lib.hid hxb
  clear hxb
  have x1 : w0.cell? ⟨xb, 1, none⟩ = some (.slice A' t.y.length c') := HC0.out.box.cell 1
  go_wp2_with fail
  clear x1
  go_loopw [15] (fun iv wr => ∃ (j : Nat) (M : CM), j ≤ t.y.length ∧ iv = .int .i64 j ∧ Cs w wr xb mm A A' c c' t M ∧ consL t (t.y.drop j) M = conMap t) (fun iv _ => t.y.length - (intOf iv).toNat)
  case atStart => exact ⟨0, fun _ => none, Nat.zero_le _, rfl, HC0.out, rfl⟩
  case round =>
    obtain ⟨j, M, hj, rfl, hc, heq⟩ := hrel
    have HC := Lib.hid hc
    have HE := Lib.hid heq
    clear hc heq HC0
    by_cases hlt : j < t.y.length
    case neg =>
      obtain rfl : j = t.y.length := by omega
      have hlj : ¬ ((t.y.length : Int) < (t.y.length : Int)) := by omega
      have HM := Lib.hid (show M = conMap t by have h := HE.out; rw [List.drop_length] at h; exact h)
      go_wp2_with fail
      go_ret
      exact ⟨mm, rfl, by rw [← HM.out]; exact HC.out.map, HC.out.le, HC.out.low⟩
    have HLT := Lib.hid hlt
    have hlj : (j : Int) < (t.y.length : Int) := by omega
    have hj0 : (0 : Int) ≤ (j : Int) := by omega
    obtain ⟨ad1, u, hA1, _, hu, hcell⟩ := HC.out.tree.types.at_ hlt
    subst hA1
    have hyj : t.y[j]? = some t.y[j] := List.getElem?_eq_getElem hlt
    have HTY := Lib.hid (HSH.out.ty _ (List.getElem_mem hlt))
    rw [List.getElem?_map, hyj] at hu
    obtain rfl := Option.some.inj hu
    have hdr : t.y.drop j = t.y[j] :: t.y.drop (j + 1) := List.drop_eq_getElem_cons hlt
    have HE1 := Lib.hid (show consL t (t.y.drop (j + 1)) (conChain t (nd t (t.y[j]).toNat).t 501 (nd t (t.y[j]).toNat).a 0 M) = conMap t by have h := HE.out; rw [hdr] at h; exact h)
    generalize t.y[j] = kc at hcell HTY HE1
    obtain ⟨k, rfl⟩ : ∃ k : Nat, kc = (k : Int) := ⟨kc.toNat, by have := HTY.out.1.1; omega⟩
    rw [Int.toNat_natCast] at HE1
    have hkl : k < t.l.length := by have h := HTY.out.1.2; omega
    have HKL := Lib.hid hkl
    have HDA := Lib.hid (HSH.out.data k hkl (by have h := HTY.out.2; rw [Int.toNat_natCast] at h; exact h))
    have hx := nd_at hkl
    generalize nd t k = x at hx HE1 HDA
    have HX := Lib.hid hx
    obtain ⟨ad, hA, _, hcs⟩ := HC.out.tree.nodes.nodAt hx
    subst hA
    obtain ⟨_, y1, y4, _, _⟩ := nod_cells hcs
    replace hcell : wr.cell? (ad1.add j) = some (.int .i64 (k : Int)) := hcell
    have x0 : wr.cell? ⟨xb, 0, none⟩ = some (.slice (some ad) t.l.length c) := HC.out.box.cell 0
    have i1 : (0 : Int) ≤ (k : Int) := by omega
    have i2 : (k : Int) < (t.l.length : Int) := by omega
    clear hcs hx hyj hu hdr HE
    go_wp2_with fail
    clear hcell y1 y4 x0 i1 i2
    go_loopw [6, 7] (fun iv cv wq => ∃ (n : Nat) (ci i : Int) (M1 : CM), iv = .int .i64 i ∧ cv = .int .i64 ci ∧ 0 ≤ i ∧ i + (n : Int) = 501 ∧ ci < (n : Int) ∧ (ci < 0 ∨ InR t.l.length ci ∧ (nd t ci.toNat).k = 43) ∧ Cs w wq xb mm (some ad) (some ad1) c c' t M1 ∧ consL t (t.y.drop (j + 1)) (conChain t x.t n ci i M1) = conMap t) (fun _ cv _ => (intOf cv + 1).toNat)
    case atStart => exact ⟨501, x.a, 0, M, rfl, rfl, by omega, by omega, by have h1 := HDA.out.1.2; have h2 := HKL.out; have h3 := HSH.out.len; omega, .inr ⟨⟨HDA.out.1.1, by have h1 := HDA.out.1.2; have h2 := HKL.out; omega⟩, HDA.out.2⟩, HC.out, HE1.out⟩
    case round =>
      obtain ⟨n, ci, i, M1, rfl, rfl, hi0, hin, hcn, hck, hc, heq⟩ := hrel
      have HC2 := Lib.hid hc
      have HE2 := Lib.hid heq
      have HCK := Lib.hid hck
      have HIN := Lib.hid hin
      have HCN := Lib.hid hcn
      have HI0 := Lib.hid hi0
      clear hc heq hck hin hcn hi0 HC HE1
      by_cases hc0 : ci < 0
      · have hcc : ¬ (0 : Int) ≤ ci := by omega
        have HE3 := Lib.hid (show consL t (t.y.drop (j + 1)) M1 = conMap t by
          rw [← HE2.out]
          cases n with
          | zero => rfl
          | succ n => simp only [conChain]; rw [if_pos hc0])
        have hj9 : (j : Int) + 1 ≤ 281474976710656 := by have := HLT.out; have := HYL.out; omega
        go_wp2_with fail
        go_roundw
        case rel => exact ⟨j + 1, M1, HLT.out, by go_num, HC2.out, HE3.out⟩
        case measure =>
          have := HLT.out
          simp [intOf]
          omega
      obtain ⟨q, rfl⟩ : ∃ q : Nat, ci = (q : Int) := ⟨ci.toNat, by omega⟩
      obtain ⟨n, rfl⟩ : ∃ n', n = n' + 1 := ⟨n - 1, by have := HCN.out; omega⟩
      have hck : InR t.l.length (q : Int) ∧ (nd t q).k = 43 := by
        rcases HCK.out with h | h
        · exact absurd h hc0
        · exact h
      have hql : q < t.l.length := by have h := hck.1.2; omega
      have HQL := Lib.hid hql
      have HCO := Lib.hid (HSH.out.con q hql hck.2)
      have HE3 := Lib.hid (show consL t (t.y.drop (j + 1)) (conChain t x.t n (nd t q).b (i + 1) (conStep x.t i (nd t q) M1)) = conMap t by
        rw [← HE2.out]
        simp only [conChain]
        rw [if_neg hc0]
        rfl)
      have hyx := nd_at hql
      generalize nd t q = y at hyx HCO HE3
      have HYX := Lib.hid hyx
      obtain ⟨adq, hAq, _, hcs⟩ := HC2.out.tree.nodes.nodAt hyx
      obtain rfl := Option.some.inj hAq
      have HCS := Lib.hid hcs
      have x0 : wr.cell? ⟨xb, 0, none⟩ = some (.slice (some ad) t.l.length c) := HC2.out.box.cell 0
      have i1 : (0 : Int) ≤ (q : Int) := by omega
      have i2 : (q : Int) < (t.l.length : Int) := by omega
      clear hcs hAq hyx hck hc0 HCK HE2 hql
      have hN := Blk.new wr 30 #[.int .i64 y.k, strV y.t, strV y.t2, .int .i64 y.n, .int .i64 y.a, .int .i64 y.b, .int .i64 y.c, .int .i64 y.h]
      have hb1 := below_new wr (.cells #[.int .i64 y.k, strV y.t, strV y.t2, .int .i64 y.n, .int .i64 y.a, .int .i64 y.b, .int .i64 y.c, .int .i64 y.h] 30)
      have HC3 := Lib.hid (HC2.out.next hb1)
      generalize hw1 : wr.alloc (.cells #[.int .i64 y.k, strV y.t, strV y.t2, .int .i64 y.n, .int .i64 y.a, .int .i64 y.b, .int .i64 y.c, .int .i64 y.h] 30) = w1 at hN hb1 HC3
      have HN1 := Lib.hid hN
      clear hN hb1 HC2
      go_upto_region 10 with (refine wpList_load_at rfl 30 (.tmp 36) rfl (ad.add (q * 8)) rfl [.int .i64 y.k, strV y.t, strV y.t2, .int .i64 y.n, .int .i64 y.a, .int .i64 y.b, .int .i64 y.c, .int .i64 y.h] _ HCS.out Tryd.underlying30 rfl (by kernel_rfl) ?_)
      clear hw1 x0 i1 i2
      generalize wr.heap.size = nb at HN1 ⊢
      have n1 : w1.cell? ⟨nb, 1, none⟩ = some (strV y.t) := HN1.out.cell 1
      cases hmy : M1 y.t with
      | some cc =>
        have HE4 := Lib.hid (show consL t (t.y.drop (j + 1)) (conChain t x.t n y.b (i + 1) M1) = conMap t by
          rw [← HE3.out]
          unfold conStep
          rw [hmy]
          rfl)
        have hlk : (Instr.lookup 63 (.map (some mm)) (strV y.t) true).run Tryd.prog w1 = .ok (.tuple #[.agg #[strV cc.typ, .int .i64 cc.num, .bool cc.has], .bool true]) w1 := by
          have h8 := look63 HC3.out.map y.t
          simp only [hmy] at h8
          exact h8
        clear hmy HE3
        have hbc := below_new w1 (.cells #[strV cc.typ, .int .i64 cc.num, .bool cc.has] 73)
        have HC4 := Lib.hid (HC3.out.next hbc)
        have HN4 := Lib.hid (HN1.out.next hbc)
        clear hbc
        go_upto_region 11 with fail
        clear hlk n1 HC3 HN1
        generalize w1.alloc (.cells #[strV cc.typ, .int .i64 cc.num, .bool cc.has] 73) = w4 at HC4 HN4 ⊢
        obtain ⟨adq, hAq, _, hcs⟩ := HC4.out.tree.nodes.nodAt HYX.out
        obtain rfl := Option.some.inj hAq
        obtain ⟨_, _, _, y5, _⟩ := nod_cells hcs
        have x0 : w4.cell? ⟨xb, 0, none⟩ = some (.slice (some ad) t.l.length c) := HC4.out.box.cell 0
        have i1 : (0 : Int) ≤ (q : Int) := by omega
        have i2 : (q : Int) < (t.l.length : Int) := by have := HQL.out; omega
        have j1 : (0 : Int) ≤ i := HI0.out
        have j2 : i ≤ 501 := by have := HIN.out; omega
        clear hcs hAq
        go_wp2_with fail
        clear y5 x0 i1 i2
        have hyb : y.b < (n : Int) ∧ (y.b < 0 ∨ InR t.l.length y.b ∧ (nd t y.b.toNat).k = 43) ∧ (y.b + 1).toNat < ((q : Int) + 1).toNat := by
          have hcn := HCN.out
          have hql := HQL.out
          rcases HCO.out with h | ⟨⟨h1, h2⟩, h3⟩
          · exact ⟨by omega, .inl h, by omega⟩
          · exact ⟨by omega, .inr ⟨⟨h1, by omega⟩, h3⟩, by omega⟩
        have HYB := Lib.hid hyb
        clear hyb
        have hin : i + 1 + (n : Int) = 501 := by have := HIN.out; omega
        go_roundw
        case rel => exact ⟨n, y.b, i + 1, _, by first | rfl | go_num, rfl, by omega, hin, HYB.out.1, HYB.out.2.1, HC4.out, HE4.out⟩
        case measure =>
          simp only [intOf]
          exact HYB.out.2.2
      | none =>
        have HE4 := Lib.hid (show consL t (t.y.drop (j + 1)) (conChain t x.t n y.b (i + 1) (put M1 y.t ⟨x.t, i, decide (0 ≤ y.a)⟩)) = conMap t by
          rw [← HE3.out]
          unfold conStep
          rw [hmy]
          rfl)
        have hlk : (Instr.lookup 63 (.map (some mm)) (strV y.t) true).run Tryd.prog w1 = .ok (.tuple #[.agg #[strV zCon.typ, .int .i64 zCon.num, .bool zCon.has], .bool false]) w1 := by
          have h8 := look63 HC3.out.map y.t
          simp only [hmy] at h8
          exact h8
        clear hmy HE3
        have hbc := below_new w1 (.cells #[strV zCon.typ, .int .i64 zCon.num, .bool zCon.has] 73)
        have HC4 := Lib.hid (HC3.out.next hbc)
        have HN4 := Lib.hid (HN1.out.next hbc)
        clear hbc
        go_upto_region 11 with fail
        clear hlk n1 HC3 HN1
        generalize w1.alloc (.cells #[strV zCon.typ, .int .i64 zCon.num, .bool zCon.has] 73) = w4 at HC4 HN4 ⊢
        go_upto_region 12 with fail
        have hk1 : (0 : Int) ≤ (k : Int) := by omega
        have hk2 : (k : Int) < (t.l.length : Int) := by have := HKL.out; omega
        obtain ⟨adk, hAk, _, hck⟩ := HC4.out.tree.nodes.nodAt HX.out
        obtain rfl := Option.some.inj hAk
        obtain ⟨_, z1, _, _, _⟩ := nod_cells hck
        have HCd := Lib.hid (show Cs w w4.drew xb mm (some ad) (some ad1) c c' t M1 from HC4.out.next (show Below w4.heap.size w4 w4.drew from (Below.refl _ _).drew))
        have HNd := Lib.hid (show Blk w4.drew nb 30 #[.int .i64 y.k, strV y.t, strV y.t2, .int .i64 y.n, .int .i64 y.a, .int .i64 y.b, .int .i64 y.c, .int .i64 y.h] from HN4.out)
        refine wp_region_last (S := fun V => V.cell? ⟨nb, 1, none⟩ = some (strV y.t) ∧ V.cell? ⟨xb, 0, none⟩ = some (.slice (some ad) t.l.length c) ∧ V.cell? ⟨(ad.add (k * 8)).block, (ad.add (k * 8)).off + 1, none⟩ = some (strV x.t) ∧ V.cell? ⟨nb, 4, none⟩ = some (.int .i64 y.a)) 14 (by kernel_rfl) (by kernel_rfl) (by kernel_rfl) (by kernel_rfl) ⟨HN4.out.cell 1, HC4.out.box.cell 0, z1, HN4.out.cell 4⟩ (fun hHeld => ?_)
        clear HC4 HN4 hck hAk z1
        generalize w4.drew = d at HCd HNd hHeld ⊢
        refine tkH 0 47 ?_ rfl ?_ ?_
        rotate_left
        · rintro V ⟨s0, s1, s2, s3⟩; go_simp; try with_reducible rfl
        try simp only [Act.put, sLA, sL0, sL1]
        refine tkH 1 48 ?_ rfl ?_ ?_
        rotate_left
        · rintro V ⟨s0, s1, s2, s3⟩; go_simp; try with_reducible rfl
        try simp only [Act.put, sLA, sL0, sL1]
        refine tkH 2 49 ?_ rfl ?_ ?_
        rotate_left
        · rintro V ⟨s0, s1, s2, s3⟩; go_simp; try with_reducible rfl
        try simp only [Act.put, sLA, sL0, sL1]
        refine tkH 3 50 ?_ rfl ?_ ?_
        rotate_left
        · rintro V ⟨s0, s1, s2, s3⟩; go_simp; try with_reducible rfl
        try simp only [Act.put, sLA, sL0, sL1]
        refine tkH 4 51 ?_ rfl ?_ ?_
        rotate_left
        · rintro V ⟨s0, s1, s2, s3⟩; go_simp; try with_reducible rfl
        try simp only [Act.put, sLA, sL0, sL1]
        refine tkH 5 52 ?_ rfl ?_ ?_
        rotate_left
        · rintro V ⟨s0, s1, s2, s3⟩; go_simp; try with_reducible rfl
        try simp only [Act.put, sLA, sL0, sL1]
        refine tkH 6 53 ?_ rfl ?_ ?_
        rotate_left
        · rintro V ⟨s0, s1, s2, s3⟩; go_simp; try with_reducible rfl
        try simp only [Act.put, sLA, sL0, sL1]
        refine tkH 7 54 ?_ rfl ?_ ?_
        rotate_left
        · rintro V ⟨s0, s1, s2, s3⟩; go_simp; try with_reducible rfl
        try simp only [Act.put, sLA, sL0, sL1]
        refine tkH 8 55 ?_ rfl ?_ ?_
        rotate_left
        · rintro V ⟨s0, s1, s2, s3⟩; go_simp; try with_reducible rfl
        try simp only [Act.put, sLA, sL0, sL1]
        refine tkH 9 56 ?_ rfl ?_ ?_
        rotate_left
        · rintro V ⟨s0, s1, s2, s3⟩; go_simp; try with_reducible rfl
        try simp only [Act.put, sLA, sL0, sL1]
        refine tkH 10 57 ?_ rfl ?_ ?_
        rotate_left
        · rintro V ⟨s0, s1, s2, s3⟩; go_simp; try with_reducible rfl
        try simp only [Act.put, sLA, sL0, sL1]
        refine tkH 11 58 ?_ rfl ?_ ?_
        rotate_left
        · rintro V ⟨s0, s1, s2, s3⟩; go_simp; try with_reducible rfl
        try simp only [Act.put, sLA, sL0, sL1]
        refine tkH 12 59 ?_ rfl ?_ ?_
        rotate_left
        · rintro V ⟨s0, s1, s2, s3⟩; go_simp; try with_reducible rfl
        try simp only [Act.put, sLA, sL0, sL1]
        refine tkH 13 60 ?_ rfl ?_ ?_
        rotate_left
        · rintro V ⟨s0, s1, s2, s3⟩; go_simp; try with_reducible rfl
        try simp only [Act.put, sLA, sL0, sL1]
        obtain ⟨w5, hst, hc5, hg5⟩ := HCd.out.put y.t ⟨x.t, i, decide (0 ≤ y.a)⟩
        replace hst : (Instr.mapUpdate 63 (.map (some mm)) (strV y.t) (.agg #[strV x.t, .int .i64 i, .bool (decide (0 ≤ y.a))])).run Tryd.prog d = .ok () w5 := hst
        have HC5 := Lib.hid hc5
        clear hc5 hg5
        refine wpAnyH_done (by kernel_rfl) ?_ _
        refine lastPost_run (o := ⟨none, _, _, _, _, _⟩) rfl (fun K hK => ?_)
        go_simp
        refine hK.out _ _ ?_
        clear hK K hst hk1 hk2 hHeld HCd HNd
        obtain ⟨adq, hAq, _, hcs⟩ := HC5.out.tree.nodes.nodAt HYX.out
        obtain rfl := Option.some.inj hAq
        obtain ⟨_, _, _, y5, _⟩ := nod_cells hcs
        have x0 : w5.cell? ⟨xb, 0, none⟩ = some (.slice (some ad) t.l.length c) := HC5.out.box.cell 0
        have i1 : (0 : Int) ≤ (q : Int) := by omega
        have i2 : (q : Int) < (t.l.length : Int) := by have := HQL.out; omega
        have j1 : (0 : Int) ≤ i := HI0.out
        have j2 : i ≤ 501 := by have := HIN.out; omega
        clear hcs hAq
        go_wp2_with fail
        clear y5 x0 i1 i2
        have hyb : y.b < (n : Int) ∧ (y.b < 0 ∨ InR t.l.length y.b ∧ (nd t y.b.toNat).k = 43) ∧ (y.b + 1).toNat < ((q : Int) + 1).toNat := by
          have hcn := HCN.out
          have hql := HQL.out
          rcases HCO.out with h | ⟨⟨h1, h2⟩, h3⟩
          · exact ⟨by omega, .inl h, by omega⟩
          · exact ⟨by omega, .inr ⟨⟨h1, by omega⟩, h3⟩, by omega⟩
        have HYB := Lib.hid hyb
        clear hyb
        have hin : i + 1 + (n : Int) = 501 := by have := HIN.out; omega
        go_roundw
        case rel => exact ⟨n, y.b, i + 1, _, by first | rfl | go_num, rfl, by omega, hin, HYB.out.1, HYB.out.2.1, HC5.out, HE4.out⟩
        case measure =>
          simp only [intOf]
          exact HYB.out.2.2
def bm (N : KS → Bool) : KS → Option Value := fun s => if N s then some (.bool true) else none
theorem bm_ins (N : KS → Bool) (s : KS) : (fun x => if x = s then some (.bool true) else bm N x) = bm (ins N s) := by
  funext x
  unfold bm ins
  by_cases h : x = s
  · rw [if_pos h, if_pos h]; rfl
  · rw [if_neg h, if_neg h]
theorem lookB {W : World} {b : Nat} {N : KS → Bool} (h : SMap W b (bm N)) (g : KS) : (Instr.lookup 85 (.map (some b)) (strV g) false).run Tryd.prog W = .ok (.bool (N g)) W := by
  rw [look85 h g]
  unfold bm
  cases N g <;> rfl
structure Ty (W0 : World) (g pb cb bb : Nat) (A A' : Option Addr) (c c' : Nat) (t : Tre) (M : CM) (B : KS → Int) (mn mt lo : Nat) (S : TS) (w : World) : Prop where
  ak : Ak W0 g pb cb bb A A' c c' t M B S.bad w
  nm : SMap w mn (bm S.names)
  mp : SMap w mt (bm S.met)
  ln : lo ≤ mn
  lt : lo ≤ mt
  ne : mn ≠ mt
  far : W0.heap.size ≤ lo ∧ g < lo ∧ pb < lo ∧ cb < lo ∧ bb < lo
section
variable {W0 w w' : World} {g pb cb bb mn mt lo : Nat} {A A' : Option Addr} {c c' : Nat} {t : Tre} {M : CM} {B : KS → Int} {S : TS}
theorem Ty.next (h : Ty W0 g pb cb bb A A' c c' t M B mn mt lo S w) (hb : Below w.heap.size w w') : Ty W0 g pb cb bb A A' c c' t M B mn mt lo S w' :=
  ⟨h.ak.next hb, h.nm.next hb, h.mp.next hb, h.ln, h.lt, h.ne, h.far⟩
theorem Ty.drewN (h : Ty W0 g pb cb bb A A' c c' t M B mn mt lo S w) (n : Nat) : Ty W0 g pb cb bb A A' c c' t M B mn mt lo S (w.drewN n) := h.next (below_drewN (Below.refl _ _) n)
theorem Ty.setBad (h : Ty W0 g pb cb bb A A' c c' t M B mn mt lo S w) (k : Nat) (b : Bool) : Ty W0 g pb cb bb A A' c c' t M B mn mt lo { S with bad := S.bad.set k b } (w.setCell ⟨pb, k, none⟩ (.bool b)) := by
  have hf := h.far
  have h1 := h.ln
  have h2 := h.lt
  exact ⟨h.ak.setBad k b, map_set h.nm (p := ⟨pb, k, none⟩) (by show pb ≠ mn; omega) _, map_set h.mp (p := ⟨pb, k, none⟩) (by show pb ≠ mt; omega) _, h1, h2, h.ne, hf⟩
theorem Ty.insN (h : Ty W0 g pb cb bb A A' c c' t M B mn mt lo S w) (s : KS) : ∃ w', (Instr.mapUpdate 85 (.map (some mn)) (strV s) (.bool true)).run Tryd.prog w = .ok () w' ∧ Ty W0 g pb cb bb A A' c c' t M B mn mt lo { S with names := ins S.names s } w' ∧ w.grownBy w' (some mn) := by
  obtain ⟨w', hr, hm, hg⟩ := store85 h.nm s (.bool true)
  rw [bm_ins] at hm
  have hf := h.far
  have h1 := h.ln
  exact ⟨w', hr, ⟨h.ak.grown hg (fun k hk => by obtain rfl := Option.some.inj hk; exact ⟨by omega, by omega, by omega, by omega, by omega⟩), hm, h.mp.keep (hg.block _ h.mp.lt (fun e => h.ne (Option.some.inj e).symm)), h1, h.lt, h.ne, hf⟩, hg⟩
theorem Ty.insM (h : Ty W0 g pb cb bb A A' c c' t M B mn mt lo S w) (s : KS) : ∃ w', (Instr.mapUpdate 85 (.map (some mt)) (strV s) (.bool true)).run Tryd.prog w = .ok () w' ∧ Ty W0 g pb cb bb A A' c c' t M B mn mt lo { S with met := ins S.met s } w' ∧ w.grownBy w' (some mt) := by
  obtain ⟨w', hr, hm, hg⟩ := store85 h.mp s (.bool true)
  rw [bm_ins] at hm
  have hf := h.far
  have h1 := h.lt
  exact ⟨w', hr, ⟨h.ak.grown hg (fun k hk => by obtain rfl := Option.some.inj hk; exact ⟨by omega, by omega, by omega, by omega, by omega⟩), h.nm.keep (hg.block _ h.nm.lt (fun e => h.ne (Option.some.inj e))), hm, h.ln, h1, h.ne, hf⟩, hg⟩
theorem Ty.made {bad : List Bool} (h : Ak W0 g pb cb bb A A' c c' t M B bad w) : Ty W0 g pb cb bb A A' c c' t M B w.heap.size (w.heap.size + 1) w.heap.size ⟨bad, fun _ => false, fun _ => false⟩ ((w.alloc (.map #[] 0)).alloc (.map #[] 0)) := by
  have h1 := SMap.made w
  have hb1 := (Below.refl w.heap.size w).alloc (Nat.le_refl _) (.map #[] 0)
  have h2 := SMap.made (w.alloc (.map #[] 0))
  have hb2 := (Below.refl (w.alloc (.map #[] 0)).heap.size (w.alloc (.map #[] 0))).alloc (Nat.le_refl _) (.map #[] 0)
  rw [World.size_alloc] at h2
  exact ⟨(h.next hb1).next hb2, h1.next hb2, h2, by omega, by omega, by omega, h.size, h.ask.lt, h.mark.lt, h.con.lt, by obtain ⟨D, hD, _⟩ := h.bnd; exact hD.lt⟩
theorem Ty.farS (h : Ty W0 g pb cb bb A A' c c' t M B mn mt lo S w) {b i : Nat} {ty : TypeId} {cs : Array Value} (h1 : lo ≤ b) (h2 : Blk w b ty cs) (u : Value) : Ty W0 g pb cb bb A A' c c' t M B mn mt lo S (w.setCell ⟨b, i, none⟩ u) := by
  have hf := h.far
  exact ⟨h.ak.far (by omega) (by omega) (by omega) (by omega) (by omega) u, map_set h.nm (p := ⟨b, i, none⟩) (h.nm.ne h2) u, map_set h.mp (p := ⟨b, i, none⟩) (h.mp.ne h2) u, h.ln, h.lt, h.ne, h.far⟩
theorem Ty.nod (h : Ty W0 g pb cb bb A A' c c' t M B mn mt lo S w) : TreIs w A A' t := h.ak.tree.next h.ak.low
end
theorem alloc2_below (w : World) (o1 o2 : Obj) : Below w.heap.size w ((w.alloc o1).alloc o2) := next_ ((Below.refl w.heap.size w).alloc (Nat.le_refl _) o1) ((Below.refl (w.alloc o1).heap.size (w.alloc o1)).alloc (Nat.le_refl _) o2)
theorem types_drop {t : Tre} {j : Nat} (h : j < t.y.length) (S : TS) : typesL t (t.y.drop j) S = typesL t (t.y.drop (j + 1)) (metChain t 501 (nd t (t.y[j]).toNat).a (tyStep (t.y[j]).toNat (nd t (t.y[j]).toNat) S)) := by
  rw [List.drop_eq_getElem_cons h]
  rfl
end Go.Proofs.YtphojigdapaaiaaDoor
