/- ast.kids, ast.Kids. -/
import Derived.Test.YtphojigdapaaiaaDoorAGd
namespace Go.Proofs.YtphojigdapaaiaaDoor
open Go.ChangeShapes Go.WideShapes Go.ChangeAt Go.RowKit
set_option linter.unusedVariables false
set_option linter.unusedSimpArgs false
def kid1 (is at_ : Int) : List Int := if is ≠ 0 ∧ 0 ≤ at_ then [at_] else []
def kidTo (r : RowA) (x : Nod) : Nat → List Int
  | 0 => []
  | 1 => kid1 r.a x.a
  | 2 => kid1 r.a x.a ++ kid1 r.b x.b
  | _ => kid1 r.a x.a ++ kid1 r.b x.b ++ kid1 r.c x.c
theorem kid1_len (a b : Int) : (kid1 a b).length ≤ 1 := by unfold kid1; split <;> simp
theorem kidTo_len (r : RowA) (x : Nod) (j : Nat) : (kidTo r x j).length ≤ 3 := by
  have h1 := kid1_len r.a x.a
  have h2 := kid1_len r.b x.b
  have h3 := kid1_len r.c x.c
  unfold kidTo
  split <;> (try simp only [List.length_append, List.length_nil]) <;> omega
/-- A node's children. -/
def kidsL (x : Nod) : List Int := kidTo (ofL x).1 x 3
/-- Ints of the call's own. -/
structure IRow (w0 w : World) (A : Option Addr) (c : Nat) (L : List Int) : Prop where
  own : w.ownsRow w0.heap.size 3 1 (.slice A L.length c) L.length (L.map intV)
  low : Below w0.heap.size w0 w
theorem IRow.next {w0 w w' : World} {A : Option Addr} {c : Nat} {L : List Int} (h : IRow w0 w A c L) (hb : Below w.heap.size w w') : IRow w0 w' A c L := ⟨own_next h.own hb, next_ h.low hb⟩
theorem IRow.push {w0 w w' : World} {A : Option Addr} {c : Nat} {L : List Int} (h : IRow w0 w A c L) {M : List Int} {v' : Value} (o : w'.ownsRow w0.heap.size 3 1 v' (L.length + M.length) (L.map intV ++ M.map intV))
    (g : w.grownBy w' (Value.ownBlock (.slice A L.length c))) : ∃ A' c', v' = .slice A' (L ++ M).length c' ∧ IRow w0 w' A' c' (L ++ M) := by
  have o' : w'.ownsRow w0.heap.size 3 1 v' (L ++ M).length ((L ++ M).map intV) := by rw [List.map_append, List.length_append]; exact o
  obtain ⟨A', c', rfl⟩ := own_form o'
  exact ⟨A', c', rfl, o', h.low.grown g h.low.size (fun k hk => (h.own.lt k hk).1)⟩
def KidsEnd (L : List Int) (w : World) (e : Ending) (w' : World) : Prop := ∃ A c, e = .returned (.slice A L.length c) ∧ IRow w w' A c L
theorem IRow.nil (w : World) : IRow w w none 0 [] := ⟨⟨rfl, .inl ⟨rfl, rfl⟩⟩, Below.refl _ _⟩
set_option maxRecDepth 100000 in
set_option maxHeartbeats 8000000 in
theorem c24 (t : Tre) (A A' : Option Addr) (c c' : Nat) (k : Nat) (x : Nod) (w : World) (hT : TreIs w A A' t) (hS : AstTab w) (hx : t.l[k]? = some x) (hl : t.l.length ≤ 281474976710656) :
    Calls Tryd.prog 24 #[treV A c A' c' t, .int .i64 (k : Int)] w (KidsEnd (kidsL x) w) := by
  obtain ⟨i3, fi3, iz0, iz1, iz2⟩ := info_parts int_info
  have H3 := Lib.hid (show i3.zero = some (.int .i64 0) ∧ i3.size = 1 ∧ i3.bytes = 8 from ⟨iz0, iz1, iz2⟩)
  clear iz0 iz1 iz2
  show Calls Tryd.prog 24 #[.agg #[.slice A t.l.length c, .slice A' t.y.length c', .int .i64 t.r], .int .i64 (k : Int)] w _
  have hkl : k < t.l.length := (List.getElem?_eq_some_iff.1 hx).1
  have hk0 : (0 : Int) ≤ (k : Int) := by omega
  have hk1 : (k : Int) < (t.l.length : Int) := by omega
  have hX := Blk.new w 25 #[.slice A t.l.length c, .slice A' t.y.length c', .int .i64 t.r]
  have hb0 := below_new w (.cells #[.slice A t.l.length c, .slice A' t.y.length c', .int .i64 t.r] 25)
  have hT1 := hT.next hb0
  have HS := Lib.hid (hS.next hb0)
  obtain ⟨ad, rfl, _, hcs⟩ := hT1.nodes.nodAt hx
  have HCS := Lib.hid hcs
  generalize hw1 : w.alloc (.cells #[.slice (some ad) t.l.length c, .slice A' t.y.length c', .int .i64 t.r] 25) = w1 at hX hb0 HCS HS
  have x0 : w1.cell? ⟨w.heap.size, 0, none⟩ = some (.slice (some ad) t.l.length c) := hX.cell 0
  have hN := Blk.new w1 30 #[.int .i64 x.k, strV x.t, strV x.t2, .int .i64 x.n, .int .i64 x.a, .int .i64 x.b, .int .i64 x.c, .int .i64 x.h]
  have hb2 := below_new w1 (.cells #[.int .i64 x.k, strV x.t, strV x.t2, .int .i64 x.n, .int .i64 x.a, .int .i64 x.b, .int .i64 x.c, .int .i64 x.h] 30)
  have HB2 := Lib.hid (next_ hb0 hb2)
  have HS2 := Lib.hid (HS.out.next hb2)
  generalize hw2 : w1.alloc (.cells #[.int .i64 x.k, strV x.t, strV x.t2, .int .i64 x.n, .int .i64 x.a, .int .i64 x.b, .int .i64 x.c, .int .i64 x.h] 30) = w2 at hN HB2 HS2
  have HN := Lib.hid hN
  clear hX hb0 hT1 hT hS hcs hN hb2 hx
  go_enter Tryd.func24, Tryd.ntmps24
  go_upto_region 2 with (first | (refine wpList_load_at rfl 30 (.tmp 14) rfl (ad.add (k * 8)) rfl [.int .i64 x.k, strV x.t, strV x.t2, .int .i64 x.n, .int .i64 x.a, .int .i64 x.b, .int .i64 x.c, .int .i64 x.h] _ HCS.out Tryd.underlying30 rfl (by kernel_rfl) ?_))
  clear hw1 hw2 x0 hk0 hk1
  generalize w1.heap.size = nb at HN ⊢
  have n0 : w2.cell? ⟨nb, 0, none⟩ = some (.int .i64 x.k) := HN.out.cell 0
  have n1 : w2.cell? ⟨nb, 1, none⟩ = some (strV x.t) := HN.out.cell 1
  have n2 : w2.cell? ⟨nb, 2, none⟩ = some (strV x.t2) := HN.out.cell 2
  have n3 : w2.cell? ⟨nb, 3, none⟩ = some (.int .i64 x.n) := HN.out.cell 3
  have n4 : w2.cell? ⟨nb, 4, none⟩ = some (.int .i64 x.a) := HN.out.cell 4
  have n5 : w2.cell? ⟨nb, 5, none⟩ = some (.int .i64 x.b) := HN.out.cell 5
  have n6 : w2.cell? ⟨nb, 6, none⟩ = some (.int .i64 x.c) := HN.out.cell 6
  have n7 : w2.cell? ⟨nb, 7, none⟩ = some (.int .i64 x.h) := HN.out.cell 7
  have HC := Lib.hid (show Calls Tryd.prog 34 #[.agg #[.int .i64 x.k, strV x.t, strV x.t2, .int .i64 x.n, .int .i64 x.a, .int .i64 x.b, .int .i64 x.c, .int .i64 x.h]] w2 (OfEnd x w2) from c34 x w2 HS2.out)
  go_wp2_with fail
  refine HC.out.mono ?_
  rintro e w3 ⟨rfl, hb3⟩
  have HN3 := Lib.hid (HN.out.next hb3)
  have HB3 := Lib.hid (next_ HB2.out hb3)
  clear n0 n1 n2 n3 n4 n5 n6 n7
  clear hb3 HC HN HB2
  have HKL := Lib.hid (show kidsL x = kidTo (ofL x).1 x 3 from rfl)
  obtain ⟨r, hr⟩ : ∃ r, r = (ofL x).1 := ⟨_, rfl⟩
  obtain ⟨u, hu⟩ : ∃ u, u = (ofL x).2 := ⟨_, rfl⟩
  rw [← hr] at HKL ⊢
  rw [← hu]
  clear hr hu
  rw [show (rowC r).toArray = #[.int .u8 r.is_, .int .u8 r.a, .int .u8 r.b, .int .u8 r.c, .int .i64 r.text, .int .i64 r.second, .int .i64 r.lo, .int .i64 r.hi] from rfl]
  have hR4 := Blk.new w3 59 #[.int .u8 r.is_, .int .u8 r.a, .int .u8 r.b, .int .u8 r.c, .int .i64 r.text, .int .i64 r.second, .int .i64 r.lo, .int .i64 r.hi]
  have hb4 := below_new w3 (.cells #[.int .u8 r.is_, .int .u8 r.a, .int .u8 r.b, .int .u8 r.c, .int .i64 r.text, .int .i64 r.second, .int .i64 r.lo, .int .i64 r.hi] 59)
  have HN4 := Lib.hid (HN3.out.next hb4)
  have HB4 := Lib.hid (next_ HB3.out hb4)
  generalize hw4 : w3.alloc (.cells #[.int .u8 r.is_, .int .u8 r.a, .int .u8 r.b, .int .u8 r.c, .int .i64 r.text, .int .i64 r.second, .int .i64 r.lo, .int .i64 r.hi] 59) = w4 at hR4 HN4 HB4
  have HR4 := Lib.hid hR4
  clear hR4 hb4 HN3 HB3
  go_upto_region 4 with fail
  clear hw4
  generalize w3.heap.size = rb at HR4 ⊢
  have HCH := Lib.hid (show Calls Tryd.prog 37 #[.agg #[.int .u8 r.is_, .int .u8 r.a, .int .u8 r.b, .int .u8 r.c, .int .i64 r.text, .int .i64 r.second, .int .i64 r.lo, .int .i64 r.hi], .agg #[.int .i64 x.k, strV x.t, strV x.t2, .int .i64 x.n, .int .i64 x.a, .int .i64 x.b, .int .i64 x.c, .int .i64 x.h]] w4 _ from c37 r x w4)
  have n0 : w4.cell? ⟨nb, 0, none⟩ = some (.int .i64 x.k) := HN4.out.cell 0
  have n1 : w4.cell? ⟨nb, 1, none⟩ = some (strV x.t) := HN4.out.cell 1
  have n2 : w4.cell? ⟨nb, 2, none⟩ = some (strV x.t2) := HN4.out.cell 2
  have n3 : w4.cell? ⟨nb, 3, none⟩ = some (.int .i64 x.n) := HN4.out.cell 3
  have n4 : w4.cell? ⟨nb, 4, none⟩ = some (.int .i64 x.a) := HN4.out.cell 4
  have n5 : w4.cell? ⟨nb, 5, none⟩ = some (.int .i64 x.b) := HN4.out.cell 5
  have n6 : w4.cell? ⟨nb, 6, none⟩ = some (.int .i64 x.c) := HN4.out.cell 6
  have n7 : w4.cell? ⟨nb, 7, none⟩ = some (.int .i64 x.h) := HN4.out.cell 7
  have r0 : w4.cell? ⟨rb, 0, none⟩ = some (.int .u8 r.is_) := HR4.out.cell 0
  have r1 : w4.cell? ⟨rb, 1, none⟩ = some (.int .u8 r.a) := HR4.out.cell 1
  have r2 : w4.cell? ⟨rb, 2, none⟩ = some (.int .u8 r.b) := HR4.out.cell 2
  have r3 : w4.cell? ⟨rb, 3, none⟩ = some (.int .u8 r.c) := HR4.out.cell 3
  have r4 : w4.cell? ⟨rb, 4, none⟩ = some (.int .i64 r.text) := HR4.out.cell 4
  have r5 : w4.cell? ⟨rb, 5, none⟩ = some (.int .i64 r.second) := HR4.out.cell 5
  have r6 : w4.cell? ⟨rb, 6, none⟩ = some (.int .i64 r.lo) := HR4.out.cell 6
  have r7 : w4.cell? ⟨rb, 7, none⟩ = some (.int .i64 r.hi) := HR4.out.cell 7
  go_wp2_with fail
  refine HCH.out.mono ?_
  rintro e w5 ⟨rfl, hb5⟩
  rw [show (chC r x).toArray = #[.int .u8 r.a, .int .i64 x.a, .int .u8 r.b, .int .i64 x.b, .int .u8 r.c, .int .i64 x.c] from rfl]
  clear n0 n1 n2 n3 n4 n5 n6 n7
  clear r0 r1 r2 r3 r4 r5 r6 r7
  have HB5 := Lib.hid (next_ HB4.out hb5)
  clear hb5 HB4 HN4 HR4 HCH
  go_wp2_with fail
  have hx0 : ∀ w, (Instr.index 82 (.agg #[.int .u8 r.a, .int .i64 x.a, .int .u8 r.b, .int .i64 x.b, .int .u8 r.c, .int .i64 x.c]) (.int .i64 0)).run Tryd.prog w = .ok (.agg #[.int .u8 r.a, .int .i64 x.a]) w := fun w => (idx82 _ _ _ _ _ _ w).1
  have hx1 : ∀ w, (Instr.index 82 (.agg #[.int .u8 r.a, .int .i64 x.a, .int .u8 r.b, .int .i64 x.b, .int .u8 r.c, .int .i64 x.c]) (.int .i64 1)).run Tryd.prog w = .ok (.agg #[.int .u8 r.b, .int .i64 x.b]) w := fun w => (idx82 _ _ _ _ _ _ w).2.1
  have hx2 : ∀ w, (Instr.index 82 (.agg #[.int .u8 r.a, .int .i64 x.a, .int .u8 r.b, .int .i64 x.b, .int .u8 r.c, .int .i64 x.c]) (.int .i64 2)).run Tryd.prog w = .ok (.agg #[.int .u8 r.c, .int .i64 x.c]) w := fun w => (idx82 _ _ _ _ _ _ w).2.2
  go_loopw [8, 24] (fun b i wr => ∃ (j : Nat) (A : Option Addr) (c : Nat), j ≤ 3 ∧ i = .int .i64 j ∧ b = .slice A (kidTo r x j).length c ∧ IRow w wr A c (kidTo r x j)) (fun _ i _ => 3 - (intOf i).toNat)
  case atStart => exact ⟨0, none, 0, by omega, rfl, rfl, ⟨⟨rfl, .inl ⟨rfl, rfl⟩⟩, HB5.out⟩⟩
  case round =>
    obtain ⟨j, A, c, hj, rfl, rfl, hI⟩ := hrel
    have HI := Lib.hid hI
    clear hI HB5
    rcases (by omega : j = 0 ∨ j = 1 ∨ j = 2 ∨ j = 3) with rfl | rfl | rfl | rfl
    · have hk9 : kidTo r x 1 = kidTo r x 0 ++ kid1 r.a x.a := by simp [kidTo]
      have HK9 := Lib.hid hk9
      clear hk9
      have HL := Lib.hid (kidTo_len r x 0)
      generalize kidTo r x 0 = L at HI HK9 HL ⊢
      have hK := Blk.new wr 81 #[.int .u8 r.a, .int .i64 x.a]
      have hb6 := below_new wr (.cells #[.int .u8 r.a, .int .i64 x.a] 81)
      have HI6 := Lib.hid (HI.out.next hb6)
      generalize hw6 : wr.alloc (.cells #[.int .u8 r.a, .int .i64 x.a] 81) = w6 at hK HI6
      have HK := Lib.hid hK
      clear hK hb6
      go_upto_region 7 with fail
      clear hw6
      generalize wr.heap.size = kb at HK ⊢
      have z0 : w6.cell? ⟨kb, 0, none⟩ = some (.int .u8 r.a) := HK.out.cell 0
      have z1 : w6.cell? ⟨kb, 1, none⟩ = some (.int .i64 x.a) := HK.out.cell 1
      by_cases hz : r.a = 0
      · have e1 : (r.a != 0) = false := by rw [hz]; rfl
        have HK0 := Lib.hid (show kidTo r x 1 = L by rw [HK9.out]; unfold kid1; rw [if_neg (fun h => h.1 hz)]; simp)
        clear hz
        go_wp2_with fail
        go_roundw
        case rel => exact ⟨1, A, c, by omega, by go_num, by rw [HK0.out], by rw [HK0.out]; exact HI6.out⟩
        case measure => simp [intOf]
      have e1 : (r.a != 0) = true := bne_iff_ne.2 hz
      by_cases hp : 0 ≤ x.a
      case neg =>
        have HK0 := Lib.hid (show kidTo r x 1 = L by rw [HK9.out]; unfold kid1; rw [if_neg (fun h => hp h.2)]; simp)
        clear hz
        go_wp2_with fail
        go_roundw
        case rel => exact ⟨1, A, c, by omega, by go_num, by rw [HK0.out], by rw [HK0.out]; exact HI6.out⟩
        case measure => simp [intOf]
      have HK0 := Lib.hid (show kidTo r x 1 = L ++ [x.a] by rw [HK9.out]; unfold kid1; rw [if_pos ⟨hz, hp⟩])
      clear hz
      go_wp2_with (at_builtin; refine wpList_append_any _ rfl (.tmp 35) (.tmp 38) 23 rfl w.heap.size 3 i3 _ 1 8 Tryd.underlying23 fi3 H3.out.1 H3.out.2.1 H3.out.2.2 rfl (by omega) (.slice A L.length c) L.length (L.map intV) rfl (own_next HI6.out.own (below_new _ _)) (w6.heap.size + 1) (some ⟨w6.heap.size, 0, none⟩) 1 1 ([x.a].map intV) rfl (reads_blkN (Blk.new w6 3 #[.int .i64 x.a]) rfl) (int_one _) (by unfold maxLen; have := HL.out; omega) (by have := HL.out; omega) (by rw [World.size_alloc]; have := HI6.out.low.size; omega) ?_; intro v1 w7 oA gA nA; obtain ⟨A1, c1, rfl, hI7⟩ := (HI6.out.next (below_new w6 (.cells #[.int .i64 x.a] 3))).push (M := [x.a]) oA gA; have HI7 := Lib.hid hI7; clear oA gA nA hI7)
      go_roundw
      case rel => exact ⟨1, A1, c1, by omega, by go_num, by rw [HK0.out, List.length_append]; rfl, by rw [HK0.out]; exact HI7.out⟩
      case measure => simp [intOf]
    · have hk9 : kidTo r x 2 = kidTo r x 1 ++ kid1 r.b x.b := by simp [kidTo]
      have HK9 := Lib.hid hk9
      clear hk9
      have HL := Lib.hid (kidTo_len r x 1)
      generalize kidTo r x 1 = L at HI HK9 HL ⊢
      have hK := Blk.new wr 81 #[.int .u8 r.b, .int .i64 x.b]
      have hb6 := below_new wr (.cells #[.int .u8 r.b, .int .i64 x.b] 81)
      have HI6 := Lib.hid (HI.out.next hb6)
      generalize hw6 : wr.alloc (.cells #[.int .u8 r.b, .int .i64 x.b] 81) = w6 at hK HI6
      have HK := Lib.hid hK
      clear hK hb6
      go_upto_region 7 with fail
      clear hw6
      generalize wr.heap.size = kb at HK ⊢
      have z0 : w6.cell? ⟨kb, 0, none⟩ = some (.int .u8 r.b) := HK.out.cell 0
      have z1 : w6.cell? ⟨kb, 1, none⟩ = some (.int .i64 x.b) := HK.out.cell 1
      by_cases hz : r.b = 0
      · have e1 : (r.b != 0) = false := by rw [hz]; rfl
        have HK0 := Lib.hid (show kidTo r x 2 = L by rw [HK9.out]; unfold kid1; rw [if_neg (fun h => h.1 hz)]; simp)
        clear hz
        go_wp2_with fail
        go_roundw
        case rel => exact ⟨2, A, c, by omega, by go_num, by rw [HK0.out], by rw [HK0.out]; exact HI6.out⟩
        case measure => simp [intOf]
      have e1 : (r.b != 0) = true := bne_iff_ne.2 hz
      by_cases hp : 0 ≤ x.b
      case neg =>
        have HK0 := Lib.hid (show kidTo r x 2 = L by rw [HK9.out]; unfold kid1; rw [if_neg (fun h => hp h.2)]; simp)
        clear hz
        go_wp2_with fail
        go_roundw
        case rel => exact ⟨2, A, c, by omega, by go_num, by rw [HK0.out], by rw [HK0.out]; exact HI6.out⟩
        case measure => simp [intOf]
      have HK0 := Lib.hid (show kidTo r x 2 = L ++ [x.b] by rw [HK9.out]; unfold kid1; rw [if_pos ⟨hz, hp⟩])
      clear hz
      go_wp2_with (at_builtin; refine wpList_append_any _ rfl (.tmp 35) (.tmp 38) 23 rfl w.heap.size 3 i3 _ 1 8 Tryd.underlying23 fi3 H3.out.1 H3.out.2.1 H3.out.2.2 rfl (by omega) (.slice A L.length c) L.length (L.map intV) rfl (own_next HI6.out.own (below_new _ _)) (w6.heap.size + 1) (some ⟨w6.heap.size, 0, none⟩) 1 1 ([x.b].map intV) rfl (reads_blkN (Blk.new w6 3 #[.int .i64 x.b]) rfl) (int_one _) (by unfold maxLen; have := HL.out; omega) (by have := HL.out; omega) (by rw [World.size_alloc]; have := HI6.out.low.size; omega) ?_; intro v1 w7 oA gA nA; obtain ⟨A1, c1, rfl, hI7⟩ := (HI6.out.next (below_new w6 (.cells #[.int .i64 x.b] 3))).push (M := [x.b]) oA gA; have HI7 := Lib.hid hI7; clear oA gA nA hI7)
      go_roundw
      case rel => exact ⟨2, A1, c1, by omega, by go_num, by rw [HK0.out, List.length_append]; rfl, by rw [HK0.out]; exact HI7.out⟩
      case measure => simp [intOf]
    · have hk9 : kidTo r x 3 = kidTo r x 2 ++ kid1 r.c x.c := by simp [kidTo]
      have HK9 := Lib.hid hk9
      clear hk9
      have HL := Lib.hid (kidTo_len r x 2)
      generalize kidTo r x 2 = L at HI HK9 HL ⊢
      have hK := Blk.new wr 81 #[.int .u8 r.c, .int .i64 x.c]
      have hb6 := below_new wr (.cells #[.int .u8 r.c, .int .i64 x.c] 81)
      have HI6 := Lib.hid (HI.out.next hb6)
      generalize hw6 : wr.alloc (.cells #[.int .u8 r.c, .int .i64 x.c] 81) = w6 at hK HI6
      have HK := Lib.hid hK
      clear hK hb6
      go_upto_region 7 with fail
      clear hw6
      generalize wr.heap.size = kb at HK ⊢
      have z0 : w6.cell? ⟨kb, 0, none⟩ = some (.int .u8 r.c) := HK.out.cell 0
      have z1 : w6.cell? ⟨kb, 1, none⟩ = some (.int .i64 x.c) := HK.out.cell 1
      by_cases hz : r.c = 0
      · have e1 : (r.c != 0) = false := by rw [hz]; rfl
        have HK0 := Lib.hid (show kidTo r x 3 = L by rw [HK9.out]; unfold kid1; rw [if_neg (fun h => h.1 hz)]; simp)
        clear hz
        go_wp2_with fail
        go_roundw
        case rel => exact ⟨3, A, c, by omega, by go_num, by rw [HK0.out], by rw [HK0.out]; exact HI6.out⟩
        case measure => simp [intOf]
      have e1 : (r.c != 0) = true := bne_iff_ne.2 hz
      by_cases hp : 0 ≤ x.c
      case neg =>
        have HK0 := Lib.hid (show kidTo r x 3 = L by rw [HK9.out]; unfold kid1; rw [if_neg (fun h => hp h.2)]; simp)
        clear hz
        go_wp2_with fail
        go_roundw
        case rel => exact ⟨3, A, c, by omega, by go_num, by rw [HK0.out], by rw [HK0.out]; exact HI6.out⟩
        case measure => simp [intOf]
      have HK0 := Lib.hid (show kidTo r x 3 = L ++ [x.c] by rw [HK9.out]; unfold kid1; rw [if_pos ⟨hz, hp⟩])
      clear hz
      go_wp2_with (at_builtin; refine wpList_append_any _ rfl (.tmp 35) (.tmp 38) 23 rfl w.heap.size 3 i3 _ 1 8 Tryd.underlying23 fi3 H3.out.1 H3.out.2.1 H3.out.2.2 rfl (by omega) (.slice A L.length c) L.length (L.map intV) rfl (own_next HI6.out.own (below_new _ _)) (w6.heap.size + 1) (some ⟨w6.heap.size, 0, none⟩) 1 1 ([x.c].map intV) rfl (reads_blkN (Blk.new w6 3 #[.int .i64 x.c]) rfl) (int_one _) (by unfold maxLen; have := HL.out; omega) (by have := HL.out; omega) (by rw [World.size_alloc]; have := HI6.out.low.size; omega) ?_; intro v1 w7 oA gA nA; obtain ⟨A1, c1, rfl, hI7⟩ := (HI6.out.next (below_new w6 (.cells #[.int .i64 x.c] 3))).push (M := [x.c]) oA gA; have HI7 := Lib.hid hI7; clear oA gA nA hI7)
      go_roundw
      case rel => exact ⟨3, A1, c1, by omega, by go_num, by rw [HK0.out, List.length_append]; rfl, by rw [HK0.out]; exact HI7.out⟩
      case measure => simp [intOf]
    · go_wp2_with fail
      go_ret
      rw [HKL.out]
      exact ⟨A, c, rfl, HI.out⟩
def Kids2End (t : Tre) (k : Int) (w : World) (e : Ending) (w' : World) : Prop := ∃ L A c, e = .returned (.slice A L.length c) ∧ IRow w w' A c L ∧ (¬ GoodN t → L = []) ∧ (k < 0 ∨ (t.l.length : Int) ≤ k → L = []) ∧ (GoodN t → SureAll t → ∀ (kn : Nat) (x : Nod), k = (kn : Int) → t.l[kn]? = some x → L = kidsL x)
theorem IRow.of_low {w w' : World} (h : Below w.heap.size w w') : IRow w w' none 0 [] := ⟨⟨rfl, .inl ⟨rfl, rfl⟩⟩, h⟩
set_option maxRecDepth 100000 in
set_option maxHeartbeats 8000000 in
theorem c11 (t : Tre) (A A' : Option Addr) (c c' : Nat) (k : Int) (w : World) (hT : TreIs w A A' t) (hS : Tabs w) (hl : t.l.length ≤ 281474976710656) (hy : t.y.length ≤ 281474976710656) (hx : ∀ p ∈ t.l, p.t.length ≤ 281474976710656 ∧ p.t2.length ≤ 281474976710656) :
    Calls Tryd.prog 11 #[treV A c A' c' t, .int .i64 k] w (Kids2End t k w) := by
  show Calls Tryd.prog 11 #[.agg #[.slice A t.l.length c, .slice A' t.y.length c', .int .i64 t.r], .int .i64 k] w _
  have hX := Blk.new w 25 #[.slice A t.l.length c, .slice A' t.y.length c', .int .i64 t.r]
  have hb0 := below_new w (.cells #[.slice A t.l.length c, .slice A' t.y.length c', .int .i64 t.r] 25)
  have HT := Lib.hid (hT.next hb0)
  have HS := Lib.hid (hS.next hb0)
  have HL := Lib.hid hx
  have HB := Lib.hid hb0
  generalize hw1 : w.alloc (.cells #[.slice A t.l.length c, .slice A' t.y.length c', .int .i64 t.r] 25) = w1 at hX HB HS HT
  have HX := Lib.hid hX
  clear hX hb0 hT hS hx
  go_enter Tryd.func11, Tryd.ntmps11
  go_upto_region 1 with fail
  clear hw1
  generalize w.heap.size = xb at HX ⊢
  have x0 : w1.cell? ⟨xb, 0, none⟩ = some (.slice A t.l.length c) := HX.out.cell 0
  have x1 : w1.cell? ⟨xb, 1, none⟩ = some (.slice A' t.y.length c') := HX.out.cell 1
  have x2 : w1.cell? ⟨xb, 2, none⟩ = some (.int .i64 t.r) := HX.out.cell 2
  by_cases h1 : k < 0
  · go_wp2_with fail
    go_ret
    exact ⟨[], none, 0, rfl, IRow.of_low HB.out, fun _ => rfl, fun _ => rfl, fun _ _ kn x h => by omega⟩
  by_cases h2 : (t.l.length : Int) ≤ k
  · go_wp2_with fail
    go_ret
    exact ⟨[], none, 0, rfl, IRow.of_low HB.out, fun _ => rfl, fun _ => rfl, fun _ _ kn x h hx => by have := (List.getElem?_eq_some_iff.1 hx).1; omega⟩
  obtain ⟨kn, rfl⟩ : ∃ kn : Nat, k = (kn : Int) := ⟨k.toNat, by omega⟩
  have hkl : kn < t.l.length := by omega
  have HC := Lib.hid (c10 t A A' c c' w1 HT.out HS.out hl hy HL.out)
  go_wp2_with fail
  refine HC.out.mono ?_
  rintro e w2 ⟨b, rfl, hb2, hb3, hb4⟩
  have HT2 := Lib.hid (HT.out.next hb2)
  have HS2 := Lib.hid (HS.out.next hb2)
  have HX2 := Lib.hid (HX.out.next hb2)
  have HB2 := Lib.hid (next_ HB.out hb2)
  have H3 := Lib.hid hb3
  have H4 := Lib.hid hb4
  clear hb2 hb3 hb4 HC x0 x1 x2
  cases b with
  | false =>
    go_wp2_with fail
    go_ret
    exact ⟨[], none, 0, rfl, IRow.of_low HB2.out, fun _ => rfl, fun _ => rfl, fun g s => absurd (H4.out g s) (by decide)⟩
  | true =>
    have HG := Lib.hid (H3.out rfl)
    have hxk : t.l[kn]? = some t.l[kn] := List.getElem?_eq_getElem hkl
    generalize t.l[kn] = x at hxk
    have HXK := Lib.hid hxk
    have x0 : w2.cell? ⟨xb, 0, none⟩ = some (.slice A t.l.length c) := HX2.out.cell 0
    have x1 : w2.cell? ⟨xb, 1, none⟩ = some (.slice A' t.y.length c') := HX2.out.cell 1
    have x2 : w2.cell? ⟨xb, 2, none⟩ = some (.int .i64 t.r) := HX2.out.cell 2
    have HK := Lib.hid (c24 t A A' c c' kn x w2 HT2.out HS2.out.ast hxk hl)
    clear hxk
    go_wp2_with fail
    refine HK.out.mono ?_
    rintro e w3 ⟨A3, c3, rfl, hI⟩
    have HI := Lib.hid hI
    clear hI HK x0 x1 x2
    go_wp2_with fail
    go_ret
    refine ⟨kidsL x, A3, c3, rfl, ⟨?_, next_ HB2.out HI.out.low⟩, fun h => absurd HG.out h, fun h => by omega, fun _ _ kn' x' hk hx' => ?_⟩
    · exact ⟨HI.out.own.1, HI.out.own.2.imp id (fun ⟨g, cap, cur, e, hg, r⟩ => ⟨g, cap, cur, e, Nat.le_trans HB2.out.size hg, r⟩)⟩
    · obtain rfl : kn' = kn := by omega
      rw [HXK.out] at hx'
      obtain rfl := Option.some.inj hx'
      rfl
end Go.Proofs.YtphojigdapaaiaaDoor
