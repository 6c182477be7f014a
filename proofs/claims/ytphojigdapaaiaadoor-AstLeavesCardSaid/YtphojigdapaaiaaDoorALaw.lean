/- AstLeaves: the walk. -/
import Derived.Test.YtphojigdapaaiaaDoorAWk
import Derived.Test.YtphojigdapaaiaaDoorAR7
import Derived.Test.YtphojigdapaaiaaDoorAOwn
namespace Go.Proofs.YtphojigdapaaiaaDoor
open Go.ChangeShapes Go.WideShapes Go.ChangeAt Go.RowKit
set_option linter.unusedVariables false
set_option linter.unusedSimpArgs false
def zU : Nod := ⟨1, [], [], 0, 0, 0, 0, 0⟩
def zV (r : Int) : Nod := ⟨9, [], [], 0, r, r, 0, 0⟩
def zW : Nod := ⟨26, [], [], 0, 0, 0, 0, 0⟩
theorem ext_ok {w : World} {A A' : Option Addr} {c c' base base' : Nat} {a : Tre} {z : Nod} (h1 : w.ownsRow base 30 8 (.slice A (a.l.length + 1) c) (a.l.length + 1) (a.l.flatMap nodC ++ nodC z)) (h2 : w.ownsRow base' 3 1 (.slice A' a.y.length c') a.y.length (a.y.map intV))
    (hl : a.l.length ≤ 3000) (hy : a.y.length ≤ 3000) (hx : ∀ p ∈ a.l, p.t.length ≤ 3000 ∧ p.t2.length ≤ 3000) (hz : z.t = [] ∧ z.t2 = []) : TreOk w A A' (ext a z) := by
  have hlen : (ext a z).l.length = a.l.length + 1 := by simp [ext]
  refine ⟨⟨?_, Reads.of_own h2⟩, by omega, by show a.y.length ≤ _; omega, fun p hp => ?_⟩
  · rw [hlen, show (ext a z).l.flatMap nodC = a.l.flatMap nodC ++ nodC z by simp [ext]]
    exact Reads.of_own h1
  · rcases List.mem_append.1 (show p ∈ a.l ++ [z] from hp) with h | h
    · have := hx p h; omega
    · obtain rfl := List.mem_singleton.1 h
      rw [hz.1, hz.2]
      exact ⟨by simp, by simp⟩
theorem tv_ext (a : Tre) (z : Nod) (A A' : Option Addr) (c c' : Nat) : treV A c A' c' (ext a z) = .agg #[.slice A (a.l.length + 1) c, .slice A' a.y.length c', .int .i64 (a.l.length : Int)] := by
  unfold treV
  rw [show (ext a z).l.length = a.l.length + 1 by simp [ext]]
  rfl
theorem nod_own_one (l : List Nod) (z : Nod) : ∀ u ∈ nodC z, u.oneCell' = true := nod_one1 z
set_option maxRecDepth 100000 in
set_option maxHeartbeats 16000000 in
theorem c3 (a : Tre) (A A' : Option Addr) (c c' : Nat) (w : World) (hA : TreOk w A A' a) (hS : Tabs w) : Calls Tryd.prog 3 #[treV A c A' c' a] w (WakeEnd w) := by
  obtain ⟨i30, fi30, hz0, hz1, hz2⟩ := info_parts node_info
  have H30 := Lib.hid (show i30.zero = some (.agg #[.int .i64 0, .string ⟨#[]⟩, .string ⟨#[]⟩, .int .i64 0, .int .i64 0, .int .i64 0, .int .i64 0, .int .i64 0]) ∧ i30.size = 8 ∧ i30.bytes = 80 from ⟨hz0, hz1, hz2⟩)
  clear hz0 hz1 hz2
  show Calls Tryd.prog 3 #[.agg #[.slice A a.l.length c, .slice A' a.y.length c', .int .i64 a.r]] w _
  have hX := Blk.new w 25 #[.slice A a.l.length c, .slice A' a.y.length c', .int .i64 a.r]
  have hb0 := below_new w (.cells #[.slice A a.l.length c, .slice A' a.y.length c', .int .i64 a.r] 25)
  have HA := Lib.hid (hA.next hb0)
  have HS := Lib.hid (hS.next hb0)
  have HB := Lib.hid hb0
  have hal := hA.l
  have hayl := hA.y
  generalize hw1 : w.alloc (.cells #[.slice A a.l.length c, .slice A' a.y.length c', .int .i64 a.r] 25) = w1 at hX HA HS HB
  have HX := Lib.hid hX
  clear hX hb0 hA hS
  go_enter Tryd.func3, Tryd.ntmps3
  go_upto_region 1 with fail
  clear hw1
  generalize w.heap.size = xa at HX ⊢
  have x0 : w1.cell? ⟨xa, 0, none⟩ = some (.slice A a.l.length c) := HX.out.cell 0
  have x1 : w1.cell? ⟨xa, 1, none⟩ = some (.slice A' a.y.length c') := HX.out.cell 1
  have x2 : w1.cell? ⟨xa, 2, none⟩ = some (.int .i64 a.r) := HX.out.cell 2
  have HC := Lib.hid (c6 a A A' c c' w1 HA.out.is_ HA.out.x hal hayl)
  go_wp2_with fail
  refine HC.out.mono ?_
  rintro e w2 ⟨r, rfl, hr, hb⟩
  have HSM := Lib.hid hr
  have HX2 := Lib.hid (HX.out.next hb)
  have HA2 := Lib.hid (HA.out.next hb)
  have HS2 := Lib.hid (HS.out.next hb)
  have HB2 := Lib.hid (next_ HB.out hb)
  clear hr hb HC HX HA HS HB x0 x1 x2
  cases r with
  | true =>
    go_wp2_with fail
    refine (c8 w2 HS2.out).mono ?_
    rintro e w3 ⟨rfl, hb⟩
    have HB3 := Lib.hid (next_ HB2.out hb)
    clear hb
    go_wp2_with fail
    go_ret
    exact ⟨rfl, HB3.out⟩
  | false =>
  have HSL := Lib.hid (HSM.out rfl)
  clear HSM
  have x0 : w2.cell? ⟨xa, 0, none⟩ = some (.slice A a.l.length c) := HX2.out.cell 0
  have x1 : w2.cell? ⟨xa, 1, none⟩ = some (.slice A' a.y.length c') := HX2.out.cell 1
  have x2 : w2.cell? ⟨xa, 2, none⟩ = some (.int .i64 a.r) := HX2.out.cell 2
  have HC := Lib.hid (c7 a A A' c c' w2 HA2.out.is_ hal hayl HSL.out.txt)
  go_wp2_with fail
  refine HC.out.mono ?_
  rintro e w3 ⟨b, rfl, hg, hb⟩
  have HG := Lib.hid hg
  have HX3 := Lib.hid (HX2.out.next hb)
  have HA3 := Lib.hid (HA2.out.next hb)
  have HS3 := Lib.hid (HS2.out.next hb)
  have HB3 := Lib.hid (next_ HB2.out hb)
  clear hg hb HC HX2 HA2 HS2 HB2 x0 x1 x2
  cases b with
  | false =>
    go_wp2_with fail
    refine (c8 w3 HS3.out).mono ?_
    rintro e w4 ⟨rfl, hb⟩
    have HB4 := Lib.hid (next_ HB3.out hb)
    clear hb
    go_wp2_with fail
    go_ret
    exact ⟨rfl, HB4.out⟩
  | true =>
  have HRF := Lib.hid (HG.out rfl)
  clear HG
  have x0 : w3.cell? ⟨xa, 0, none⟩ = some (.slice A a.l.length c) := HX3.out.cell 0
  by_cases h400 : 400 < a.l.length
  · have h4 : (400 : Int) < (a.l.length : Int) := by omega
    go_wp2_with fail
    refine (c8 w3 HS3.out).mono ?_
    rintro e w4 ⟨rfl, hb⟩
    have HB4 := Lib.hid (next_ HB3.out hb)
    clear hb x0
    go_wp2_with fail
    go_ret
    exact ⟨rfl, HB4.out⟩
  have h4 : ¬ (400 : Int) < (a.l.length : Int) := by omega
  go_upto_region 4 with fail
  clear x0
  have x0 : w3.cell? ⟨xa, 0, none⟩ = some (.slice A a.l.length c) := HX3.out.cell 0
  have x1 : w3.cell? ⟨xa, 1, none⟩ = some (.slice A' a.y.length c') := HX3.out.cell 1
  have x2 : w3.cell? ⟨xa, 2, none⟩ = some (.int .i64 a.r) := HX3.out.cell 2
  have HC := Lib.hid (show Calls Tryd.prog 9 #[.agg #[.slice A a.l.length c, .slice A' a.y.length c', .int .i64 a.r]] w3 (TreeBack a w3) from c9 a A A' c c' w3 HA3.out.is_ (by have := HSL.out.nodes; omega) (by have := HSL.out.types; omega))
  go_wp2_with fail
  refine HC.out.mono ?_
  rintro e w4 ⟨AU0, cU0, AU2, cU2, rfl, o30, o3, hb⟩
  rw [show treV AU0 cU0 AU2 cU2 a = .agg #[.slice AU0 a.l.length cU0, .slice AU2 a.y.length cU2, .int .i64 a.r] from rfl]
  have hu := Blk.new w4 25 #[.slice AU0 a.l.length cU0, .slice AU2 a.y.length cU2, .int .i64 a.r]
  have hbu := below_new w4 (.cells #[.slice AU0 a.l.length cU0, .slice AU2 a.y.length cU2, .int .i64 a.r] 25)
  have HO30 := Lib.hid (own_next o30 hbu)
  have HO3 := Lib.hid (own_next o3 hbu)
  have HLW := Lib.hid (next_ hb hbu)
  have HUL := Lib.hid (show w3.heap.size ≤ w4.heap.size from hb.size)
  have HX2 := Lib.hid ((HX3.out.next hb).next hbu)
  generalize hw5 : w4.alloc (.cells #[.slice AU0 a.l.length cU0, .slice AU2 a.y.length cU2, .int .i64 a.r] 25) = w5 at hu HO30 HO3 HLW HX2
  have HU := Lib.hid hu
  clear o30 o3 hb hbu hu HC x0 x1 x2
  go_upto_region 5 with fail
  clear hw5
  generalize w4.heap.size = ub at HU HUL ⊢
  have u0 : w5.cell? ⟨ub, 0, none⟩ = some (.slice AU0 a.l.length cU0) := HU.out.cell 0
  have x2 : w5.cell? ⟨xa, 2, none⟩ = some (.int .i64 a.r) := HX2.out.cell 2
  go_upto_region 6 with (at_builtin; refine wpList_append_any _ rfl (.tmp 27) (.tmp 29) 22 rfl w3.heap.size 30 i30 _ 8 80 Tryd.underlying22 fi30 H30.out.1 H30.out.2.1 H30.out.2.2 rfl (by omega) (.slice AU0 a.l.length cU0) a.l.length (a.l.flatMap nodC) rfl (own_next HO30.out (below_new _ _)) (w5.heap.size + 1) (some ⟨w5.heap.size, 0, none⟩) 1 1 (nodC zU) rfl (reads_blkN (Blk.new w5 30 #[.int .i64 1, .string ⟨#[]⟩, .string ⟨#[]⟩, .int .i64 0, .int .i64 0, .int .i64 0, .int .i64 0, .int .i64 0]) rfl) (nod_own_one a.l zU) (by unfold maxLen; omega) (by omega) (by rw [World.size_alloc]; have := HLW.out.size; omega) ?_; intro v1 w6 oA gA nA; obtain ⟨AU1, cU1, rfl⟩ := own_form oA; have hbn := below_new w5 (.cells #[.int .i64 1, .string ⟨#[]⟩, .string ⟨#[]⟩, .int .i64 0, .int .i64 0, .int .i64 0, .int .i64 0, .int .i64 0] 30); have hun := HU.out.next hbn; have hon := own_next HO30.out hbn; have HO30b := Lib.hid oA; have HUb := Lib.hid (blk_row hun hon gA (by decide)); have HO3b := Lib.hid (own_row (own_next HO3.out hbn) hon gA (by decide)); have HLWb := Lib.hid ((next_ HLW.out hbn).grown gA (by rw [World.size_alloc]; have := HLW.out.size; omega) (fun k hk => (hon.lt k hk).1)); have z0 : w6.cell? ⟨ub, 0, none⟩ = some (.slice AU0 a.l.length cU0) := HUb.out.cell 0; have zf := HUb.out.frozen 0; clear oA gA nA hbn hun hon)
  clear u0 x2 z0 zf HU HO30 HO3 HLW HX2
  have hu := HUb.out.set_ 0 (.slice AU1 (a.l.length + 1) cU1)
  simp only [List.setIfInBounds_toArray, List.set_cons_zero, List.set_cons_succ] at hu
  have HUc := Lib.hid hu
  have HO30c := Lib.hid (own_set (i := 0) (u := .slice AU1 (a.l.length + 1) cU1) HO30b.out HUb.out (by decide))
  have HO3c := Lib.hid (own_set (i := 0) (u := .slice AU1 (a.l.length + 1) cU1) HO3b.out HUb.out (by decide))
  have HLWc := Lib.hid (HLWb.out.setCell (p := ⟨ub, 0, none⟩) (by show w3.heap.size ≤ ub; exact HUL.out) (.slice AU1 (a.l.length + 1) cU1))
  clear hu HUb HO30b HO3b HLWb
  generalize w6.setCell ⟨ub, 0, none⟩ (.slice AU1 (a.l.length + 1) cU1) = w7 at HUc HO30c HO3c HLWc ⊢
  have u2 : w7.cell? ⟨ub, 2, none⟩ = some (.int .i64 a.r) := HUc.out.cell 2
  have uf := HUc.out.frozen 2
  have hu := HUc.out.set_ 2 (.int .i64 (a.l.length : Int))
  simp only [List.setIfInBounds_toArray, List.set_cons_zero, List.set_cons_succ] at hu
  have BU8 := Lib.hid hu
  have TU8 := Lib.hid (ext_ok (z := zU) (own_set (i := 2) (u := .int .i64 (a.l.length : Int)) HO30c.out HUc.out (by decide)) (own_set (i := 2) (u := .int .i64 (a.l.length : Int)) HO3c.out HUc.out (by decide)) (by omega) (by have := HSL.out.types; omega) HSL.out.txt ⟨rfl, rfl⟩)
  have hlow := HLWc.out.setCell (p := ⟨ub, 2, none⟩) (by show w3.heap.size ≤ ub; exact HUL.out) (.int .i64 (a.l.length : Int))
  have HX8 := Lib.hid (HX3.out.next hlow)
  have HA8 := Lib.hid (HA3.out.next hlow)
  have HS8 := Lib.hid (HS3.out.next hlow)
  have HB8 := Lib.hid (next_ HB3.out hlow)
  clear hu hlow HUc HO30c HO3c HLWc HUL HX3 HA3 HS3 HB3 
  go_upto_region 7 with fail
  clear u2 uf
  generalize w7.setCell ⟨ub, 2, none⟩ (.int .i64 (a.l.length : Int)) = w8 at BU8 TU8 HX8 HA8 HS8 HB8  ⊢
  have x0 : w8.cell? ⟨xa, 0, none⟩ = some (.slice A a.l.length c) := HX8.out.cell 0
  have x1 : w8.cell? ⟨xa, 1, none⟩ = some (.slice A' a.y.length c') := HX8.out.cell 1
  have x2 : w8.cell? ⟨xa, 2, none⟩ = some (.int .i64 a.r) := HX8.out.cell 2
  have HC := Lib.hid (show Calls Tryd.prog 9 #[.agg #[.slice A a.l.length c, .slice A' a.y.length c', .int .i64 a.r]] w8 (TreeBack a w8) from c9 a A A' c c' w8 HA8.out.is_ (by have := HSL.out.nodes; omega) (by have := HSL.out.types; omega))
  go_wp2_with fail
  refine HC.out.mono ?_
  rintro e w9 ⟨AV0, cV0, AV2, cV2, rfl, o30, o3, hb⟩
  rw [show treV AV0 cV0 AV2 cV2 a = .agg #[.slice AV0 a.l.length cV0, .slice AV2 a.y.length cV2, .int .i64 a.r] from rfl]
  have hu := Blk.new w9 25 #[.slice AV0 a.l.length cV0, .slice AV2 a.y.length cV2, .int .i64 a.r]
  have hbu := below_new w9 (.cells #[.slice AV0 a.l.length cV0, .slice AV2 a.y.length cV2, .int .i64 a.r] 25)
  have HO30 := Lib.hid (own_next o30 hbu)
  have HO3 := Lib.hid (own_next o3 hbu)
  have HLW := Lib.hid (next_ hb hbu)
  have HUL := Lib.hid (show w8.heap.size ≤ w9.heap.size from hb.size)
  have HX2 := Lib.hid ((HX8.out.next hb).next hbu)
  generalize hw10 : w9.alloc (.cells #[.slice AV0 a.l.length cV0, .slice AV2 a.y.length cV2, .int .i64 a.r] 25) = w10 at hu HO30 HO3 HLW HX2
  have HU := Lib.hid hu
  clear o30 o3 hb hbu hu HC x0 x1 x2
  go_upto_region 8 with fail
  clear hw10
  generalize w9.heap.size = vb at HU HUL ⊢
  have u0 : w10.cell? ⟨vb, 0, none⟩ = some (.slice AV0 a.l.length cV0) := HU.out.cell 0
  have x2 : w10.cell? ⟨xa, 2, none⟩ = some (.int .i64 a.r) := HX2.out.cell 2
  go_upto_region 9 with (at_builtin; refine wpList_append_any _ rfl (.tmp 37) (.tmp 43) 22 rfl w8.heap.size 30 i30 _ 8 80 Tryd.underlying22 fi30 H30.out.1 H30.out.2.1 H30.out.2.2 rfl (by omega) (.slice AV0 a.l.length cV0) a.l.length (a.l.flatMap nodC) rfl (own_next HO30.out (below_new _ _)) (w10.heap.size + 1) (some ⟨w10.heap.size, 0, none⟩) 1 1 (nodC (zV a.r)) rfl (reads_blkN (Blk.new w10 30 #[.int .i64 9, .string ⟨#[]⟩, .string ⟨#[]⟩, .int .i64 0, .int .i64 a.r, .int .i64 a.r, .int .i64 0, .int .i64 0]) rfl) (nod_own_one a.l (zV a.r)) (by unfold maxLen; omega) (by omega) (by rw [World.size_alloc]; have := HLW.out.size; omega) ?_; intro v1 w11 oA gA nA; obtain ⟨AV1, cV1, rfl⟩ := own_form oA; have hbn := below_new w10 (.cells #[.int .i64 9, .string ⟨#[]⟩, .string ⟨#[]⟩, .int .i64 0, .int .i64 a.r, .int .i64 a.r, .int .i64 0, .int .i64 0] 30); have hun := HU.out.next hbn; have hon := own_next HO30.out hbn; have HO30b := Lib.hid oA; have HUb := Lib.hid (blk_row hun hon gA (by decide)); have HO3b := Lib.hid (own_row (own_next HO3.out hbn) hon gA (by decide)); have HLWb := Lib.hid ((next_ HLW.out hbn).grown gA (by rw [World.size_alloc]; have := HLW.out.size; omega) (fun k hk => (hon.lt k hk).1)); have z0 : w11.cell? ⟨vb, 0, none⟩ = some (.slice AV0 a.l.length cV0) := HUb.out.cell 0; have zf := HUb.out.frozen 0; clear oA gA nA hbn hun hon)
  clear u0 x2 z0 zf HU HO30 HO3 HLW HX2
  have hu := HUb.out.set_ 0 (.slice AV1 (a.l.length + 1) cV1)
  simp only [List.setIfInBounds_toArray, List.set_cons_zero, List.set_cons_succ] at hu
  have HUc := Lib.hid hu
  have HO30c := Lib.hid (own_set (i := 0) (u := .slice AV1 (a.l.length + 1) cV1) HO30b.out HUb.out (by decide))
  have HO3c := Lib.hid (own_set (i := 0) (u := .slice AV1 (a.l.length + 1) cV1) HO3b.out HUb.out (by decide))
  have HLWc := Lib.hid (HLWb.out.setCell (p := ⟨vb, 0, none⟩) (by show w8.heap.size ≤ vb; exact HUL.out) (.slice AV1 (a.l.length + 1) cV1))
  clear hu HUb HO30b HO3b HLWb
  generalize w11.setCell ⟨vb, 0, none⟩ (.slice AV1 (a.l.length + 1) cV1) = w12 at HUc HO30c HO3c HLWc ⊢
  have u2 : w12.cell? ⟨vb, 2, none⟩ = some (.int .i64 a.r) := HUc.out.cell 2
  have uf := HUc.out.frozen 2
  have hu := HUc.out.set_ 2 (.int .i64 (a.l.length : Int))
  simp only [List.setIfInBounds_toArray, List.set_cons_zero, List.set_cons_succ] at hu
  have BV13 := Lib.hid hu
  have TV13 := Lib.hid (ext_ok (z := (zV a.r)) (own_set (i := 2) (u := .int .i64 (a.l.length : Int)) HO30c.out HUc.out (by decide)) (own_set (i := 2) (u := .int .i64 (a.l.length : Int)) HO3c.out HUc.out (by decide)) (by omega) (by have := HSL.out.types; omega) HSL.out.txt ⟨rfl, rfl⟩)
  have hlow := HLWc.out.setCell (p := ⟨vb, 2, none⟩) (by show w8.heap.size ≤ vb; exact HUL.out) (.int .i64 (a.l.length : Int))
  have HX13 := Lib.hid (HX8.out.next hlow)
  have HA13 := Lib.hid (HA8.out.next hlow)
  have HS13 := Lib.hid (HS8.out.next hlow)
  have HB13 := Lib.hid (next_ HB8.out hlow)
  have BU13 := Lib.hid (BU8.out.next hlow)
  have TU13 := Lib.hid (TU8.out.next hlow)
  clear hu hlow HUc HO30c HO3c HLWc HUL HX8 HA8 HS8 HB8 BU8 TU8
  go_upto_region 10 with fail
  clear u2 uf
  generalize w12.setCell ⟨vb, 2, none⟩ (.int .i64 (a.l.length : Int)) = w13 at BV13 TV13 HX13 HA13 HS13 HB13 BU13 TU13 ⊢
  have x0 : w13.cell? ⟨xa, 0, none⟩ = some (.slice A a.l.length c) := HX13.out.cell 0
  have x1 : w13.cell? ⟨xa, 1, none⟩ = some (.slice A' a.y.length c') := HX13.out.cell 1
  have x2 : w13.cell? ⟨xa, 2, none⟩ = some (.int .i64 a.r) := HX13.out.cell 2
  have HC := Lib.hid (show Calls Tryd.prog 9 #[.agg #[.slice A a.l.length c, .slice A' a.y.length c', .int .i64 a.r]] w13 (TreeBack a w13) from c9 a A A' c c' w13 HA13.out.is_ (by have := HSL.out.nodes; omega) (by have := HSL.out.types; omega))
  go_wp2_with fail
  refine HC.out.mono ?_
  rintro e w14 ⟨AW0, cW0, AW2, cW2, rfl, o30, o3, hb⟩
  rw [show treV AW0 cW0 AW2 cW2 a = .agg #[.slice AW0 a.l.length cW0, .slice AW2 a.y.length cW2, .int .i64 a.r] from rfl]
  have hu := Blk.new w14 25 #[.slice AW0 a.l.length cW0, .slice AW2 a.y.length cW2, .int .i64 a.r]
  have hbu := below_new w14 (.cells #[.slice AW0 a.l.length cW0, .slice AW2 a.y.length cW2, .int .i64 a.r] 25)
  have HO30 := Lib.hid (own_next o30 hbu)
  have HO3 := Lib.hid (own_next o3 hbu)
  have HLW := Lib.hid (next_ hb hbu)
  have HUL := Lib.hid (show w13.heap.size ≤ w14.heap.size from hb.size)
  have HX2 := Lib.hid ((HX13.out.next hb).next hbu)
  generalize hw15 : w14.alloc (.cells #[.slice AW0 a.l.length cW0, .slice AW2 a.y.length cW2, .int .i64 a.r] 25) = w15 at hu HO30 HO3 HLW HX2
  have HU := Lib.hid hu
  clear o30 o3 hb hbu hu HC x0 x1 x2
  go_upto_region 11 with fail
  clear hw15
  generalize w14.heap.size = wb at HU HUL ⊢
  have u0 : w15.cell? ⟨wb, 0, none⟩ = some (.slice AW0 a.l.length cW0) := HU.out.cell 0
  have x2 : w15.cell? ⟨xa, 2, none⟩ = some (.int .i64 a.r) := HX2.out.cell 2
  go_upto_region 12 with (at_builtin; refine wpList_append_any _ rfl (.tmp 51) (.tmp 53) 22 rfl w13.heap.size 30 i30 _ 8 80 Tryd.underlying22 fi30 H30.out.1 H30.out.2.1 H30.out.2.2 rfl (by omega) (.slice AW0 a.l.length cW0) a.l.length (a.l.flatMap nodC) rfl (own_next HO30.out (below_new _ _)) (w15.heap.size + 1) (some ⟨w15.heap.size, 0, none⟩) 1 1 (nodC zW) rfl (reads_blkN (Blk.new w15 30 #[.int .i64 26, .string ⟨#[]⟩, .string ⟨#[]⟩, .int .i64 0, .int .i64 0, .int .i64 0, .int .i64 0, .int .i64 0]) rfl) (nod_own_one a.l zW) (by unfold maxLen; omega) (by omega) (by rw [World.size_alloc]; have := HLW.out.size; omega) ?_; intro v1 w16 oA gA nA; obtain ⟨AW1, cW1, rfl⟩ := own_form oA; have hbn := below_new w15 (.cells #[.int .i64 26, .string ⟨#[]⟩, .string ⟨#[]⟩, .int .i64 0, .int .i64 0, .int .i64 0, .int .i64 0, .int .i64 0] 30); have hun := HU.out.next hbn; have hon := own_next HO30.out hbn; have HO30b := Lib.hid oA; have HUb := Lib.hid (blk_row hun hon gA (by decide)); have HO3b := Lib.hid (own_row (own_next HO3.out hbn) hon gA (by decide)); have HLWb := Lib.hid ((next_ HLW.out hbn).grown gA (by rw [World.size_alloc]; have := HLW.out.size; omega) (fun k hk => (hon.lt k hk).1)); have z0 : w16.cell? ⟨wb, 0, none⟩ = some (.slice AW0 a.l.length cW0) := HUb.out.cell 0; have zf := HUb.out.frozen 0; clear oA gA nA hbn hun hon)
  clear u0 x2 z0 zf HU HO30 HO3 HLW HX2
  have hu := HUb.out.set_ 0 (.slice AW1 (a.l.length + 1) cW1)
  simp only [List.setIfInBounds_toArray, List.set_cons_zero, List.set_cons_succ] at hu
  have HUc := Lib.hid hu
  have HO30c := Lib.hid (own_set (i := 0) (u := .slice AW1 (a.l.length + 1) cW1) HO30b.out HUb.out (by decide))
  have HO3c := Lib.hid (own_set (i := 0) (u := .slice AW1 (a.l.length + 1) cW1) HO3b.out HUb.out (by decide))
  have HLWc := Lib.hid (HLWb.out.setCell (p := ⟨wb, 0, none⟩) (by show w13.heap.size ≤ wb; exact HUL.out) (.slice AW1 (a.l.length + 1) cW1))
  clear hu HUb HO30b HO3b HLWb
  generalize w16.setCell ⟨wb, 0, none⟩ (.slice AW1 (a.l.length + 1) cW1) = w17 at HUc HO30c HO3c HLWc ⊢
  have u2 : w17.cell? ⟨wb, 2, none⟩ = some (.int .i64 a.r) := HUc.out.cell 2
  have uf := HUc.out.frozen 2
  have hu := HUc.out.set_ 2 (.int .i64 (a.l.length : Int))
  simp only [List.setIfInBounds_toArray, List.set_cons_zero, List.set_cons_succ] at hu
  have BW18 := Lib.hid hu
  have TW18 := Lib.hid (ext_ok (z := zW) (own_set (i := 2) (u := .int .i64 (a.l.length : Int)) HO30c.out HUc.out (by decide)) (own_set (i := 2) (u := .int .i64 (a.l.length : Int)) HO3c.out HUc.out (by decide)) (by omega) (by have := HSL.out.types; omega) HSL.out.txt ⟨rfl, rfl⟩)
  have hlow := HLWc.out.setCell (p := ⟨wb, 2, none⟩) (by show w13.heap.size ≤ wb; exact HUL.out) (.int .i64 (a.l.length : Int))
  have HX18 := Lib.hid (HX13.out.next hlow)
  have HA18 := Lib.hid (HA13.out.next hlow)
  have HS18 := Lib.hid (HS13.out.next hlow)
  have HB18 := Lib.hid (next_ HB13.out hlow)
  have BU18 := Lib.hid (BU13.out.next hlow)
  have TU18 := Lib.hid (TU13.out.next hlow)
  have BV18 := Lib.hid (BV13.out.next hlow)
  have TV18 := Lib.hid (TV13.out.next hlow)
  clear hu hlow HUc HO30c HO3c HLWc HUL HX13 HA13 HS13 HB13 BU13 TU13 BV13 TV13
  go_upto_region 13 with fail
  clear u2 uf
  generalize w17.setCell ⟨wb, 2, none⟩ (.int .i64 (a.l.length : Int)) = w18 at BW18 TW18 HX18 HA18 HS18 HB18 BU18 TU18 BV18 TV18 ⊢
  have NU := Lib.hid (no_leaf (z := zU) HRF.out rfl rfl rfl)
  have NV := Lib.hid (no_twice (z := zV a.r) HRF.out rfl rfl rfl rfl rfl)
  have NW := Lib.hid (no_leaf (z := zW) HRF.out rfl rfl rfl)
  have x0 : w18.cell? ⟨ub, 0, none⟩ = some (.slice AU1 (a.l.length + 1) cU1) := BU18.out.cell 0
  have x1 : w18.cell? ⟨ub, 1, none⟩ = some (.slice AU2 a.y.length cU2) := BU18.out.cell 1
  have x2 : w18.cell? ⟨ub, 2, none⟩ = some (.int .i64 (a.l.length : Int)) := BU18.out.cell 2
  have HC := Lib.hid (show Calls Tryd.prog 10 #[.agg #[.slice AU1 (a.l.length + 1) cU1, .slice AU2 a.y.length cU2, .int .i64 (a.l.length : Int)]] w18 (GoodEnd (ext a zU) w18) from by rw [← tv_ext a zU]; exact c10 (ext a zU) AU1 AU2 cU1 cU2 w18 TU18.out.is_ HS18.out TU18.out.l TU18.out.y TU18.out.x)
  go_wp2_with fail
  refine HC.out.mono ?_
  rintro e w19 ⟨b, rfl, hb, hg, _⟩
  cases b with
  | true => exact absurd (hg rfl) NU.out
  | false =>
  clear hg HC
  have BU19 := Lib.hid (BU18.out.next hb)
  have TU19 := Lib.hid (TU18.out.next hb)
  have BV19 := Lib.hid (BV18.out.next hb)
  have TV19 := Lib.hid (TV18.out.next hb)
  have BW19 := Lib.hid (BW18.out.next hb)
  have TW19 := Lib.hid (TW18.out.next hb)
  have HS19 := Lib.hid (HS18.out.next hb)
  have HB19 := Lib.hid (next_ HB18.out hb)
  clear x0 x1 x2 HS18 HB18 BU18 TU18 BV18 TV18 BW18 TW18
  clear hb
  have x0 : w19.cell? ⟨vb, 0, none⟩ = some (.slice AV1 (a.l.length + 1) cV1) := BV19.out.cell 0
  have x1 : w19.cell? ⟨vb, 1, none⟩ = some (.slice AV2 a.y.length cV2) := BV19.out.cell 1
  have x2 : w19.cell? ⟨vb, 2, none⟩ = some (.int .i64 (a.l.length : Int)) := BV19.out.cell 2
  have HC := Lib.hid (show Calls Tryd.prog 10 #[.agg #[.slice AV1 (a.l.length + 1) cV1, .slice AV2 a.y.length cV2, .int .i64 (a.l.length : Int)]] w19 (GoodEnd (ext a (zV a.r)) w19) from by rw [← tv_ext a (zV a.r)]; exact c10 (ext a (zV a.r)) AV1 AV2 cV1 cV2 w19 TV19.out.is_ HS19.out TV19.out.l TV19.out.y TV19.out.x)
  go_wp2_with fail
  refine HC.out.mono ?_
  rintro e w20 ⟨b, rfl, hb, hg, _⟩
  cases b with
  | true => exact absurd (hg rfl) NV.out
  | false =>
  clear hg HC
  have BU20 := Lib.hid (BU19.out.next hb)
  have TU20 := Lib.hid (TU19.out.next hb)
  have BV20 := Lib.hid (BV19.out.next hb)
  have TV20 := Lib.hid (TV19.out.next hb)
  have BW20 := Lib.hid (BW19.out.next hb)
  have TW20 := Lib.hid (TW19.out.next hb)
  have HS20 := Lib.hid (HS19.out.next hb)
  have HB20 := Lib.hid (next_ HB19.out hb)
  clear x0 x1 x2 HS19 HB19 BU19 TU19 BV19 TV19 BW19 TW19
  clear hb
  have x0 : w20.cell? ⟨wb, 0, none⟩ = some (.slice AW1 (a.l.length + 1) cW1) := BW20.out.cell 0
  have x1 : w20.cell? ⟨wb, 1, none⟩ = some (.slice AW2 a.y.length cW2) := BW20.out.cell 1
  have x2 : w20.cell? ⟨wb, 2, none⟩ = some (.int .i64 (a.l.length : Int)) := BW20.out.cell 2
  have HC := Lib.hid (show Calls Tryd.prog 10 #[.agg #[.slice AW1 (a.l.length + 1) cW1, .slice AW2 a.y.length cW2, .int .i64 (a.l.length : Int)]] w20 (GoodEnd (ext a zW) w20) from by rw [← tv_ext a zW]; exact c10 (ext a zW) AW1 AW2 cW1 cW2 w20 TW20.out.is_ HS20.out TW20.out.l TW20.out.y TW20.out.x)
  go_wp2_with fail
  refine HC.out.mono ?_
  rintro e w21 ⟨b, rfl, hb, hg, _⟩
  cases b with
  | true => exact absurd (hg rfl) NW.out
  | false =>
  clear hg HC
  have BU21 := Lib.hid (BU20.out.next hb)
  have TU21 := Lib.hid (TU20.out.next hb)
  have BV21 := Lib.hid (BV20.out.next hb)
  have TV21 := Lib.hid (TV20.out.next hb)
  have BW21 := Lib.hid (BW20.out.next hb)
  have TW21 := Lib.hid (TW20.out.next hb)
  have HS21 := Lib.hid (HS20.out.next hb)
  have HB21 := Lib.hid (next_ HB20.out hb)
  clear x0 x1 x2 HS20 HB20 BU20 TU20 BV20 TV20 BW20 TW20
  clear hb
  have x0 : w21.cell? ⟨ub, 0, none⟩ = some (.slice AU1 (a.l.length + 1) cU1) := BU21.out.cell 0
  have x1 : w21.cell? ⟨ub, 1, none⟩ = some (.slice AU2 a.y.length cU2) := BU21.out.cell 1
  have x2 : w21.cell? ⟨ub, 2, none⟩ = some (.int .i64 (a.l.length : Int)) := BU21.out.cell 2
  have HC := Lib.hid (show Calls Tryd.prog 11 #[.agg #[.slice AU1 (a.l.length + 1) cU1, .slice AU2 a.y.length cU2, .int .i64 (a.l.length : Int)], .int .i64 0] w21 (Kids2End (ext a zU) 0 w21) from by rw [← tv_ext a zU]; exact c11 (ext a zU) AU1 AU2 cU1 cU2 0 w21 TU21.out.is_ HS21.out TU21.out.l TU21.out.y TU21.out.x)
  go_wp2_with fail
  refine HC.out.mono ?_
  rintro e w22 ⟨L, A2, c2, rfl, hI, hg, _, _⟩
  obtain rfl := hg NU.out
  have hb := hI.low
  clear hg HC hI
  have BU22 := Lib.hid (BU21.out.next hb)
  have TU22 := Lib.hid (TU21.out.next hb)
  have BV22 := Lib.hid (BV21.out.next hb)
  have TV22 := Lib.hid (TV21.out.next hb)
  have BW22 := Lib.hid (BW21.out.next hb)
  have TW22 := Lib.hid (TW21.out.next hb)
  have HS22 := Lib.hid (HS21.out.next hb)
  have HB22 := Lib.hid (next_ HB21.out hb)
  clear x0 x1 x2 HS21 HB21 BU21 TU21 BV21 TV21 BW21 TW21
  clear hb
  have x0 : w22.cell? ⟨vb, 0, none⟩ = some (.slice AV1 (a.l.length + 1) cV1) := BV22.out.cell 0
  have x1 : w22.cell? ⟨vb, 1, none⟩ = some (.slice AV2 a.y.length cV2) := BV22.out.cell 1
  have x2 : w22.cell? ⟨vb, 2, none⟩ = some (.int .i64 (a.l.length : Int)) := BV22.out.cell 2
  have HC := Lib.hid (show Calls Tryd.prog 12 #[.agg #[.slice AV1 (a.l.length + 1) cV1, .slice AV2 a.y.length cV2, .int .i64 (a.l.length : Int)]] w22 (DeepEnd (ext a (zV a.r)) w22) from by rw [← tv_ext a (zV a.r)]; exact c12 (ext a (zV a.r)) AV1 AV2 cV1 cV2 w22 TV22.out.is_ HS22.out TV22.out.l TV22.out.y TV22.out.x)
  go_wp2_with fail
  refine HC.out.mono ?_
  rintro e w23 ⟨v, rfl, hb, hg, _⟩
  obtain rfl := hg NV.out
  clear hg HC
  have BU23 := Lib.hid (BU22.out.next hb)
  have TU23 := Lib.hid (TU22.out.next hb)
  have BV23 := Lib.hid (BV22.out.next hb)
  have TV23 := Lib.hid (TV22.out.next hb)
  have BW23 := Lib.hid (BW22.out.next hb)
  have TW23 := Lib.hid (TW22.out.next hb)
  have HS23 := Lib.hid (HS22.out.next hb)
  have HB23 := Lib.hid (next_ HB22.out hb)
  clear x0 x1 x2 HS22 HB22 BU22 TU22 BV22 TV22 BW22 TW22
  clear hb
  have x0 : w23.cell? ⟨wb, 0, none⟩ = some (.slice AW1 (a.l.length + 1) cW1) := BW23.out.cell 0
  have x1 : w23.cell? ⟨wb, 1, none⟩ = some (.slice AW2 a.y.length cW2) := BW23.out.cell 1
  have x2 : w23.cell? ⟨wb, 2, none⟩ = some (.int .i64 (a.l.length : Int)) := BW23.out.cell 2
  have HC := Lib.hid (show Calls Tryd.prog 13 #[.agg #[.slice AW1 (a.l.length + 1) cW1, .slice AW2 a.y.length cW2, .int .i64 (a.l.length : Int)], .agg #[.slice AW1 (a.l.length + 1) cW1, .slice AW2 a.y.length cW2, .int .i64 (a.l.length : Int)]] w23 (Same2End (ext a zW) (ext a zW) true w23) from by rw [← tv_ext a zW]; exact c13 (ext a zW) (ext a zW) AW1 AW2 AW1 AW2 cW1 cW2 cW1 cW2 true w23 TW23.out TW23.out HS23.out (fun h _ => absurd h NW.out) (fun h _ => absurd h NW.out))
  go_wp2_with fail
  refine HC.out.mono ?_
  rintro e w24 ⟨q, rfl, hb, hg, _⟩
  obtain rfl := hg NW.out
  clear hg HC
  have BU24 := Lib.hid (BU23.out.next hb)
  have TU24 := Lib.hid (TU23.out.next hb)
  have BV24 := Lib.hid (BV23.out.next hb)
  have TV24 := Lib.hid (TV23.out.next hb)
  have BW24 := Lib.hid (BW23.out.next hb)
  have TW24 := Lib.hid (TW23.out.next hb)
  have HS24 := Lib.hid (HS23.out.next hb)
  have HB24 := Lib.hid (next_ HB23.out hb)
  clear x0 x1 x2 HS23 HB23 BU23 TU23 BV23 TV23 BW23 TW23
  clear hb
  go_wp2_with fail
  refine (c8 w24 HS24.out).mono ?_
  rintro e w25 ⟨rfl, hb⟩
  have HBz := Lib.hid (next_ HB24.out hb)
  clear hb
  go_wp2_with fail
  go_ret
  exact ⟨rfl, HBz.out⟩
end Go.Proofs.YtphojigdapaaiaaDoor
