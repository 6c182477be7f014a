/- ScopeBinds: the walk. -/
import Derived.Test.YtphojigdapaaiaaDoorZBi
import Derived.Test.YtphojigdapaaiaaDoorZBo
import Derived.Test.YtphojigdapaaiaaDoorZBa
import Derived.Test.YtphojigdapaaiaaDoorSHp
namespace Go.Proofs.YtphojigdapaaiaaDoor
open Go.ChangeShapes Go.WideShapes Go.ChangeAt Go.RowKit
set_option linter.unusedVariables false
set_option linter.unusedSimpArgs false
theorem ext_ok {w : World} {A A' : Option Addr} {c c' base base' : Nat} {a : Tre} {z : Nod} (h1 : w.ownsRow base 30 8 (.slice A (a.l.length + 1) c) (a.l.length + 1) (a.l.flatMap nodC ++ nodC z)) (h2 : w.ownsRow base' 3 1 (.slice A' a.y.length c') a.y.length (a.y.map intV))
    (hl : a.l.length ≤ 3000) (hy : a.y.length ≤ 3000) (hx : ∀ p ∈ a.l, p.t.length ≤ 3000 ∧ p.t2.length ≤ 3000) (hz : z.t.length ≤ 3000 ∧ z.t2 = []) : TreOk w A A' (ext a z) := by
  have hlen : (ext a z).l.length = a.l.length + 1 := by simp [ext]
  refine ⟨⟨?_, Reads.of_own h2⟩, by omega, by show a.y.length ≤ _; omega, fun p hp => ?_⟩
  · rw [hlen, show (ext a z).l.flatMap nodC = a.l.flatMap nodC ++ nodC z by simp [ext]]
    exact Reads.of_own h1
  · rcases List.mem_append.1 (show p ∈ a.l ++ [z] from hp) with h | h
    · have := hx p h; omega
    · obtain rfl := List.mem_singleton.1 h
      rw [hz.2]
      exact ⟨by omega, by simp⟩
theorem tv_ext (a : Tre) (z : Nod) (A A' : Option Addr) (c c' : Nat) : treV A c A' c' (ext a z) = .agg #[.slice A (a.l.length + 1) c, .slice A' a.y.length c', .int .i64 (a.l.length : Int)] := by
  unfold treV
  rw [show (ext a z).l.length = a.l.length + 1 by simp [ext]]
  rfl
theorem nod_own_one (z : Nod) : ∀ u ∈ nodC z, u.oneCell' = true := by
  intro u hu
  simp only [nodC, List.mem_cons, List.not_mem_nil, or_false] at hu
  rcases hu with rfl | rfl | rfl | rfl | rfl | rfl | rfl | rfl <;> rfl
structure TwoF (tab : Nat → OpRow) (a : Tre) (name : KS) (f g : Int × Int) : Prop where
  same : (∀ k, k < a.l.length → (nd a k).k = 5 → (nd a k).t ≠ name) → f = g
  none : f.1 = 0 → g.1 = 0
theorem two_faults {tab : Nat → OpRow} {a : Tre} {name : KS} {f g : Int × Int} (hl : a.l.length ≤ 490) (ha : RefN a) (hu : RefN (ext a (funN name a.r)))
    (f1 : ¬ (GoodN a ∧ AllX tab a) → f = (1, 0)) (f2 : GoodN a → AllX tab a → f = faultF a)
    (g1 : ¬ (GoodN (ext a (funN name a.r)) ∧ AllX tab (ext a (funN name a.r))) → g = (1, 0)) (g2 : GoodN (ext a (funN name a.r)) → AllX tab (ext a (funN name a.r)) → g = faultF (ext a (funN name a.r))) : TwoF tab a name f g := by
  have ht : textQ name 2 = true := txt_text (x := funN name a.r) rfl (hu.txt a.l.length _ ext_at)
  rw [good_ext hl ha, sure_ext ht] at g1 g2
  by_cases hg : GoodN a ∧ AllX tab a
  · obtain ⟨h1, h2⟩ := hg
    rw [f2 h1 h2, g2 h1 h2]
    have hs := Shp.of h1
    exact ⟨fun hv => (fault_same hs ha.n1 ha.root hv).symm, fun h => fault_none hs ha.n1 ha.root h⟩
  · rw [f1 hg, g1 hg]
    exact ⟨fun _ => rfl, fun h => h⟩
def namedL (a : Tre) (name : KS) : Nat → Bool
  | 0 => false
  | n + 1 => namedL a name n || (decide ((nd a n).k = 5) && decide ((nd a n).t = name))
theorem named_no {a : Tre} {name : KS} : ∀ {n : Nat}, namedL a name n = false → ∀ k, k < n → (nd a k).k = 5 → (nd a k).t ≠ name := by
  intro n
  induction n with
  | zero => intro _ k hk; omega
  | succ n ih =>
    intro h k hk h5 ht
    unfold namedL at h
    rw [Bool.or_eq_false_iff] at h
    rcases Nat.lt_or_ge k n with hlt | hge
    · exact ih h.1 k hlt h5 ht
    · obtain rfl : k = n := by omega
      have h9 := h.2
      rw [decide_eq_true h5, decide_eq_true ht] at h9
      cases h9
set_option maxRecDepth 100000 in
set_option maxHeartbeats 16000000 in
theorem c4 {tab : Nat → OpRow} (a : Tre) (name : KS) (A A' : Option Addr) (c c' : Nat) (w : World) (hA : TreOk w A A' a) (hS : TabsX tab w) (hnm : name.length ≤ 281474976710656) : Calls Tryd.prog 4 #[treV A c A' c' a, strV name] w (WakesEnd w) := by
  obtain ⟨i30, fi30, hz0, hz1, hz2⟩ := info_parts node_info
  have H30 := Lib.hid (show i30.zero = some (.agg #[.int .i64 0, .string ⟨#[]⟩, .string ⟨#[]⟩, .int .i64 0, .int .i64 0, .int .i64 0, .int .i64 0, .int .i64 0]) ∧ i30.size = 8 ∧ i30.bytes = 80 from ⟨hz0, hz1, hz2⟩)
  clear hz0 hz1 hz2
  show Calls Tryd.prog 4 #[.agg #[.slice A a.l.length c, .slice A' a.y.length c', .int .i64 a.r], strV name] w _
  have hX := Blk.new w 25 #[.slice A a.l.length c, .slice A' a.y.length c', .int .i64 a.r]
  have hb0 := below_new w (.cells #[.slice A a.l.length c, .slice A' a.y.length c', .int .i64 a.r] 25)
  have HA := Lib.hid (hA.next hb0)
  have HS := Lib.hid (hS.next hb0)
  have HB := Lib.hid hb0
  have hal := hA.sm.l
  have hayl := hA.sm.y
  have HNL := Lib.hid hnm
  have hns := strV_size name
  generalize hw1 : w.alloc (.cells #[.slice A a.l.length c, .slice A' a.y.length c', .int .i64 a.r] 25) = w1 at hX HA HS HB
  have HX := Lib.hid hX
  clear hX hb0 hA hS
  go_enter Tryd.func4, Tryd.ntmps4
  go_upto_region 1 with fail
  clear hw1
  generalize w.heap.size = xa at HX ⊢
  have x0 : w1.cell? ⟨xa, 0, none⟩ = some (.slice A a.l.length c) := HX.out.cell 0
  have x1 : w1.cell? ⟨xa, 1, none⟩ = some (.slice A' a.y.length c') := HX.out.cell 1
  have x2 : w1.cell? ⟨xa, 2, none⟩ = some (.int .i64 a.r) := HX.out.cell 2
  have HC := Lib.hid (c6 a A A' c c' w1 HA.out.is_ HA.out.sm.x hal hayl)
  go_wp2_with fail
  refine HC.out.mono ?_
  rintro e w2 ⟨r, rfl, hr, hb⟩
  have HSM := Lib.hid hr
  have HX2 := Lib.hid (HX.out.next hb)
  have HA2 := Lib.hid (HA.out.next hb)
  have HS2 := Lib.hid (HS.out.next hb)
  have HB2 := Lib.hid (next_ HB.out hb)
  clear hr hb HC HX HA HS HB x0 x1 x2
  cases r with
  | true =>
    go_wp2_with fail
    refine (c14 w2 HS2.out).mono ?_
    rintro e w3 ⟨rfl, hb⟩
    have HBw := Lib.hid (next_ HB2.out hb)
    clear hb
    go_wp2_with fail
    go_ret
    exact ⟨rfl, HBw.out⟩
  | false =>
  have HSL := Lib.hid (HSM.out rfl)
  clear HSM
  have x0 : w2.cell? ⟨xa, 0, none⟩ = some (.slice A a.l.length c) := HX2.out.cell 0
  have x1 : w2.cell? ⟨xa, 1, none⟩ = some (.slice A' a.y.length c') := HX2.out.cell 1
  have x2 : w2.cell? ⟨xa, 2, none⟩ = some (.int .i64 a.r) := HX2.out.cell 2
  have HC := Lib.hid (x7 a A A' c c' w2 HA2.out.is_ hal hayl HSL.out.txt)
  go_wp2_with fail
  refine HC.out.mono ?_
  rintro e w3 ⟨b, rfl, hg, hb⟩
  have HG := Lib.hid hg
  have HX3 := Lib.hid (HX2.out.next hb)
  have HA3 := Lib.hid (HA2.out.next hb)
  have HS3 := Lib.hid (HS2.out.next hb)
  have HB3 := Lib.hid (next_ HB2.out hb)
  clear hg hb HC HX2 HA2 HS2 HB2 x0 x1 x2
  cases b with
  | false =>
    go_wp2_with fail
    refine (c14 w3 HS3.out).mono ?_
    rintro e w4 ⟨rfl, hb⟩
    have HBw := Lib.hid (next_ HB3.out hb)
    clear hb
    go_wp2_with fail
    go_ret
    exact ⟨rfl, HBw.out⟩
  | true =>
  have HRF := Lib.hid (HG.out rfl)
  clear HG
  have x0 : w3.cell? ⟨xa, 0, none⟩ = some (.slice A a.l.length c) := HX3.out.cell 0
  by_cases h490 : 490 < a.l.length
  · have h4 : (490 : Int) < (a.l.length : Int) := by omega
    go_wp2_with fail
    refine (c14 w3 HS3.out).mono ?_
    rintro e w4 ⟨rfl, hb⟩
    have HBw := Lib.hid (next_ HB3.out hb)
    clear hb
    go_wp2_with fail
    go_ret
    exact ⟨rfl, HBw.out⟩
  have h4 : ¬ (490 : Int) < (a.l.length : Int) := by omega
  have HL4 := Lib.hid (show a.l.length ≤ 490 by omega)
  by_cases h100 : 100 < name.length
  · have h5 : (100 : Int) < (name.length : Int) := by omega
    go_wp2_with fail
    refine (c14 w3 HS3.out).mono ?_
    rintro e w4 ⟨rfl, hb⟩
    have HBw := Lib.hid (next_ HB3.out hb)
    clear hb
    go_wp2_with fail
    go_ret
    exact ⟨rfl, HBw.out⟩
  have h5 : ¬ (100 : Int) < (name.length : Int) := by omega
  have HN1 := Lib.hid (show name.length ≤ 100 by omega)
  go_upto_region 3 with fail
  clear x0 h100
  have x0 : w3.cell? ⟨xa, 0, none⟩ = some (.slice A a.l.length c) := HX3.out.cell 0
  have x1 : w3.cell? ⟨xa, 1, none⟩ = some (.slice A' a.y.length c') := HX3.out.cell 1
  have x2 : w3.cell? ⟨xa, 2, none⟩ = some (.int .i64 a.r) := HX3.out.cell 2
  have HC := Lib.hid (show Calls Tryd.prog 9 #[.agg #[.slice A a.l.length c, .slice A' a.y.length c', .int .i64 a.r]] w3 (TreeBack a w3) from c9 a A A' c c' w3 HA3.out.is_ (by have := HSL.out.nodes; omega) (by have := HSL.out.types; omega))
  go_wp2_with fail
  refine HC.out.mono ?_
  rintro e w4 ⟨AU0, cU0, AU2, cU2, rfl, o30, o3, hb⟩
  rw [show treV AU0 cU0 AU2 cU2 a = .agg #[.slice AU0 a.l.length cU0, .slice AU2 a.y.length cU2, .int .i64 a.r] from rfl]
  have hu := Blk.new w4 25 #[.slice AU0 a.l.length cU0, .slice AU2 a.y.length cU2, .int .i64 a.r]
  have hbu := below_new w4 (.cells #[.slice AU0 a.l.length cU0, .slice AU2 a.y.length cU2, .int .i64 a.r] 25)
  have HO30 := Lib.hid (own_next o30 hbu)
  have HO3 := Lib.hid (own_next o3 hbu)
  have HLW := Lib.hid (next_ hb hbu)
  have HUL := Lib.hid (show w3.heap.size ≤ w4.heap.size from hb.size)
  have HX2 := Lib.hid ((HX3.out.next hb).next hbu)
  generalize hw5 : w4.alloc (.cells #[.slice AU0 a.l.length cU0, .slice AU2 a.y.length cU2, .int .i64 a.r] 25) = w5 at hu HO30 HO3 HLW HX2
  have HU := Lib.hid hu
  clear o30 o3 hb hbu hu HC x0 x1 x2
  go_upto_region 4 with fail
  clear hw5
  generalize w4.heap.size = ub at HU HUL ⊢
  have u0 : w5.cell? ⟨ub, 0, none⟩ = some (.slice AU0 a.l.length cU0) := HU.out.cell 0
  have x2 : w5.cell? ⟨xa, 2, none⟩ = some (.int .i64 a.r) := HX2.out.cell 2
  go_upto_region 5 with (at_builtin; refine wpList_append_any _ rfl (.tmp 32) (.tmp 37) 22 rfl w3.heap.size 30 i30 _ 8 80 Tryd.underlying22 fi30 H30.out.1 H30.out.2.1 H30.out.2.2 rfl (by omega) (.slice AU0 a.l.length cU0) a.l.length (a.l.flatMap nodC) rfl (own_next HO30.out (below_new _ _)) (w5.heap.size + 1) (some ⟨w5.heap.size, 0, none⟩) 1 1 (nodC (funN name a.r)) rfl (reads_blkN (Blk.new w5 30 #[.int .i64 10, strV name, .string ⟨#[]⟩, .int .i64 0, .int .i64 a.r, .int .i64 0, .int .i64 0, .int .i64 0]) rfl) (nod_own_one (funN name a.r)) (by unfold maxLen; omega) (by omega) (by rw [World.size_alloc]; have := HLW.out.size; omega) ?_; intro v1 w6 oA gA nA; obtain ⟨AU1, cU1, rfl⟩ := own_form oA; have hbn := below_new w5 (.cells #[.int .i64 10, strV name, .string ⟨#[]⟩, .int .i64 0, .int .i64 a.r, .int .i64 0, .int .i64 0, .int .i64 0] 30); have hun := HU.out.next hbn; have hon := own_next HO30.out hbn; have HO30b := Lib.hid oA; have HUb := Lib.hid (blk_row hun hon gA (by decide)); have HO3b := Lib.hid (own_row (own_next HO3.out hbn) hon gA (by decide)); have HLWb := Lib.hid ((next_ HLW.out hbn).grown gA (by rw [World.size_alloc]; have := HLW.out.size; omega) (fun k hk => (hon.lt k hk).1)); have z0 : w6.cell? ⟨ub, 0, none⟩ = some (.slice AU0 a.l.length cU0) := HUb.out.cell 0; have zf := HUb.out.frozen 0; clear oA gA nA hbn hun hon)
  clear u0 x2 z0 zf HU HO30 HO3 HLW HX2
  have hu := HUb.out.set_ 0 (.slice AU1 (a.l.length + 1) cU1)
  simp only [sLA, sL0, sL1] at hu
  have HUc := Lib.hid hu
  have HO30c := Lib.hid (own_set (i := 0) (u := .slice AU1 (a.l.length + 1) cU1) HO30b.out HUb.out (by decide))
  have HO3c := Lib.hid (own_set (i := 0) (u := .slice AU1 (a.l.length + 1) cU1) HO3b.out HUb.out (by decide))
  have HLWc := Lib.hid (HLWb.out.setCell (p := ⟨ub, 0, none⟩) (by show w3.heap.size ≤ ub; exact HUL.out) (.slice AU1 (a.l.length + 1) cU1))
  clear hu HUb HO30b HO3b HLWb
  generalize w6.setCell ⟨ub, 0, none⟩ (.slice AU1 (a.l.length + 1) cU1) = w7 at HUc HO30c HO3c HLWc ⊢
  have u0 : w7.cell? ⟨ub, 0, none⟩ = some (.slice AU1 (a.l.length + 1) cU1) := HUc.out.cell 0
  have u2 : w7.cell? ⟨ub, 2, none⟩ = some (.int .i64 a.r) := HUc.out.cell 2
  have uf := HUc.out.frozen 2
  have hu := HUc.out.set_ 2 (.int .i64 (a.l.length : Int))
  simp only [sLA, sL0, sL1] at hu
  have BU8 := Lib.hid hu
  have TU8 := Lib.hid (ext_ok (z := (funN name a.r)) (own_set (i := 2) (u := .int .i64 (a.l.length : Int)) HO30c.out HUc.out (by decide)) (own_set (i := 2) (u := .int .i64 (a.l.length : Int)) HO3c.out HUc.out (by decide)) (by omega) (by have := HSL.out.types; omega) HSL.out.txt ⟨by show name.length ≤ 3000; have := HN1.out; omega, rfl⟩)
  have hlow := HLWc.out.setCell (p := ⟨ub, 2, none⟩) (by show w3.heap.size ≤ ub; exact HUL.out) (.int .i64 (a.l.length : Int))
  have HX8 := Lib.hid (HX3.out.next hlow)
  have HA8 := Lib.hid (HA3.out.next hlow)
  have HS8 := Lib.hid (HS3.out.next hlow)
  have HB8 := Lib.hid (next_ HB3.out hlow)
  clear hu hlow HUc HO30c HO3c HLWc HUL HX3 HA3 HS3 HB3
  go_upto_region 6 with fail
  clear u0 u2 uf
  generalize w7.setCell ⟨ub, 2, none⟩ (.int .i64 (a.l.length : Int)) = w8 at BU8 TU8 HX8 HA8 HS8 HB8 ⊢
  have x0 : w8.cell? ⟨ub, 0, none⟩ = some (.slice AU1 (a.l.length + 1) cU1) := BU8.out.cell 0
  have x1 : w8.cell? ⟨ub, 1, none⟩ = some (.slice AU2 a.y.length cU2) := BU8.out.cell 1
  have x2 : w8.cell? ⟨ub, 2, none⟩ = some (.int .i64 (a.l.length : Int)) := BU8.out.cell 2
  have HC := Lib.hid (show Calls Tryd.prog 7 #[.agg #[.slice AU1 (a.l.length + 1) cU1, .slice AU2 a.y.length cU2, .int .i64 (a.l.length : Int)]] w8 (RGoodEnd (ext a (funN name a.r)) w8) from by
    rw [← tv_ext a (funN name a.r)]
    exact x7 (ext a (funN name a.r)) AU1 AU2 cU1 cU2 w8 TU8.out.is_ TU8.out.sm.l TU8.out.sm.y (fun p hp => by
      rcases List.mem_append.1 (show p ∈ a.l ++ [(funN name a.r)] from hp) with h | h
      · exact HSL.out.txt p h
      · obtain rfl := List.mem_singleton.1 h
        exact ⟨by show name.length ≤ 3000; have := HN1.out; omega, by show 0 ≤ 3000; omega⟩))
  go_wp2_with fail
  refine HC.out.mono ?_
  rintro e w9 ⟨b, rfl, hg, hb⟩
  have HG := Lib.hid hg
  have HX9 := Lib.hid (HX8.out.next hb)
  have HA9 := Lib.hid (HA8.out.next hb)
  have HS9 := Lib.hid (HS8.out.next hb)
  have HB9 := Lib.hid (next_ HB8.out hb)
  have BU9 := Lib.hid (BU8.out.next hb)
  have TU9 := Lib.hid (TU8.out.next hb)
  clear hg hb HC HX8 HA8 HS8 HB8 BU8 TU8 x0 x1 x2
  cases b with
  | false =>
    go_wp2_with fail
    refine (c14 w9 HS9.out).mono ?_
    rintro e w10 ⟨rfl, hb⟩
    have HBw := Lib.hid (next_ HB9.out hb)
    clear hb
    go_wp2_with fail
    go_ret
    exact ⟨rfl, HBw.out⟩
  | true =>
  have HRU := Lib.hid (HG.out rfl)
  clear HG
  go_upto_region 8 with fail
  have HL0 := Lib.hid (Below.refl w9.drew.heap.size w9.drew)
  have hdr : Below w9.heap.size w9 w9.drew := (Below.refl _ _).drew
  have HXd := Lib.hid (HX9.out.next hdr)
  have HAd := Lib.hid (HA9.out.next hdr)
  have HSd := Lib.hid (HS9.out.next hdr)
  have HBd := Lib.hid (next_ HB9.out hdr)
  have BUd := Lib.hid (BU9.out.next hdr)
  have TUd := Lib.hid (TU9.out.next hdr)
  clear hdr HX9 HA9 HS9 HB9 BU9 TU9
  refine wp_region_last (S := fun V => V.cell? ⟨xa, 0, none⟩ = some (.slice A a.l.length c) ∧ V.cell? ⟨xa, 1, none⟩ = some (.slice A' a.y.length c') ∧ V.cell? ⟨xa, 2, none⟩ = some (.int .i64 a.r) ∧ V.cell? ⟨ub, 0, none⟩ = some (.slice AU1 (a.l.length + 1) cU1) ∧ V.cell? ⟨ub, 1, none⟩ = some (.slice AU2 a.y.length cU2) ∧ V.cell? ⟨ub, 2, none⟩ = some (.int .i64 (a.l.length : Int))) 7 (by kernel_rfl) (by kernel_rfl) (by kernel_rfl) (by kernel_rfl) ⟨(HXd.out.next HL0.out).cell 0, (HXd.out.next HL0.out).cell 1, (HXd.out.next HL0.out).cell 2, (BUd.out.next HL0.out).cell 0, (BUd.out.next HL0.out).cell 1, (BUd.out.next HL0.out).cell 2⟩ (fun hHeld => ?_)
  generalize w9.drew = d at HL0 HXd HAd HSd HBd BUd TUd hHeld ⊢
  obtain ⟨lo, hlo⟩ : ∃ z, z = d.heap.size := ⟨_, rfl⟩
  have HLO := Lib.hid hlo
  clear hlo
  apply cutT (F := fun (p6 p7 : Nat) (f g : Int × Int) (V : World) => Below d.heap.size d V ∧ Blk V p6 36 #[.int .i64 f.1, .int .i64 f.2] ∧ Blk V p7 36 #[.int .i64 g.1, .int .i64 g.2] ∧ TwoF tab a name f g)
  case h =>
    intro key
    have KEY := Lib.hid key
    clear key
    refine tkH 0 49 ?_ rfl ?_ ?_
    rotate_left
    · rintro V ⟨s0, s1, s2, s3, s4, s5⟩; go_simp; try with_reducible rfl
    try simp only [Act.put, sLA, sL0, sL1]
    refine tkH 2 51 ?_ rfl ?_ ?_
    rotate_left
    · rintro V ⟨s0, s1, s2, s3, s4, s5⟩; go_simp; try with_reducible rfl
    try simp only [Act.put, sLA, sL0, sL1]
    refine wpAnyH_ready (rs := [1, 4, 5]) (by kernel_rfl) (by simp) ?_
    refine AllReadyH.cons (o := ⟨some 50, _, _, _, _, _⟩) rfl (fun K hK => ?_) (AllReadyH.cons (o := ⟨some 6, _, _, _, _, _⟩) rfl (fun K hK => ?_) (AllReadyH.cons (o := ⟨some 7, _, _, _, _, _⟩) rfl (fun K hK => ?_) AllReadyH.nil))
    · go_simp
      refine (show Calls Tryd.prog 15 #[.agg #[.slice A a.l.length c, .slice A' a.y.length c', .int .i64 a.r]] d (CheckEnd tab a d) from c15 d (HAd.out.next HL0.out).is_ (HSd.out.next HL0.out) HAd.out.sm).mono ?_
      rintro e V1 ⟨f, rfl, hb, hno, hyes⟩
      have Hf := Lib.hid (And.intro hno hyes)
      have HL1 := Lib.hid (next_ HL0.out hb)
      clear hb hno hyes  
      go_wp2_with fail
      refine hK.out _ _ ?_ (fun hHeld => ?_)
      · exact ⟨(HXd.out.next HL1.out).cell 0, (HXd.out.next HL1.out).cell 1, (HXd.out.next HL1.out).cell 2, (BUd.out.next HL1.out).cell 0, (BUd.out.next HL1.out).cell 1, (BUd.out.next HL1.out).cell 2⟩
      clear hK K
      try simp only [Act.put, sLA, sL0, sL1]
      refine wpAnyH_ready (rs := [3, 4, 5]) (by kernel_rfl) (by simp) ?_
      refine AllReadyH.cons (o := ⟨some 52, _, _, _, _, _⟩) rfl (fun K hK => ?_) (AllReadyH.cons (o := ⟨some 6, _, _, _, _, _⟩) rfl (fun K hK => ?_) (AllReadyH.cons (o := ⟨some 7, _, _, _, _, _⟩) rfl (fun K hK => ?_) AllReadyH.nil))
      · go_simp
        refine (show Calls Tryd.prog 15 #[.agg #[.slice AU1 (a.l.length + 1) cU1, .slice AU2 a.y.length cU2, .int .i64 (a.l.length : Int)]] V1 (CheckEnd tab (ext a (funN name a.r)) V1) from by rw [← tv_ext a (funN name a.r)]; exact c15 V1 (TUd.out.next HL1.out).is_ (HSd.out.next HL1.out) TUd.out.sm).mono ?_
        rintro e V2 ⟨g, rfl, hb, hno, hyes⟩
        have Hg := Lib.hid (And.intro hno hyes)
        have HL2 := Lib.hid (next_ HL1.out hb)
        clear hb hno hyes HL1 
        go_wp2_with fail
        refine hK.out _ _ ?_ (fun hHeld => ?_)
        · exact ⟨(HXd.out.next HL2.out).cell 0, (HXd.out.next HL2.out).cell 1, (HXd.out.next HL2.out).cell 2, (BUd.out.next HL2.out).cell 0, (BUd.out.next HL2.out).cell 1, (BUd.out.next HL2.out).cell 2⟩
        clear hK K
        try simp only [Act.put, sLA, sL0, sL1]
        refine wpAnyH_ready (rs := [4, 5]) (by kernel_rfl) (by simp) ?_
        refine AllReadyH.cons (o := ⟨some 6, _, _, _, _, _⟩) rfl (fun K hK => ?_) (AllReadyH.cons (o := ⟨some 7, _, _, _, _, _⟩) rfl (fun K hK => ?_) AllReadyH.nil)
        · have hb := below_new V2 (.cells #[.int .i64 0, .int .i64 0] 36)
          have HL3 := Lib.hid (next_ HL2.out hb)
          have HP43 := Lib.hid (Blk.new V2 36 #[.int .i64 0, .int .i64 0])
          have HPL4 := Lib.hid (show lo ≤ V2.heap.size from by have := HLO.out; have := HL2.out.size; omega)
          clear hb HL2 
          go_simp
          refine hK.out _ _ ?_ (fun hHeld => ?_)
          · exact ⟨(HXd.out.next HL3.out).cell 0, (HXd.out.next HL3.out).cell 1, (HXd.out.next HL3.out).cell 2, (BUd.out.next HL3.out).cell 0, (BUd.out.next HL3.out).cell 1, (BUd.out.next HL3.out).cell 2⟩
          clear hK K
          generalize V2.alloc (.cells #[.int .i64 0, .int .i64 0] 36) = V3 at HL3 HP43  hHeld ⊢
          obtain ⟨p6, hpe⟩ : ∃ z, z = V2.heap.size := ⟨_, rfl⟩
          rw [← hpe] at HP43 HPL4 
          try rw [← hpe]
          clear hpe
          try simp only [Act.put, sLA, sL0, sL1]
          refine wpAnyH_ready (rs := [5]) (by kernel_rfl) (by simp) ?_
          refine AllReadyH.cons (o := ⟨some 7, _, _, _, _, _⟩) rfl (fun K hK => ?_) AllReadyH.nil
          · have hb := below_new V3 (.cells #[.int .i64 0, .int .i64 0] 36)
            have HL4 := Lib.hid (next_ HL3.out hb)
            have HP54 := Lib.hid (Blk.new V3 36 #[.int .i64 0, .int .i64 0])
            have HPL5 := Lib.hid (show lo ≤ V3.heap.size from by have := HLO.out; have := HL3.out.size; omega)
            have HPN := Lib.hid (show p6 ≠ V3.heap.size from by have := HP43.out.lt; omega)
            have HP44 := Lib.hid (HP43.out.next hb)
            clear hb HL3 HP43
            go_simp
            refine hK.out _ _ ?_ (fun hHeld => ?_)
            · exact ⟨(HXd.out.next HL4.out).cell 0, (HXd.out.next HL4.out).cell 1, (HXd.out.next HL4.out).cell 2, (BUd.out.next HL4.out).cell 0, (BUd.out.next HL4.out).cell 1, (BUd.out.next HL4.out).cell 2⟩
            clear hK K
            generalize V3.alloc (.cells #[.int .i64 0, .int .i64 0] 36) = V4 at HL4 HP54 HP44 hHeld ⊢
            obtain ⟨p7, hpe⟩ : ∃ z, z = V3.heap.size := ⟨_, rfl⟩
            rw [← hpe] at HP54 HPL5 HPN
            try rw [← hpe]
            clear hpe
            try simp only [Act.put, sLA, sL0, sL1]
            refine wpAnyH_ready (rs := [6]) (by kernel_rfl) (by simp) ?_
            refine AllReadyH.cons (o := ⟨none, _, _, _, _, _⟩) rfl (fun K hK => ?_) AllReadyH.nil
            · have c0 : V4.cell? ⟨p6, 0, none⟩ = some (.int .i64 0) := HP44.out.cell 0
              have c1 : V4.cell? ⟨p6, 1, none⟩ = some (.int .i64 0) := HP44.out.cell 1
              have f0 := HP44.out.frozen 0
              have f1 := HP44.out.frozen 1
              have HP45 := Lib.hid (row2 (v0 := .int .i64 f.1) (v1 := .int .i64 f.2) HP44.out)
              have HL5 := Lib.hid (low2 (b := p6) (v0 := .int .i64 f.1) (v1 := .int .i64 f.2) (by have := HLO.out; have := HPL4.out; omega) HL4.out)
              have HP55 := Lib.hid ((HP54.out.far (p := ⟨p6, 0, none⟩) (by have := HPN.out; show p7 ≠ p6; omega) (.int .i64 f.1)).far (p := ⟨p6, 1, none⟩) (by have := HPN.out; show p7 ≠ p6; omega) (.int .i64 f.2))
              go_simp
              refine hK.out _ _ ?_ (fun hHeld => ?_)
              · exact ⟨(HXd.out.next HL5.out).cell 0, (HXd.out.next HL5.out).cell 1, (HXd.out.next HL5.out).cell 2, (BUd.out.next HL5.out).cell 0, (BUd.out.next HL5.out).cell 1, (BUd.out.next HL5.out).cell 2⟩
              clear hK K
              clear c0 c1 f0 f1 HL4 HP44 HP54
              generalize ((V4.setCell ⟨p6, 0, none⟩ (.int .i64 f.1)).setCell ⟨p6, 1, none⟩ (.int .i64 f.2)) = V5 at HL5 HP45 HP55 hHeld ⊢
              try simp only [Act.put, sLA, sL0, sL1]
              have c0 : V5.cell? ⟨p7, 0, none⟩ = some (.int .i64 0) := HP55.out.cell 0
              have c1 : V5.cell? ⟨p7, 1, none⟩ = some (.int .i64 0) := HP55.out.cell 1
              have f0 := HP55.out.frozen 0
              have f1 := HP55.out.frozen 1
              have HP56 := Lib.hid (row2 (v0 := .int .i64 g.1) (v1 := .int .i64 g.2) HP55.out)
              have HL6 := Lib.hid (low2 (b := p7) (v0 := .int .i64 g.1) (v1 := .int .i64 g.2) (by have := HLO.out; have := HPL5.out; omega) HL5.out)
              have HP46 := Lib.hid ((HP45.out.far (p := ⟨p7, 0, none⟩) (by have := HPN.out; show p6 ≠ p7; omega) (.int .i64 g.1)).far (p := ⟨p7, 1, none⟩) (by have := HPN.out; show p6 ≠ p7; omega) (.int .i64 g.2))
              refine wpAnyH_done (by kernel_rfl) ?_ _
              refine lastPost_run (o := ⟨none, _, _, _, _, _⟩) rfl (fun K hK => ?_)
              go_simp
              refine hK.out _ _ ?_
              clear hK K
              clear hHeld c0 c1 f0 f1 HL5 HP45 HP55
              generalize ((V5.setCell ⟨p7, 0, none⟩ (.int .i64 g.1)).setCell ⟨p7, 1, none⟩ (.int .i64 g.2)) = V6 at HL6 HP46 HP56  ⊢
              have HTW := Lib.hid (two_faults (tab := tab) HL4.out HRF.out HRU.out Hf.out.1 Hf.out.2 Hg.out.1 Hg.out.2)
              clear Hf Hg
              exact KEY.out p6 p7 f g V6 ⟨HL6.out, HP46.out, HP56.out, HTW.out⟩
        · have hb := below_new V2 (.cells #[.int .i64 0, .int .i64 0] 36)
          have HL3 := Lib.hid (next_ HL2.out hb)
          have HP53 := Lib.hid (Blk.new V2 36 #[.int .i64 0, .int .i64 0])
          have HPL5 := Lib.hid (show lo ≤ V2.heap.size from by have := HLO.out; have := HL2.out.size; omega)
          clear hb HL2 
          go_simp
          refine hK.out _ _ ?_ (fun hHeld => ?_)
          · exact ⟨(HXd.out.next HL3.out).cell 0, (HXd.out.next HL3.out).cell 1, (HXd.out.next HL3.out).cell 2, (BUd.out.next HL3.out).cell 0, (BUd.out.next HL3.out).cell 1, (BUd.out.next HL3.out).cell 2⟩
          clear hK K
          generalize V2.alloc (.cells #[.int .i64 0, .int .i64 0] 36) = V3 at HL3 HP53  hHeld ⊢
          obtain ⟨p7, hpe⟩ : ∃ z, z = V2.heap.size := ⟨_, rfl⟩
          rw [← hpe] at HP53 HPL5 
          try rw [← hpe]
          clear hpe
          try simp only [Act.put, sLA, sL0, sL1]
          refine wpAnyH_ready (rs := [4]) (by kernel_rfl) (by simp) ?_
          refine AllReadyH.cons (o := ⟨some 6, _, _, _, _, _⟩) rfl (fun K hK => ?_) AllReadyH.nil
          · have hb := below_new V3 (.cells #[.int .i64 0, .int .i64 0] 36)
            have HL4 := Lib.hid (next_ HL3.out hb)
            have HP44 := Lib.hid (Blk.new V3 36 #[.int .i64 0, .int .i64 0])
            have HPL4 := Lib.hid (show lo ≤ V3.heap.size from by have := HLO.out; have := HL3.out.size; omega)
            have HPN := Lib.hid (show p7 ≠ V3.heap.size from by have := HP53.out.lt; omega)
            have HP54 := Lib.hid (HP53.out.next hb)
            clear hb HL3 HP53
            go_simp
            refine hK.out _ _ ?_ (fun hHeld => ?_)
            · exact ⟨(HXd.out.next HL4.out).cell 0, (HXd.out.next HL4.out).cell 1, (HXd.out.next HL4.out).cell 2, (BUd.out.next HL4.out).cell 0, (BUd.out.next HL4.out).cell 1, (BUd.out.next HL4.out).cell 2⟩
            clear hK K
            generalize V3.alloc (.cells #[.int .i64 0, .int .i64 0] 36) = V4 at HL4 HP44 HP54 hHeld ⊢
            obtain ⟨p6, hpe⟩ : ∃ z, z = V3.heap.size := ⟨_, rfl⟩
            rw [← hpe] at HP44 HPL4 HPN
            try rw [← hpe]
            clear hpe
            try simp only [Act.put, sLA, sL0, sL1]
            refine wpAnyH_ready (rs := [6]) (by kernel_rfl) (by simp) ?_
            refine AllReadyH.cons (o := ⟨none, _, _, _, _, _⟩) rfl (fun K hK => ?_) AllReadyH.nil
            · have c0 : V4.cell? ⟨p6, 0, none⟩ = some (.int .i64 0) := HP44.out.cell 0
              have c1 : V4.cell? ⟨p6, 1, none⟩ = some (.int .i64 0) := HP44.out.cell 1
              have f0 := HP44.out.frozen 0
              have f1 := HP44.out.frozen 1
              have HP45 := Lib.hid (row2 (v0 := .int .i64 f.1) (v1 := .int .i64 f.2) HP44.out)
              have HL5 := Lib.hid (low2 (b := p6) (v0 := .int .i64 f.1) (v1 := .int .i64 f.2) (by have := HLO.out; have := HPL4.out; omega) HL4.out)
              have HP55 := Lib.hid ((HP54.out.far (p := ⟨p6, 0, none⟩) (by have := HPN.out; show p7 ≠ p6; omega) (.int .i64 f.1)).far (p := ⟨p6, 1, none⟩) (by have := HPN.out; show p7 ≠ p6; omega) (.int .i64 f.2))
              go_simp
              refine hK.out _ _ ?_ (fun hHeld => ?_)
              · exact ⟨(HXd.out.next HL5.out).cell 0, (HXd.out.next HL5.out).cell 1, (HXd.out.next HL5.out).cell 2, (BUd.out.next HL5.out).cell 0, (BUd.out.next HL5.out).cell 1, (BUd.out.next HL5.out).cell 2⟩
              clear hK K
              clear c0 c1 f0 f1 HL4 HP44 HP54
              generalize ((V4.setCell ⟨p6, 0, none⟩ (.int .i64 f.1)).setCell ⟨p6, 1, none⟩ (.int .i64 f.2)) = V5 at HL5 HP45 HP55 hHeld ⊢
              try simp only [Act.put, sLA, sL0, sL1]
              have c0 : V5.cell? ⟨p7, 0, none⟩ = some (.int .i64 0) := HP55.out.cell 0
              have c1 : V5.cell? ⟨p7, 1, none⟩ = some (.int .i64 0) := HP55.out.cell 1
              have f0 := HP55.out.frozen 0
              have f1 := HP55.out.frozen 1
              have HP56 := Lib.hid (row2 (v0 := .int .i64 g.1) (v1 := .int .i64 g.2) HP55.out)
              have HL6 := Lib.hid (low2 (b := p7) (v0 := .int .i64 g.1) (v1 := .int .i64 g.2) (by have := HLO.out; have := HPL5.out; omega) HL5.out)
              have HP46 := Lib.hid ((HP45.out.far (p := ⟨p7, 0, none⟩) (by have := HPN.out; show p6 ≠ p7; omega) (.int .i64 g.1)).far (p := ⟨p7, 1, none⟩) (by have := HPN.out; show p6 ≠ p7; omega) (.int .i64 g.2))
              refine wpAnyH_done (by kernel_rfl) ?_ _
              refine lastPost_run (o := ⟨none, _, _, _, _, _⟩) rfl (fun K hK => ?_)
              go_simp
              refine hK.out _ _ ?_
              clear hK K
              clear hHeld c0 c1 f0 f1 HL5 HP45 HP55
              generalize ((V5.setCell ⟨p7, 0, none⟩ (.int .i64 g.1)).setCell ⟨p7, 1, none⟩ (.int .i64 g.2)) = V6 at HL6 HP46 HP56  ⊢
              have HTW := Lib.hid (two_faults (tab := tab) HL4.out HRF.out HRU.out Hf.out.1 Hf.out.2 Hg.out.1 Hg.out.2)
              clear Hf Hg
              exact KEY.out p6 p7 f g V6 ⟨HL6.out, HP46.out, HP56.out, HTW.out⟩
      · have hb := below_new V1 (.cells #[.int .i64 0, .int .i64 0] 36)
        have HL2 := Lib.hid (next_ HL1.out hb)
        have HP42 := Lib.hid (Blk.new V1 36 #[.int .i64 0, .int .i64 0])
        have HPL4 := Lib.hid (show lo ≤ V1.heap.size from by have := HLO.out; have := HL1.out.size; omega)
        clear hb HL1 
        go_simp
        refine hK.out _ _ ?_ (fun hHeld => ?_)
        · exact ⟨(HXd.out.next HL2.out).cell 0, (HXd.out.next HL2.out).cell 1, (HXd.out.next HL2.out).cell 2, (BUd.out.next HL2.out).cell 0, (BUd.out.next HL2.out).cell 1, (BUd.out.next HL2.out).cell 2⟩
        clear hK K
        generalize V1.alloc (.cells #[.int .i64 0, .int .i64 0] 36) = V2 at HL2 HP42  hHeld ⊢
        obtain ⟨p6, hpe⟩ : ∃ z, z = V1.heap.size := ⟨_, rfl⟩
        rw [← hpe] at HP42 HPL4 
        try rw [← hpe]
        clear hpe
        try simp only [Act.put, sLA, sL0, sL1]
        refine wpAnyH_ready (rs := [3, 5]) (by kernel_rfl) (by simp) ?_
        refine AllReadyH.cons (o := ⟨some 52, _, _, _, _, _⟩) rfl (fun K hK => ?_) (AllReadyH.cons (o := ⟨some 7, _, _, _, _, _⟩) rfl (fun K hK => ?_) AllReadyH.nil)
        · go_simp
          refine (show Calls Tryd.prog 15 #[.agg #[.slice AU1 (a.l.length + 1) cU1, .slice AU2 a.y.length cU2, .int .i64 (a.l.length : Int)]] V2 (CheckEnd tab (ext a (funN name a.r)) V2) from by rw [← tv_ext a (funN name a.r)]; exact c15 V2 (TUd.out.next HL2.out).is_ (HSd.out.next HL2.out) TUd.out.sm).mono ?_
          rintro e V3 ⟨g, rfl, hb, hno, hyes⟩
          have Hg := Lib.hid (And.intro hno hyes)
          have HL3 := Lib.hid (next_ HL2.out hb)
          have HP43 := Lib.hid (HP42.out.next hb)
          clear hb hno hyes HL2 HP42
          go_wp2_with fail
          refine hK.out _ _ ?_ (fun hHeld => ?_)
          · exact ⟨(HXd.out.next HL3.out).cell 0, (HXd.out.next HL3.out).cell 1, (HXd.out.next HL3.out).cell 2, (BUd.out.next HL3.out).cell 0, (BUd.out.next HL3.out).cell 1, (BUd.out.next HL3.out).cell 2⟩
          clear hK K
          try simp only [Act.put, sLA, sL0, sL1]
          refine wpAnyH_ready (rs := [5]) (by kernel_rfl) (by simp) ?_
          refine AllReadyH.cons (o := ⟨some 7, _, _, _, _, _⟩) rfl (fun K hK => ?_) AllReadyH.nil
          · have hb := below_new V3 (.cells #[.int .i64 0, .int .i64 0] 36)
            have HL4 := Lib.hid (next_ HL3.out hb)
            have HP54 := Lib.hid (Blk.new V3 36 #[.int .i64 0, .int .i64 0])
            have HPL5 := Lib.hid (show lo ≤ V3.heap.size from by have := HLO.out; have := HL3.out.size; omega)
            have HPN := Lib.hid (show p6 ≠ V3.heap.size from by have := HP43.out.lt; omega)
            have HP44 := Lib.hid (HP43.out.next hb)
            clear hb HL3 HP43
            go_simp
            refine hK.out _ _ ?_ (fun hHeld => ?_)
            · exact ⟨(HXd.out.next HL4.out).cell 0, (HXd.out.next HL4.out).cell 1, (HXd.out.next HL4.out).cell 2, (BUd.out.next HL4.out).cell 0, (BUd.out.next HL4.out).cell 1, (BUd.out.next HL4.out).cell 2⟩
            clear hK K
            generalize V3.alloc (.cells #[.int .i64 0, .int .i64 0] 36) = V4 at HL4 HP54 HP44 hHeld ⊢
            obtain ⟨p7, hpe⟩ : ∃ z, z = V3.heap.size := ⟨_, rfl⟩
            rw [← hpe] at HP54 HPL5 HPN
            try rw [← hpe]
            clear hpe
            try simp only [Act.put, sLA, sL0, sL1]
            refine wpAnyH_ready (rs := [6]) (by kernel_rfl) (by simp) ?_
            refine AllReadyH.cons (o := ⟨none, _, _, _, _, _⟩) rfl (fun K hK => ?_) AllReadyH.nil
            · have c0 : V4.cell? ⟨p6, 0, none⟩ = some (.int .i64 0) := HP44.out.cell 0
              have c1 : V4.cell? ⟨p6, 1, none⟩ = some (.int .i64 0) := HP44.out.cell 1
              have f0 := HP44.out.frozen 0
              have f1 := HP44.out.frozen 1
              have HP45 := Lib.hid (row2 (v0 := .int .i64 f.1) (v1 := .int .i64 f.2) HP44.out)
              have HL5 := Lib.hid (low2 (b := p6) (v0 := .int .i64 f.1) (v1 := .int .i64 f.2) (by have := HLO.out; have := HPL4.out; omega) HL4.out)
              have HP55 := Lib.hid ((HP54.out.far (p := ⟨p6, 0, none⟩) (by have := HPN.out; show p7 ≠ p6; omega) (.int .i64 f.1)).far (p := ⟨p6, 1, none⟩) (by have := HPN.out; show p7 ≠ p6; omega) (.int .i64 f.2))
              go_simp
              refine hK.out _ _ ?_ (fun hHeld => ?_)
              · exact ⟨(HXd.out.next HL5.out).cell 0, (HXd.out.next HL5.out).cell 1, (HXd.out.next HL5.out).cell 2, (BUd.out.next HL5.out).cell 0, (BUd.out.next HL5.out).cell 1, (BUd.out.next HL5.out).cell 2⟩
              clear hK K
              clear c0 c1 f0 f1 HL4 HP44 HP54
              generalize ((V4.setCell ⟨p6, 0, none⟩ (.int .i64 f.1)).setCell ⟨p6, 1, none⟩ (.int .i64 f.2)) = V5 at HL5 HP45 HP55 hHeld ⊢
              try simp only [Act.put, sLA, sL0, sL1]
              have c0 : V5.cell? ⟨p7, 0, none⟩ = some (.int .i64 0) := HP55.out.cell 0
              have c1 : V5.cell? ⟨p7, 1, none⟩ = some (.int .i64 0) := HP55.out.cell 1
              have f0 := HP55.out.frozen 0
              have f1 := HP55.out.frozen 1
              have HP56 := Lib.hid (row2 (v0 := .int .i64 g.1) (v1 := .int .i64 g.2) HP55.out)
              have HL6 := Lib.hid (low2 (b := p7) (v0 := .int .i64 g.1) (v1 := .int .i64 g.2) (by have := HLO.out; have := HPL5.out; omega) HL5.out)
              have HP46 := Lib.hid ((HP45.out.far (p := ⟨p7, 0, none⟩) (by have := HPN.out; show p6 ≠ p7; omega) (.int .i64 g.1)).far (p := ⟨p7, 1, none⟩) (by have := HPN.out; show p6 ≠ p7; omega) (.int .i64 g.2))
              refine wpAnyH_done (by kernel_rfl) ?_ _
              refine lastPost_run (o := ⟨none, _, _, _, _, _⟩) rfl (fun K hK => ?_)
              go_simp
              refine hK.out _ _ ?_
              clear hK K
              clear hHeld c0 c1 f0 f1 HL5 HP45 HP55
              generalize ((V5.setCell ⟨p7, 0, none⟩ (.int .i64 g.1)).setCell ⟨p7, 1, none⟩ (.int .i64 g.2)) = V6 at HL6 HP46 HP56  ⊢
              have HTW := Lib.hid (two_faults (tab := tab) HL4.out HRF.out HRU.out Hf.out.1 Hf.out.2 Hg.out.1 Hg.out.2)
              clear Hf Hg
              exact KEY.out p6 p7 f g V6 ⟨HL6.out, HP46.out, HP56.out, HTW.out⟩
        · have hb := below_new V2 (.cells #[.int .i64 0, .int .i64 0] 36)
          have HL3 := Lib.hid (next_ HL2.out hb)
          have HP53 := Lib.hid (Blk.new V2 36 #[.int .i64 0, .int .i64 0])
          have HPL5 := Lib.hid (show lo ≤ V2.heap.size from by have := HLO.out; have := HL2.out.size; omega)
          have HPN := Lib.hid (show p6 ≠ V2.heap.size from by have := HP42.out.lt; omega)
          have HP43 := Lib.hid (HP42.out.next hb)
          clear hb HL2 HP42
          go_simp
          refine hK.out _ _ ?_ (fun hHeld => ?_)
          · exact ⟨(HXd.out.next HL3.out).cell 0, (HXd.out.next HL3.out).cell 1, (HXd.out.next HL3.out).cell 2, (BUd.out.next HL3.out).cell 0, (BUd.out.next HL3.out).cell 1, (BUd.out.next HL3.out).cell 2⟩
          clear hK K
          generalize V2.alloc (.cells #[.int .i64 0, .int .i64 0] 36) = V3 at HL3 HP53 HP43 hHeld ⊢
          obtain ⟨p7, hpe⟩ : ∃ z, z = V2.heap.size := ⟨_, rfl⟩
          rw [← hpe] at HP53 HPL5 HPN
          try rw [← hpe]
          clear hpe
          try simp only [Act.put, sLA, sL0, sL1]
          refine wpAnyH_ready (rs := [3]) (by kernel_rfl) (by simp) ?_
          refine AllReadyH.cons (o := ⟨some 52, _, _, _, _, _⟩) rfl (fun K hK => ?_) AllReadyH.nil
          · go_simp
            refine (show Calls Tryd.prog 15 #[.agg #[.slice AU1 (a.l.length + 1) cU1, .slice AU2 a.y.length cU2, .int .i64 (a.l.length : Int)]] V3 (CheckEnd tab (ext a (funN name a.r)) V3) from by rw [← tv_ext a (funN name a.r)]; exact c15 V3 (TUd.out.next HL3.out).is_ (HSd.out.next HL3.out) TUd.out.sm).mono ?_
            rintro e V4 ⟨g, rfl, hb, hno, hyes⟩
            have Hg := Lib.hid (And.intro hno hyes)
            have HL4 := Lib.hid (next_ HL3.out hb)
            have HP44 := Lib.hid (HP43.out.next hb)
            have HP54 := Lib.hid (HP53.out.next hb)
            clear hb hno hyes HL3 HP43 HP53
            go_wp2_with fail
            refine hK.out _ _ ?_ (fun hHeld => ?_)
            · exact ⟨(HXd.out.next HL4.out).cell 0, (HXd.out.next HL4.out).cell 1, (HXd.out.next HL4.out).cell 2, (BUd.out.next HL4.out).cell 0, (BUd.out.next HL4.out).cell 1, (BUd.out.next HL4.out).cell 2⟩
            clear hK K
            try simp only [Act.put, sLA, sL0, sL1]
            refine wpAnyH_ready (rs := [6]) (by kernel_rfl) (by simp) ?_
            refine AllReadyH.cons (o := ⟨none, _, _, _, _, _⟩) rfl (fun K hK => ?_) AllReadyH.nil
            · have c0 : V4.cell? ⟨p6, 0, none⟩ = some (.int .i64 0) := HP44.out.cell 0
              have c1 : V4.cell? ⟨p6, 1, none⟩ = some (.int .i64 0) := HP44.out.cell 1
              have f0 := HP44.out.frozen 0
              have f1 := HP44.out.frozen 1
              have HP45 := Lib.hid (row2 (v0 := .int .i64 f.1) (v1 := .int .i64 f.2) HP44.out)
              have HL5 := Lib.hid (low2 (b := p6) (v0 := .int .i64 f.1) (v1 := .int .i64 f.2) (by have := HLO.out; have := HPL4.out; omega) HL4.out)
              have HP55 := Lib.hid ((HP54.out.far (p := ⟨p6, 0, none⟩) (by have := HPN.out; show p7 ≠ p6; omega) (.int .i64 f.1)).far (p := ⟨p6, 1, none⟩) (by have := HPN.out; show p7 ≠ p6; omega) (.int .i64 f.2))
              go_simp
              refine hK.out _ _ ?_ (fun hHeld => ?_)
              · exact ⟨(HXd.out.next HL5.out).cell 0, (HXd.out.next HL5.out).cell 1, (HXd.out.next HL5.out).cell 2, (BUd.out.next HL5.out).cell 0, (BUd.out.next HL5.out).cell 1, (BUd.out.next HL5.out).cell 2⟩
              clear hK K
              clear c0 c1 f0 f1 HL4 HP44 HP54
              generalize ((V4.setCell ⟨p6, 0, none⟩ (.int .i64 f.1)).setCell ⟨p6, 1, none⟩ (.int .i64 f.2)) = V5 at HL5 HP45 HP55 hHeld ⊢
              try simp only [Act.put, sLA, sL0, sL1]
              have c0 : V5.cell? ⟨p7, 0, none⟩ = some (.int .i64 0) := HP55.out.cell 0
              have c1 : V5.cell? ⟨p7, 1, none⟩ = some (.int .i64 0) := HP55.out.cell 1
              have f0 := HP55.out.frozen 0
              have f1 := HP55.out.frozen 1
              have HP56 := Lib.hid (row2 (v0 := .int .i64 g.1) (v1 := .int .i64 g.2) HP55.out)
              have HL6 := Lib.hid (low2 (b := p7) (v0 := .int .i64 g.1) (v1 := .int .i64 g.2) (by have := HLO.out; have := HPL5.out; omega) HL5.out)
              have HP46 := Lib.hid ((HP45.out.far (p := ⟨p7, 0, none⟩) (by have := HPN.out; show p6 ≠ p7; omega) (.int .i64 g.1)).far (p := ⟨p7, 1, none⟩) (by have := HPN.out; show p6 ≠ p7; omega) (.int .i64 g.2))
              refine wpAnyH_done (by kernel_rfl) ?_ _
              refine lastPost_run (o := ⟨none, _, _, _, _, _⟩) rfl (fun K hK => ?_)
              go_simp
              refine hK.out _ _ ?_
              clear hK K
              clear hHeld c0 c1 f0 f1 HL5 HP45 HP55
              generalize ((V5.setCell ⟨p7, 0, none⟩ (.int .i64 g.1)).setCell ⟨p7, 1, none⟩ (.int .i64 g.2)) = V6 at HL6 HP46 HP56  ⊢
              have HTW := Lib.hid (two_faults (tab := tab) HL4.out HRF.out HRU.out Hf.out.1 Hf.out.2 Hg.out.1 Hg.out.2)
              clear Hf Hg
              exact KEY.out p6 p7 f g V6 ⟨HL6.out, HP46.out, HP56.out, HTW.out⟩
      · have hb := below_new V1 (.cells #[.int .i64 0, .int .i64 0] 36)
        have HL2 := Lib.hid (next_ HL1.out hb)
        have HP52 := Lib.hid (Blk.new V1 36 #[.int .i64 0, .int .i64 0])
        have HPL5 := Lib.hid (show lo ≤ V1.heap.size from by have := HLO.out; have := HL1.out.size; omega)
        clear hb HL1 
        go_simp
        refine hK.out _ _ ?_ (fun hHeld => ?_)
        · exact ⟨(HXd.out.next HL2.out).cell 0, (HXd.out.next HL2.out).cell 1, (HXd.out.next HL2.out).cell 2, (BUd.out.next HL2.out).cell 0, (BUd.out.next HL2.out).cell 1, (BUd.out.next HL2.out).cell 2⟩
        clear hK K
        generalize V1.alloc (.cells #[.int .i64 0, .int .i64 0] 36) = V2 at HL2 HP52  hHeld ⊢
        obtain ⟨p7, hpe⟩ : ∃ z, z = V1.heap.size := ⟨_, rfl⟩
        rw [← hpe] at HP52 HPL5 
        try rw [← hpe]
        clear hpe
        try simp only [Act.put, sLA, sL0, sL1]
        refine wpAnyH_ready (rs := [3, 4]) (by kernel_rfl) (by simp) ?_
        refine AllReadyH.cons (o := ⟨some 52, _, _, _, _, _⟩) rfl (fun K hK => ?_) (AllReadyH.cons (o := ⟨some 6, _, _, _, _, _⟩) rfl (fun K hK => ?_) AllReadyH.nil)
        · go_simp
          refine (show Calls Tryd.prog 15 #[.agg #[.slice AU1 (a.l.length + 1) cU1, .slice AU2 a.y.length cU2, .int .i64 (a.l.length : Int)]] V2 (CheckEnd tab (ext a (funN name a.r)) V2) from by rw [← tv_ext a (funN name a.r)]; exact c15 V2 (TUd.out.next HL2.out).is_ (HSd.out.next HL2.out) TUd.out.sm).mono ?_
          rintro e V3 ⟨g, rfl, hb, hno, hyes⟩
          have Hg := Lib.hid (And.intro hno hyes)
          have HL3 := Lib.hid (next_ HL2.out hb)
          have HP53 := Lib.hid (HP52.out.next hb)
          clear hb hno hyes HL2 HP52
          go_wp2_with fail
          refine hK.out _ _ ?_ (fun hHeld => ?_)
          · exact ⟨(HXd.out.next HL3.out).cell 0, (HXd.out.next HL3.out).cell 1, (HXd.out.next HL3.out).cell 2, (BUd.out.next HL3.out).cell 0, (BUd.out.next HL3.out).cell 1, (BUd.out.next HL3.out).cell 2⟩
          clear hK K
          try simp only [Act.put, sLA, sL0, sL1]
          refine wpAnyH_ready (rs := [4]) (by kernel_rfl) (by simp) ?_
          refine AllReadyH.cons (o := ⟨some 6, _, _, _, _, _⟩) rfl (fun K hK => ?_) AllReadyH.nil
          · have hb := below_new V3 (.cells #[.int .i64 0, .int .i64 0] 36)
            have HL4 := Lib.hid (next_ HL3.out hb)
            have HP44 := Lib.hid (Blk.new V3 36 #[.int .i64 0, .int .i64 0])
            have HPL4 := Lib.hid (show lo ≤ V3.heap.size from by have := HLO.out; have := HL3.out.size; omega)
            have HPN := Lib.hid (show p7 ≠ V3.heap.size from by have := HP53.out.lt; omega)
            have HP54 := Lib.hid (HP53.out.next hb)
            clear hb HL3 HP53
            go_simp
            refine hK.out _ _ ?_ (fun hHeld => ?_)
            · exact ⟨(HXd.out.next HL4.out).cell 0, (HXd.out.next HL4.out).cell 1, (HXd.out.next HL4.out).cell 2, (BUd.out.next HL4.out).cell 0, (BUd.out.next HL4.out).cell 1, (BUd.out.next HL4.out).cell 2⟩
            clear hK K
            generalize V3.alloc (.cells #[.int .i64 0, .int .i64 0] 36) = V4 at HL4 HP44 HP54 hHeld ⊢
            obtain ⟨p6, hpe⟩ : ∃ z, z = V3.heap.size := ⟨_, rfl⟩
            rw [← hpe] at HP44 HPL4 HPN
            try rw [← hpe]
            clear hpe
            try simp only [Act.put, sLA, sL0, sL1]
            refine wpAnyH_ready (rs := [6]) (by kernel_rfl) (by simp) ?_
            refine AllReadyH.cons (o := ⟨none, _, _, _, _, _⟩) rfl (fun K hK => ?_) AllReadyH.nil
            · have c0 : V4.cell? ⟨p6, 0, none⟩ = some (.int .i64 0) := HP44.out.cell 0
              have c1 : V4.cell? ⟨p6, 1, none⟩ = some (.int .i64 0) := HP44.out.cell 1
              have f0 := HP44.out.frozen 0
              have f1 := HP44.out.frozen 1
              have HP45 := Lib.hid (row2 (v0 := .int .i64 f.1) (v1 := .int .i64 f.2) HP44.out)
              have HL5 := Lib.hid (low2 (b := p6) (v0 := .int .i64 f.1) (v1 := .int .i64 f.2) (by have := HLO.out; have := HPL4.out; omega) HL4.out)
              have HP55 := Lib.hid ((HP54.out.far (p := ⟨p6, 0, none⟩) (by have := HPN.out; show p7 ≠ p6; omega) (.int .i64 f.1)).far (p := ⟨p6, 1, none⟩) (by have := HPN.out; show p7 ≠ p6; omega) (.int .i64 f.2))
              go_simp
              refine hK.out _ _ ?_ (fun hHeld => ?_)
              · exact ⟨(HXd.out.next HL5.out).cell 0, (HXd.out.next HL5.out).cell 1, (HXd.out.next HL5.out).cell 2, (BUd.out.next HL5.out).cell 0, (BUd.out.next HL5.out).cell 1, (BUd.out.next HL5.out).cell 2⟩
              clear hK K
              clear c0 c1 f0 f1 HL4 HP44 HP54
              generalize ((V4.setCell ⟨p6, 0, none⟩ (.int .i64 f.1)).setCell ⟨p6, 1, none⟩ (.int .i64 f.2)) = V5 at HL5 HP45 HP55 hHeld ⊢
              try simp only [Act.put, sLA, sL0, sL1]
              have c0 : V5.cell? ⟨p7, 0, none⟩ = some (.int .i64 0) := HP55.out.cell 0
              have c1 : V5.cell? ⟨p7, 1, none⟩ = some (.int .i64 0) := HP55.out.cell 1
              have f0 := HP55.out.frozen 0
              have f1 := HP55.out.frozen 1
              have HP56 := Lib.hid (row2 (v0 := .int .i64 g.1) (v1 := .int .i64 g.2) HP55.out)
              have HL6 := Lib.hid (low2 (b := p7) (v0 := .int .i64 g.1) (v1 := .int .i64 g.2) (by have := HLO.out; have := HPL5.out; omega) HL5.out)
              have HP46 := Lib.hid ((HP45.out.far (p := ⟨p7, 0, none⟩) (by have := HPN.out; show p6 ≠ p7; omega) (.int .i64 g.1)).far (p := ⟨p7, 1, none⟩) (by have := HPN.out; show p6 ≠ p7; omega) (.int .i64 g.2))
              refine wpAnyH_done (by kernel_rfl) ?_ _
              refine lastPost_run (o := ⟨none, _, _, _, _, _⟩) rfl (fun K hK => ?_)
              go_simp
              refine hK.out _ _ ?_
              clear hK K
              clear hHeld c0 c1 f0 f1 HL5 HP45 HP55
              generalize ((V5.setCell ⟨p7, 0, none⟩ (.int .i64 g.1)).setCell ⟨p7, 1, none⟩ (.int .i64 g.2)) = V6 at HL6 HP46 HP56  ⊢
              have HTW := Lib.hid (two_faults (tab := tab) HL4.out HRF.out HRU.out Hf.out.1 Hf.out.2 Hg.out.1 Hg.out.2)
              clear Hf Hg
              exact KEY.out p6 p7 f g V6 ⟨HL6.out, HP46.out, HP56.out, HTW.out⟩
        · have hb := below_new V2 (.cells #[.int .i64 0, .int .i64 0] 36)
          have HL3 := Lib.hid (next_ HL2.out hb)
          have HP43 := Lib.hid (Blk.new V2 36 #[.int .i64 0, .int .i64 0])
          have HPL4 := Lib.hid (show lo ≤ V2.heap.size from by have := HLO.out; have := HL2.out.size; omega)
          have HPN := Lib.hid (show p7 ≠ V2.heap.size from by have := HP52.out.lt; omega)
          have HP53 := Lib.hid (HP52.out.next hb)
          clear hb HL2 HP52
          go_simp
          refine hK.out _ _ ?_ (fun hHeld => ?_)
          · exact ⟨(HXd.out.next HL3.out).cell 0, (HXd.out.next HL3.out).cell 1, (HXd.out.next HL3.out).cell 2, (BUd.out.next HL3.out).cell 0, (BUd.out.next HL3.out).cell 1, (BUd.out.next HL3.out).cell 2⟩
          clear hK K
          generalize V2.alloc (.cells #[.int .i64 0, .int .i64 0] 36) = V3 at HL3 HP43 HP53 hHeld ⊢
          obtain ⟨p6, hpe⟩ : ∃ z, z = V2.heap.size := ⟨_, rfl⟩
          rw [← hpe] at HP43 HPL4 HPN
          try rw [← hpe]
          clear hpe
          try simp only [Act.put, sLA, sL0, sL1]
          refine wpAnyH_ready (rs := [3]) (by kernel_rfl) (by simp) ?_
          refine AllReadyH.cons (o := ⟨some 52, _, _, _, _, _⟩) rfl (fun K hK => ?_) AllReadyH.nil
          · go_simp
            refine (show Calls Tryd.prog 15 #[.agg #[.slice AU1 (a.l.length + 1) cU1, .slice AU2 a.y.length cU2, .int .i64 (a.l.length : Int)]] V3 (CheckEnd tab (ext a (funN name a.r)) V3) from by rw [← tv_ext a (funN name a.r)]; exact c15 V3 (TUd.out.next HL3.out).is_ (HSd.out.next HL3.out) TUd.out.sm).mono ?_
            rintro e V4 ⟨g, rfl, hb, hno, hyes⟩
            have Hg := Lib.hid (And.intro hno hyes)
            have HL4 := Lib.hid (next_ HL3.out hb)
            have HP44 := Lib.hid (HP43.out.next hb)
            have HP54 := Lib.hid (HP53.out.next hb)
            clear hb hno hyes HL3 HP43 HP53
            go_wp2_with fail
            refine hK.out _ _ ?_ (fun hHeld => ?_)
            · exact ⟨(HXd.out.next HL4.out).cell 0, (HXd.out.next HL4.out).cell 1, (HXd.out.next HL4.out).cell 2, (BUd.out.next HL4.out).cell 0, (BUd.out.next HL4.out).cell 1, (BUd.out.next HL4.out).cell 2⟩
            clear hK K
            try simp only [Act.put, sLA, sL0, sL1]
            refine wpAnyH_ready (rs := [6]) (by kernel_rfl) (by simp) ?_
            refine AllReadyH.cons (o := ⟨none, _, _, _, _, _⟩) rfl (fun K hK => ?_) AllReadyH.nil
            · have c0 : V4.cell? ⟨p6, 0, none⟩ = some (.int .i64 0) := HP44.out.cell 0
              have c1 : V4.cell? ⟨p6, 1, none⟩ = some (.int .i64 0) := HP44.out.cell 1
              have f0 := HP44.out.frozen 0
              have f1 := HP44.out.frozen 1
              have HP45 := Lib.hid (row2 (v0 := .int .i64 f.1) (v1 := .int .i64 f.2) HP44.out)
              have HL5 := Lib.hid (low2 (b := p6) (v0 := .int .i64 f.1) (v1 := .int .i64 f.2) (by have := HLO.out; have := HPL4.out; omega) HL4.out)
              have HP55 := Lib.hid ((HP54.out.far (p := ⟨p6, 0, none⟩) (by have := HPN.out; show p7 ≠ p6; omega) (.int .i64 f.1)).far (p := ⟨p6, 1, none⟩) (by have := HPN.out; show p7 ≠ p6; omega) (.int .i64 f.2))
              go_simp
              refine hK.out _ _ ?_ (fun hHeld => ?_)
              · exact ⟨(HXd.out.next HL5.out).cell 0, (HXd.out.next HL5.out).cell 1, (HXd.out.next HL5.out).cell 2, (BUd.out.next HL5.out).cell 0, (BUd.out.next HL5.out).cell 1, (BUd.out.next HL5.out).cell 2⟩
              clear hK K
              clear c0 c1 f0 f1 HL4 HP44 HP54
              generalize ((V4.setCell ⟨p6, 0, none⟩ (.int .i64 f.1)).setCell ⟨p6, 1, none⟩ (.int .i64 f.2)) = V5 at HL5 HP45 HP55 hHeld ⊢
              try simp only [Act.put, sLA, sL0, sL1]
              have c0 : V5.cell? ⟨p7, 0, none⟩ = some (.int .i64 0) := HP55.out.cell 0
              have c1 : V5.cell? ⟨p7, 1, none⟩ = some (.int .i64 0) := HP55.out.cell 1
              have f0 := HP55.out.frozen 0
              have f1 := HP55.out.frozen 1
              have HP56 := Lib.hid (row2 (v0 := .int .i64 g.1) (v1 := .int .i64 g.2) HP55.out)
              have HL6 := Lib.hid (low2 (b := p7) (v0 := .int .i64 g.1) (v1 := .int .i64 g.2) (by have := HLO.out; have := HPL5.out; omega) HL5.out)
              have HP46 := Lib.hid ((HP45.out.far (p := ⟨p7, 0, none⟩) (by have := HPN.out; show p6 ≠ p7; omega) (.int .i64 g.1)).far (p := ⟨p7, 1, none⟩) (by have := HPN.out; show p6 ≠ p7; omega) (.int .i64 g.2))
              refine wpAnyH_done (by kernel_rfl) ?_ _
              refine lastPost_run (o := ⟨none, _, _, _, _, _⟩) rfl (fun K hK => ?_)
              go_simp
              refine hK.out _ _ ?_
              clear hK K
              clear hHeld c0 c1 f0 f1 HL5 HP45 HP55
              generalize ((V5.setCell ⟨p7, 0, none⟩ (.int .i64 g.1)).setCell ⟨p7, 1, none⟩ (.int .i64 g.2)) = V6 at HL6 HP46 HP56  ⊢
              have HTW := Lib.hid (two_faults (tab := tab) HL4.out HRF.out HRU.out Hf.out.1 Hf.out.2 Hg.out.1 Hg.out.2)
              clear Hf Hg
              exact KEY.out p6 p7 f g V6 ⟨HL6.out, HP46.out, HP56.out, HTW.out⟩
    · have hb := below_new d (.cells #[.int .i64 0, .int .i64 0] 36)
      have HL1 := Lib.hid (next_ HL0.out hb)
      have HP41 := Lib.hid (Blk.new d 36 #[.int .i64 0, .int .i64 0])
      have HPL4 := Lib.hid (show lo ≤ d.heap.size from by have := HLO.out; have := HL0.out.size; omega)
      clear hb  
      go_simp
      refine hK.out _ _ ?_ (fun hHeld => ?_)
      · exact ⟨(HXd.out.next HL1.out).cell 0, (HXd.out.next HL1.out).cell 1, (HXd.out.next HL1.out).cell 2, (BUd.out.next HL1.out).cell 0, (BUd.out.next HL1.out).cell 1, (BUd.out.next HL1.out).cell 2⟩
      clear hK K
      generalize d.alloc (.cells #[.int .i64 0, .int .i64 0] 36) = V1 at HL1 HP41  hHeld ⊢
      obtain ⟨p6, hpe⟩ : ∃ z, z = d.heap.size := ⟨_, rfl⟩
      rw [← hpe] at HP41 HPL4 
      try rw [← hpe]
      clear hpe
      try simp only [Act.put, sLA, sL0, sL1]
      refine wpAnyH_ready (rs := [1, 5]) (by kernel_rfl) (by simp) ?_
      refine AllReadyH.cons (o := ⟨some 50, _, _, _, _, _⟩) rfl (fun K hK => ?_) (AllReadyH.cons (o := ⟨some 7, _, _, _, _, _⟩) rfl (fun K hK => ?_) AllReadyH.nil)
      · go_simp
        refine (show Calls Tryd.prog 15 #[.agg #[.slice A a.l.length c, .slice A' a.y.length c', .int .i64 a.r]] V1 (CheckEnd tab a V1) from c15 V1 (HAd.out.next HL1.out).is_ (HSd.out.next HL1.out) HAd.out.sm).mono ?_
        rintro e V2 ⟨f, rfl, hb, hno, hyes⟩
        have Hf := Lib.hid (And.intro hno hyes)
        have HL2 := Lib.hid (next_ HL1.out hb)
        have HP42 := Lib.hid (HP41.out.next hb)
        clear hb hno hyes HL1 HP41
        go_wp2_with fail
        refine hK.out _ _ ?_ (fun hHeld => ?_)
        · exact ⟨(HXd.out.next HL2.out).cell 0, (HXd.out.next HL2.out).cell 1, (HXd.out.next HL2.out).cell 2, (BUd.out.next HL2.out).cell 0, (BUd.out.next HL2.out).cell 1, (BUd.out.next HL2.out).cell 2⟩
        clear hK K
        try simp only [Act.put, sLA, sL0, sL1]
        refine wpAnyH_ready (rs := [3, 5]) (by kernel_rfl) (by simp) ?_
        refine AllReadyH.cons (o := ⟨some 52, _, _, _, _, _⟩) rfl (fun K hK => ?_) (AllReadyH.cons (o := ⟨some 7, _, _, _, _, _⟩) rfl (fun K hK => ?_) AllReadyH.nil)
        · go_simp
          refine (show Calls Tryd.prog 15 #[.agg #[.slice AU1 (a.l.length + 1) cU1, .slice AU2 a.y.length cU2, .int .i64 (a.l.length : Int)]] V2 (CheckEnd tab (ext a (funN name a.r)) V2) from by rw [← tv_ext a (funN name a.r)]; exact c15 V2 (TUd.out.next HL2.out).is_ (HSd.out.next HL2.out) TUd.out.sm).mono ?_
          rintro e V3 ⟨g, rfl, hb, hno, hyes⟩
          have Hg := Lib.hid (And.intro hno hyes)
          have HL3 := Lib.hid (next_ HL2.out hb)
          have HP43 := Lib.hid (HP42.out.next hb)
          clear hb hno hyes HL2 HP42
          go_wp2_with fail
          refine hK.out _ _ ?_ (fun hHeld => ?_)
          · exact ⟨(HXd.out.next HL3.out).cell 0, (HXd.out.next HL3.out).cell 1, (HXd.out.next HL3.out).cell 2, (BUd.out.next HL3.out).cell 0, (BUd.out.next HL3.out).cell 1, (BUd.out.next HL3.out).cell 2⟩
          clear hK K
          try simp only [Act.put, sLA, sL0, sL1]
          refine wpAnyH_ready (rs := [5]) (by kernel_rfl) (by simp) ?_
          refine AllReadyH.cons (o := ⟨some 7, _, _, _, _, _⟩) rfl (fun K hK => ?_) AllReadyH.nil
          · have hb := below_new V3 (.cells #[.int .i64 0, .int .i64 0] 36)
            have HL4 := Lib.hid (next_ HL3.out hb)
            have HP54 := Lib.hid (Blk.new V3 36 #[.int .i64 0, .int .i64 0])
            have HPL5 := Lib.hid (show lo ≤ V3.heap.size from by have := HLO.out; have := HL3.out.size; omega)
            have HPN := Lib.hid (show p6 ≠ V3.heap.size from by have := HP43.out.lt; omega)
            have HP44 := Lib.hid (HP43.out.next hb)
            clear hb HL3 HP43
            go_simp
            refine hK.out _ _ ?_ (fun hHeld => ?_)
            · exact ⟨(HXd.out.next HL4.out).cell 0, (HXd.out.next HL4.out).cell 1, (HXd.out.next HL4.out).cell 2, (BUd.out.next HL4.out).cell 0, (BUd.out.next HL4.out).cell 1, (BUd.out.next HL4.out).cell 2⟩
            clear hK K
            generalize V3.alloc (.cells #[.int .i64 0, .int .i64 0] 36) = V4 at HL4 HP54 HP44 hHeld ⊢
            obtain ⟨p7, hpe⟩ : ∃ z, z = V3.heap.size := ⟨_, rfl⟩
            rw [← hpe] at HP54 HPL5 HPN
            try rw [← hpe]
            clear hpe
            try simp only [Act.put, sLA, sL0, sL1]
            refine wpAnyH_ready (rs := [6]) (by kernel_rfl) (by simp) ?_
            refine AllReadyH.cons (o := ⟨none, _, _, _, _, _⟩) rfl (fun K hK => ?_) AllReadyH.nil
            · have c0 : V4.cell? ⟨p6, 0, none⟩ = some (.int .i64 0) := HP44.out.cell 0
              have c1 : V4.cell? ⟨p6, 1, none⟩ = some (.int .i64 0) := HP44.out.cell 1
              have f0 := HP44.out.frozen 0
              have f1 := HP44.out.frozen 1
              have HP45 := Lib.hid (row2 (v0 := .int .i64 f.1) (v1 := .int .i64 f.2) HP44.out)
              have HL5 := Lib.hid (low2 (b := p6) (v0 := .int .i64 f.1) (v1 := .int .i64 f.2) (by have := HLO.out; have := HPL4.out; omega) HL4.out)
              have HP55 := Lib.hid ((HP54.out.far (p := ⟨p6, 0, none⟩) (by have := HPN.out; show p7 ≠ p6; omega) (.int .i64 f.1)).far (p := ⟨p6, 1, none⟩) (by have := HPN.out; show p7 ≠ p6; omega) (.int .i64 f.2))
              go_simp
              refine hK.out _ _ ?_ (fun hHeld => ?_)
              · exact ⟨(HXd.out.next HL5.out).cell 0, (HXd.out.next HL5.out).cell 1, (HXd.out.next HL5.out).cell 2, (BUd.out.next HL5.out).cell 0, (BUd.out.next HL5.out).cell 1, (BUd.out.next HL5.out).cell 2⟩
              clear hK K
              clear c0 c1 f0 f1 HL4 HP44 HP54
              generalize ((V4.setCell ⟨p6, 0, none⟩ (.int .i64 f.1)).setCell ⟨p6, 1, none⟩ (.int .i64 f.2)) = V5 at HL5 HP45 HP55 hHeld ⊢
              try simp only [Act.put, sLA, sL0, sL1]
              have c0 : V5.cell? ⟨p7, 0, none⟩ = some (.int .i64 0) := HP55.out.cell 0
              have c1 : V5.cell? ⟨p7, 1, none⟩ = some (.int .i64 0) := HP55.out.cell 1
              have f0 := HP55.out.frozen 0
              have f1 := HP55.out.frozen 1
              have HP56 := Lib.hid (row2 (v0 := .int .i64 g.1) (v1 := .int .i64 g.2) HP55.out)
              have HL6 := Lib.hid (low2 (b := p7) (v0 := .int .i64 g.1) (v1 := .int .i64 g.2) (by have := HLO.out; have := HPL5.out; omega) HL5.out)
              have HP46 := Lib.hid ((HP45.out.far (p := ⟨p7, 0, none⟩) (by have := HPN.out; show p6 ≠ p7; omega) (.int .i64 g.1)).far (p := ⟨p7, 1, none⟩) (by have := HPN.out; show p6 ≠ p7; omega) (.int .i64 g.2))
              refine wpAnyH_done (by kernel_rfl) ?_ _
              refine lastPost_run (o := ⟨none, _, _, _, _, _⟩) rfl (fun K hK => ?_)
              go_simp
              refine hK.out _ _ ?_
              clear hK K
              clear hHeld c0 c1 f0 f1 HL5 HP45 HP55
              generalize ((V5.setCell ⟨p7, 0, none⟩ (.int .i64 g.1)).setCell ⟨p7, 1, none⟩ (.int .i64 g.2)) = V6 at HL6 HP46 HP56  ⊢
              have HTW := Lib.hid (two_faults (tab := tab) HL4.out HRF.out HRU.out Hf.out.1 Hf.out.2 Hg.out.1 Hg.out.2)
              clear Hf Hg
              exact KEY.out p6 p7 f g V6 ⟨HL6.out, HP46.out, HP56.out, HTW.out⟩
        · have hb := below_new V2 (.cells #[.int .i64 0, .int .i64 0] 36)
          have HL3 := Lib.hid (next_ HL2.out hb)
          have HP53 := Lib.hid (Blk.new V2 36 #[.int .i64 0, .int .i64 0])
          have HPL5 := Lib.hid (show lo ≤ V2.heap.size from by have := HLO.out; have := HL2.out.size; omega)
          have HPN := Lib.hid (show p6 ≠ V2.heap.size from by have := HP42.out.lt; omega)
          have HP43 := Lib.hid (HP42.out.next hb)
          clear hb HL2 HP42
          go_simp
          refine hK.out _ _ ?_ (fun hHeld => ?_)
          · exact ⟨(HXd.out.next HL3.out).cell 0, (HXd.out.next HL3.out).cell 1, (HXd.out.next HL3.out).cell 2, (BUd.out.next HL3.out).cell 0, (BUd.out.next HL3.out).cell 1, (BUd.out.next HL3.out).cell 2⟩
          clear hK K
          generalize V2.alloc (.cells #[.int .i64 0, .int .i64 0] 36) = V3 at HL3 HP53 HP43 hHeld ⊢
          obtain ⟨p7, hpe⟩ : ∃ z, z = V2.heap.size := ⟨_, rfl⟩
          rw [← hpe] at HP53 HPL5 HPN
          try rw [← hpe]
          clear hpe
          try simp only [Act.put, sLA, sL0, sL1]
          refine wpAnyH_ready (rs := [3]) (by kernel_rfl) (by simp) ?_
          refine AllReadyH.cons (o := ⟨some 52, _, _, _, _, _⟩) rfl (fun K hK => ?_) AllReadyH.nil
          · go_simp
            refine (show Calls Tryd.prog 15 #[.agg #[.slice AU1 (a.l.length + 1) cU1, .slice AU2 a.y.length cU2, .int .i64 (a.l.length : Int)]] V3 (CheckEnd tab (ext a (funN name a.r)) V3) from by rw [← tv_ext a (funN name a.r)]; exact c15 V3 (TUd.out.next HL3.out).is_ (HSd.out.next HL3.out) TUd.out.sm).mono ?_
            rintro e V4 ⟨g, rfl, hb, hno, hyes⟩
            have Hg := Lib.hid (And.intro hno hyes)
            have HL4 := Lib.hid (next_ HL3.out hb)
            have HP44 := Lib.hid (HP43.out.next hb)
            have HP54 := Lib.hid (HP53.out.next hb)
            clear hb hno hyes HL3 HP43 HP53
            go_wp2_with fail
            refine hK.out _ _ ?_ (fun hHeld => ?_)
            · exact ⟨(HXd.out.next HL4.out).cell 0, (HXd.out.next HL4.out).cell 1, (HXd.out.next HL4.out).cell 2, (BUd.out.next HL4.out).cell 0, (BUd.out.next HL4.out).cell 1, (BUd.out.next HL4.out).cell 2⟩
            clear hK K
            try simp only [Act.put, sLA, sL0, sL1]
            refine wpAnyH_ready (rs := [6]) (by kernel_rfl) (by simp) ?_
            refine AllReadyH.cons (o := ⟨none, _, _, _, _, _⟩) rfl (fun K hK => ?_) AllReadyH.nil
            · have c0 : V4.cell? ⟨p6, 0, none⟩ = some (.int .i64 0) := HP44.out.cell 0
              have c1 : V4.cell? ⟨p6, 1, none⟩ = some (.int .i64 0) := HP44.out.cell 1
              have f0 := HP44.out.frozen 0
              have f1 := HP44.out.frozen 1
              have HP45 := Lib.hid (row2 (v0 := .int .i64 f.1) (v1 := .int .i64 f.2) HP44.out)
              have HL5 := Lib.hid (low2 (b := p6) (v0 := .int .i64 f.1) (v1 := .int .i64 f.2) (by have := HLO.out; have := HPL4.out; omega) HL4.out)
              have HP55 := Lib.hid ((HP54.out.far (p := ⟨p6, 0, none⟩) (by have := HPN.out; show p7 ≠ p6; omega) (.int .i64 f.1)).far (p := ⟨p6, 1, none⟩) (by have := HPN.out; show p7 ≠ p6; omega) (.int .i64 f.2))
              go_simp
              refine hK.out _ _ ?_ (fun hHeld => ?_)
              · exact ⟨(HXd.out.next HL5.out).cell 0, (HXd.out.next HL5.out).cell 1, (HXd.out.next HL5.out).cell 2, (BUd.out.next HL5.out).cell 0, (BUd.out.next HL5.out).cell 1, (BUd.out.next HL5.out).cell 2⟩
              clear hK K
              clear c0 c1 f0 f1 HL4 HP44 HP54
              generalize ((V4.setCell ⟨p6, 0, none⟩ (.int .i64 f.1)).setCell ⟨p6, 1, none⟩ (.int .i64 f.2)) = V5 at HL5 HP45 HP55 hHeld ⊢
              try simp only [Act.put, sLA, sL0, sL1]
              have c0 : V5.cell? ⟨p7, 0, none⟩ = some (.int .i64 0) := HP55.out.cell 0
              have c1 : V5.cell? ⟨p7, 1, none⟩ = some (.int .i64 0) := HP55.out.cell 1
              have f0 := HP55.out.frozen 0
              have f1 := HP55.out.frozen 1
              have HP56 := Lib.hid (row2 (v0 := .int .i64 g.1) (v1 := .int .i64 g.2) HP55.out)
              have HL6 := Lib.hid (low2 (b := p7) (v0 := .int .i64 g.1) (v1 := .int .i64 g.2) (by have := HLO.out; have := HPL5.out; omega) HL5.out)
              have HP46 := Lib.hid ((HP45.out.far (p := ⟨p7, 0, none⟩) (by have := HPN.out; show p6 ≠ p7; omega) (.int .i64 g.1)).far (p := ⟨p7, 1, none⟩) (by have := HPN.out; show p6 ≠ p7; omega) (.int .i64 g.2))
              refine wpAnyH_done (by kernel_rfl) ?_ _
              refine lastPost_run (o := ⟨none, _, _, _, _, _⟩) rfl (fun K hK => ?_)
              go_simp
              refine hK.out _ _ ?_
              clear hK K
              clear hHeld c0 c1 f0 f1 HL5 HP45 HP55
              generalize ((V5.setCell ⟨p7, 0, none⟩ (.int .i64 g.1)).setCell ⟨p7, 1, none⟩ (.int .i64 g.2)) = V6 at HL6 HP46 HP56  ⊢
              have HTW := Lib.hid (two_faults (tab := tab) HL4.out HRF.out HRU.out Hf.out.1 Hf.out.2 Hg.out.1 Hg.out.2)
              clear Hf Hg
              exact KEY.out p6 p7 f g V6 ⟨HL6.out, HP46.out, HP56.out, HTW.out⟩
      · have hb := below_new V1 (.cells #[.int .i64 0, .int .i64 0] 36)
        have HL2 := Lib.hid (next_ HL1.out hb)
        have HP52 := Lib.hid (Blk.new V1 36 #[.int .i64 0, .int .i64 0])
        have HPL5 := Lib.hid (show lo ≤ V1.heap.size from by have := HLO.out; have := HL1.out.size; omega)
        have HPN := Lib.hid (show p6 ≠ V1.heap.size from by have := HP41.out.lt; omega)
        have HP42 := Lib.hid (HP41.out.next hb)
        clear hb HL1 HP41
        go_simp
        refine hK.out _ _ ?_ (fun hHeld => ?_)
        · exact ⟨(HXd.out.next HL2.out).cell 0, (HXd.out.next HL2.out).cell 1, (HXd.out.next HL2.out).cell 2, (BUd.out.next HL2.out).cell 0, (BUd.out.next HL2.out).cell 1, (BUd.out.next HL2.out).cell 2⟩
        clear hK K
        generalize V1.alloc (.cells #[.int .i64 0, .int .i64 0] 36) = V2 at HL2 HP52 HP42 hHeld ⊢
        obtain ⟨p7, hpe⟩ : ∃ z, z = V1.heap.size := ⟨_, rfl⟩
        rw [← hpe] at HP52 HPL5 HPN
        try rw [← hpe]
        clear hpe
        try simp only [Act.put, sLA, sL0, sL1]
        refine wpAnyH_ready (rs := [1]) (by kernel_rfl) (by simp) ?_
        refine AllReadyH.cons (o := ⟨some 50, _, _, _, _, _⟩) rfl (fun K hK => ?_) AllReadyH.nil
        · go_simp
          refine (show Calls Tryd.prog 15 #[.agg #[.slice A a.l.length c, .slice A' a.y.length c', .int .i64 a.r]] V2 (CheckEnd tab a V2) from c15 V2 (HAd.out.next HL2.out).is_ (HSd.out.next HL2.out) HAd.out.sm).mono ?_
          rintro e V3 ⟨f, rfl, hb, hno, hyes⟩
          have Hf := Lib.hid (And.intro hno hyes)
          have HL3 := Lib.hid (next_ HL2.out hb)
          have HP43 := Lib.hid (HP42.out.next hb)
          have HP53 := Lib.hid (HP52.out.next hb)
          clear hb hno hyes HL2 HP42 HP52
          go_wp2_with fail
          refine hK.out _ _ ?_ (fun hHeld => ?_)
          · exact ⟨(HXd.out.next HL3.out).cell 0, (HXd.out.next HL3.out).cell 1, (HXd.out.next HL3.out).cell 2, (BUd.out.next HL3.out).cell 0, (BUd.out.next HL3.out).cell 1, (BUd.out.next HL3.out).cell 2⟩
          clear hK K
          try simp only [Act.put, sLA, sL0, sL1]
          refine wpAnyH_ready (rs := [3]) (by kernel_rfl) (by simp) ?_
          refine AllReadyH.cons (o := ⟨some 52, _, _, _, _, _⟩) rfl (fun K hK => ?_) AllReadyH.nil
          · go_simp
            refine (show Calls Tryd.prog 15 #[.agg #[.slice AU1 (a.l.length + 1) cU1, .slice AU2 a.y.length cU2, .int .i64 (a.l.length : Int)]] V3 (CheckEnd tab (ext a (funN name a.r)) V3) from by rw [← tv_ext a (funN name a.r)]; exact c15 V3 (TUd.out.next HL3.out).is_ (HSd.out.next HL3.out) TUd.out.sm).mono ?_
            rintro e V4 ⟨g, rfl, hb, hno, hyes⟩
            have Hg := Lib.hid (And.intro hno hyes)
            have HL4 := Lib.hid (next_ HL3.out hb)
            have HP44 := Lib.hid (HP43.out.next hb)
            have HP54 := Lib.hid (HP53.out.next hb)
            clear hb hno hyes HL3 HP43 HP53
            go_wp2_with fail
            refine hK.out _ _ ?_ (fun hHeld => ?_)
            · exact ⟨(HXd.out.next HL4.out).cell 0, (HXd.out.next HL4.out).cell 1, (HXd.out.next HL4.out).cell 2, (BUd.out.next HL4.out).cell 0, (BUd.out.next HL4.out).cell 1, (BUd.out.next HL4.out).cell 2⟩
            clear hK K
            try simp only [Act.put, sLA, sL0, sL1]
            refine wpAnyH_ready (rs := [6]) (by kernel_rfl) (by simp) ?_
            refine AllReadyH.cons (o := ⟨none, _, _, _, _, _⟩) rfl (fun K hK => ?_) AllReadyH.nil
            · have c0 : V4.cell? ⟨p6, 0, none⟩ = some (.int .i64 0) := HP44.out.cell 0
              have c1 : V4.cell? ⟨p6, 1, none⟩ = some (.int .i64 0) := HP44.out.cell 1
              have f0 := HP44.out.frozen 0
              have f1 := HP44.out.frozen 1
              have HP45 := Lib.hid (row2 (v0 := .int .i64 f.1) (v1 := .int .i64 f.2) HP44.out)
              have HL5 := Lib.hid (low2 (b := p6) (v0 := .int .i64 f.1) (v1 := .int .i64 f.2) (by have := HLO.out; have := HPL4.out; omega) HL4.out)
              have HP55 := Lib.hid ((HP54.out.far (p := ⟨p6, 0, none⟩) (by have := HPN.out; show p7 ≠ p6; omega) (.int .i64 f.1)).far (p := ⟨p6, 1, none⟩) (by have := HPN.out; show p7 ≠ p6; omega) (.int .i64 f.2))
              go_simp
              refine hK.out _ _ ?_ (fun hHeld => ?_)
              · exact ⟨(HXd.out.next HL5.out).cell 0, (HXd.out.next HL5.out).cell 1, (HXd.out.next HL5.out).cell 2, (BUd.out.next HL5.out).cell 0, (BUd.out.next HL5.out).cell 1, (BUd.out.next HL5.out).cell 2⟩
              clear hK K
              clear c0 c1 f0 f1 HL4 HP44 HP54
              generalize ((V4.setCell ⟨p6, 0, none⟩ (.int .i64 f.1)).setCell ⟨p6, 1, none⟩ (.int .i64 f.2)) = V5 at HL5 HP45 HP55 hHeld ⊢
              try simp only [Act.put, sLA, sL0, sL1]
              have c0 : V5.cell? ⟨p7, 0, none⟩ = some (.int .i64 0) := HP55.out.cell 0
              have c1 : V5.cell? ⟨p7, 1, none⟩ = some (.int .i64 0) := HP55.out.cell 1
              have f0 := HP55.out.frozen 0
              have f1 := HP55.out.frozen 1
              have HP56 := Lib.hid (row2 (v0 := .int .i64 g.1) (v1 := .int .i64 g.2) HP55.out)
              have HL6 := Lib.hid (low2 (b := p7) (v0 := .int .i64 g.1) (v1 := .int .i64 g.2) (by have := HLO.out; have := HPL5.out; omega) HL5.out)
              have HP46 := Lib.hid ((HP45.out.far (p := ⟨p7, 0, none⟩) (by have := HPN.out; show p6 ≠ p7; omega) (.int .i64 g.1)).far (p := ⟨p7, 1, none⟩) (by have := HPN.out; show p6 ≠ p7; omega) (.int .i64 g.2))
              refine wpAnyH_done (by kernel_rfl) ?_ _
              refine lastPost_run (o := ⟨none, _, _, _, _, _⟩) rfl (fun K hK => ?_)
              go_simp
              refine hK.out _ _ ?_
              clear hK K
              clear hHeld c0 c1 f0 f1 HL5 HP45 HP55
              generalize ((V5.setCell ⟨p7, 0, none⟩ (.int .i64 g.1)).setCell ⟨p7, 1, none⟩ (.int .i64 g.2)) = V6 at HL6 HP46 HP56  ⊢
              have HTW := Lib.hid (two_faults (tab := tab) HL4.out HRF.out HRU.out Hf.out.1 Hf.out.2 Hg.out.1 Hg.out.2)
              clear Hf Hg
              exact KEY.out p6 p7 f g V6 ⟨HL6.out, HP46.out, HP56.out, HTW.out⟩
    · have hb := below_new d (.cells #[.int .i64 0, .int .i64 0] 36)
      have HL1 := Lib.hid (next_ HL0.out hb)
      have HP51 := Lib.hid (Blk.new d 36 #[.int .i64 0, .int .i64 0])
      have HPL5 := Lib.hid (show lo ≤ d.heap.size from by have := HLO.out; have := HL0.out.size; omega)
      clear hb  
      go_simp
      refine hK.out _ _ ?_ (fun hHeld => ?_)
      · exact ⟨(HXd.out.next HL1.out).cell 0, (HXd.out.next HL1.out).cell 1, (HXd.out.next HL1.out).cell 2, (BUd.out.next HL1.out).cell 0, (BUd.out.next HL1.out).cell 1, (BUd.out.next HL1.out).cell 2⟩
      clear hK K
      generalize d.alloc (.cells #[.int .i64 0, .int .i64 0] 36) = V1 at HL1 HP51  hHeld ⊢
      obtain ⟨p7, hpe⟩ : ∃ z, z = d.heap.size := ⟨_, rfl⟩
      rw [← hpe] at HP51 HPL5 
      try rw [← hpe]
      clear hpe
      try simp only [Act.put, sLA, sL0, sL1]
      refine wpAnyH_ready (rs := [1, 4]) (by kernel_rfl) (by simp) ?_
      refine AllReadyH.cons (o := ⟨some 50, _, _, _, _, _⟩) rfl (fun K hK => ?_) (AllReadyH.cons (o := ⟨some 6, _, _, _, _, _⟩) rfl (fun K hK => ?_) AllReadyH.nil)
      · go_simp
        refine (show Calls Tryd.prog 15 #[.agg #[.slice A a.l.length c, .slice A' a.y.length c', .int .i64 a.r]] V1 (CheckEnd tab a V1) from c15 V1 (HAd.out.next HL1.out).is_ (HSd.out.next HL1.out) HAd.out.sm).mono ?_
        rintro e V2 ⟨f, rfl, hb, hno, hyes⟩
        have Hf := Lib.hid (And.intro hno hyes)
        have HL2 := Lib.hid (next_ HL1.out hb)
        have HP52 := Lib.hid (HP51.out.next hb)
        clear hb hno hyes HL1 HP51
        go_wp2_with fail
        refine hK.out _ _ ?_ (fun hHeld => ?_)
        · exact ⟨(HXd.out.next HL2.out).cell 0, (HXd.out.next HL2.out).cell 1, (HXd.out.next HL2.out).cell 2, (BUd.out.next HL2.out).cell 0, (BUd.out.next HL2.out).cell 1, (BUd.out.next HL2.out).cell 2⟩
        clear hK K
        try simp only [Act.put, sLA, sL0, sL1]
        refine wpAnyH_ready (rs := [3, 4]) (by kernel_rfl) (by simp) ?_
        refine AllReadyH.cons (o := ⟨some 52, _, _, _, _, _⟩) rfl (fun K hK => ?_) (AllReadyH.cons (o := ⟨some 6, _, _, _, _, _⟩) rfl (fun K hK => ?_) AllReadyH.nil)
        · go_simp
          refine (show Calls Tryd.prog 15 #[.agg #[.slice AU1 (a.l.length + 1) cU1, .slice AU2 a.y.length cU2, .int .i64 (a.l.length : Int)]] V2 (CheckEnd tab (ext a (funN name a.r)) V2) from by rw [← tv_ext a (funN name a.r)]; exact c15 V2 (TUd.out.next HL2.out).is_ (HSd.out.next HL2.out) TUd.out.sm).mono ?_
          rintro e V3 ⟨g, rfl, hb, hno, hyes⟩
          have Hg := Lib.hid (And.intro hno hyes)
          have HL3 := Lib.hid (next_ HL2.out hb)
          have HP53 := Lib.hid (HP52.out.next hb)
          clear hb hno hyes HL2 HP52
          go_wp2_with fail
          refine hK.out _ _ ?_ (fun hHeld => ?_)
          · exact ⟨(HXd.out.next HL3.out).cell 0, (HXd.out.next HL3.out).cell 1, (HXd.out.next HL3.out).cell 2, (BUd.out.next HL3.out).cell 0, (BUd.out.next HL3.out).cell 1, (BUd.out.next HL3.out).cell 2⟩
          clear hK K
          try simp only [Act.put, sLA, sL0, sL1]
          refine wpAnyH_ready (rs := [4]) (by kernel_rfl) (by simp) ?_
          refine AllReadyH.cons (o := ⟨some 6, _, _, _, _, _⟩) rfl (fun K hK => ?_) AllReadyH.nil
          · have hb := below_new V3 (.cells #[.int .i64 0, .int .i64 0] 36)
            have HL4 := Lib.hid (next_ HL3.out hb)
            have HP44 := Lib.hid (Blk.new V3 36 #[.int .i64 0, .int .i64 0])
            have HPL4 := Lib.hid (show lo ≤ V3.heap.size from by have := HLO.out; have := HL3.out.size; omega)
            have HPN := Lib.hid (show p7 ≠ V3.heap.size from by have := HP53.out.lt; omega)
            have HP54 := Lib.hid (HP53.out.next hb)
            clear hb HL3 HP53
            go_simp
            refine hK.out _ _ ?_ (fun hHeld => ?_)
            · exact ⟨(HXd.out.next HL4.out).cell 0, (HXd.out.next HL4.out).cell 1, (HXd.out.next HL4.out).cell 2, (BUd.out.next HL4.out).cell 0, (BUd.out.next HL4.out).cell 1, (BUd.out.next HL4.out).cell 2⟩
            clear hK K
            generalize V3.alloc (.cells #[.int .i64 0, .int .i64 0] 36) = V4 at HL4 HP44 HP54 hHeld ⊢
            obtain ⟨p6, hpe⟩ : ∃ z, z = V3.heap.size := ⟨_, rfl⟩
            rw [← hpe] at HP44 HPL4 HPN
            try rw [← hpe]
            clear hpe
            try simp only [Act.put, sLA, sL0, sL1]
            refine wpAnyH_ready (rs := [6]) (by kernel_rfl) (by simp) ?_
            refine AllReadyH.cons (o := ⟨none, _, _, _, _, _⟩) rfl (fun K hK => ?_) AllReadyH.nil
            · have c0 : V4.cell? ⟨p6, 0, none⟩ = some (.int .i64 0) := HP44.out.cell 0
              have c1 : V4.cell? ⟨p6, 1, none⟩ = some (.int .i64 0) := HP44.out.cell 1
              have f0 := HP44.out.frozen 0
              have f1 := HP44.out.frozen 1
              have HP45 := Lib.hid (row2 (v0 := .int .i64 f.1) (v1 := .int .i64 f.2) HP44.out)
              have HL5 := Lib.hid (low2 (b := p6) (v0 := .int .i64 f.1) (v1 := .int .i64 f.2) (by have := HLO.out; have := HPL4.out; omega) HL4.out)
              have HP55 := Lib.hid ((HP54.out.far (p := ⟨p6, 0, none⟩) (by have := HPN.out; show p7 ≠ p6; omega) (.int .i64 f.1)).far (p := ⟨p6, 1, none⟩) (by have := HPN.out; show p7 ≠ p6; omega) (.int .i64 f.2))
              go_simp
              refine hK.out _ _ ?_ (fun hHeld => ?_)
              · exact ⟨(HXd.out.next HL5.out).cell 0, (HXd.out.next HL5.out).cell 1, (HXd.out.next HL5.out).cell 2, (BUd.out.next HL5.out).cell 0, (BUd.out.next HL5.out).cell 1, (BUd.out.next HL5.out).cell 2⟩
              clear hK K
              clear c0 c1 f0 f1 HL4 HP44 HP54
              generalize ((V4.setCell ⟨p6, 0, none⟩ (.int .i64 f.1)).setCell ⟨p6, 1, none⟩ (.int .i64 f.2)) = V5 at HL5 HP45 HP55 hHeld ⊢
              try simp only [Act.put, sLA, sL0, sL1]
              have c0 : V5.cell? ⟨p7, 0, none⟩ = some (.int .i64 0) := HP55.out.cell 0
              have c1 : V5.cell? ⟨p7, 1, none⟩ = some (.int .i64 0) := HP55.out.cell 1
              have f0 := HP55.out.frozen 0
              have f1 := HP55.out.frozen 1
              have HP56 := Lib.hid (row2 (v0 := .int .i64 g.1) (v1 := .int .i64 g.2) HP55.out)
              have HL6 := Lib.hid (low2 (b := p7) (v0 := .int .i64 g.1) (v1 := .int .i64 g.2) (by have := HLO.out; have := HPL5.out; omega) HL5.out)
              have HP46 := Lib.hid ((HP45.out.far (p := ⟨p7, 0, none⟩) (by have := HPN.out; show p6 ≠ p7; omega) (.int .i64 g.1)).far (p := ⟨p7, 1, none⟩) (by have := HPN.out; show p6 ≠ p7; omega) (.int .i64 g.2))
              refine wpAnyH_done (by kernel_rfl) ?_ _
              refine lastPost_run (o := ⟨none, _, _, _, _, _⟩) rfl (fun K hK => ?_)
              go_simp
              refine hK.out _ _ ?_
              clear hK K
              clear hHeld c0 c1 f0 f1 HL5 HP45 HP55
              generalize ((V5.setCell ⟨p7, 0, none⟩ (.int .i64 g.1)).setCell ⟨p7, 1, none⟩ (.int .i64 g.2)) = V6 at HL6 HP46 HP56  ⊢
              have HTW := Lib.hid (two_faults (tab := tab) HL4.out HRF.out HRU.out Hf.out.1 Hf.out.2 Hg.out.1 Hg.out.2)
              clear Hf Hg
              exact KEY.out p6 p7 f g V6 ⟨HL6.out, HP46.out, HP56.out, HTW.out⟩
        · have hb := below_new V2 (.cells #[.int .i64 0, .int .i64 0] 36)
          have HL3 := Lib.hid (next_ HL2.out hb)
          have HP43 := Lib.hid (Blk.new V2 36 #[.int .i64 0, .int .i64 0])
          have HPL4 := Lib.hid (show lo ≤ V2.heap.size from by have := HLO.out; have := HL2.out.size; omega)
          have HPN := Lib.hid (show p7 ≠ V2.heap.size from by have := HP52.out.lt; omega)
          have HP53 := Lib.hid (HP52.out.next hb)
          clear hb HL2 HP52
          go_simp
          refine hK.out _ _ ?_ (fun hHeld => ?_)
          · exact ⟨(HXd.out.next HL3.out).cell 0, (HXd.out.next HL3.out).cell 1, (HXd.out.next HL3.out).cell 2, (BUd.out.next HL3.out).cell 0, (BUd.out.next HL3.out).cell 1, (BUd.out.next HL3.out).cell 2⟩
          clear hK K
          generalize V2.alloc (.cells #[.int .i64 0, .int .i64 0] 36) = V3 at HL3 HP43 HP53 hHeld ⊢
          obtain ⟨p6, hpe⟩ : ∃ z, z = V2.heap.size := ⟨_, rfl⟩
          rw [← hpe] at HP43 HPL4 HPN
          try rw [← hpe]
          clear hpe
          try simp only [Act.put, sLA, sL0, sL1]
          refine wpAnyH_ready (rs := [3]) (by kernel_rfl) (by simp) ?_
          refine AllReadyH.cons (o := ⟨some 52, _, _, _, _, _⟩) rfl (fun K hK => ?_) AllReadyH.nil
          · go_simp
            refine (show Calls Tryd.prog 15 #[.agg #[.slice AU1 (a.l.length + 1) cU1, .slice AU2 a.y.length cU2, .int .i64 (a.l.length : Int)]] V3 (CheckEnd tab (ext a (funN name a.r)) V3) from by rw [← tv_ext a (funN name a.r)]; exact c15 V3 (TUd.out.next HL3.out).is_ (HSd.out.next HL3.out) TUd.out.sm).mono ?_
            rintro e V4 ⟨g, rfl, hb, hno, hyes⟩
            have Hg := Lib.hid (And.intro hno hyes)
            have HL4 := Lib.hid (next_ HL3.out hb)
            have HP44 := Lib.hid (HP43.out.next hb)
            have HP54 := Lib.hid (HP53.out.next hb)
            clear hb hno hyes HL3 HP43 HP53
            go_wp2_with fail
            refine hK.out _ _ ?_ (fun hHeld => ?_)
            · exact ⟨(HXd.out.next HL4.out).cell 0, (HXd.out.next HL4.out).cell 1, (HXd.out.next HL4.out).cell 2, (BUd.out.next HL4.out).cell 0, (BUd.out.next HL4.out).cell 1, (BUd.out.next HL4.out).cell 2⟩
            clear hK K
            try simp only [Act.put, sLA, sL0, sL1]
            refine wpAnyH_ready (rs := [6]) (by kernel_rfl) (by simp) ?_
            refine AllReadyH.cons (o := ⟨none, _, _, _, _, _⟩) rfl (fun K hK => ?_) AllReadyH.nil
            · have c0 : V4.cell? ⟨p6, 0, none⟩ = some (.int .i64 0) := HP44.out.cell 0
              have c1 : V4.cell? ⟨p6, 1, none⟩ = some (.int .i64 0) := HP44.out.cell 1
              have f0 := HP44.out.frozen 0
              have f1 := HP44.out.frozen 1
              have HP45 := Lib.hid (row2 (v0 := .int .i64 f.1) (v1 := .int .i64 f.2) HP44.out)
              have HL5 := Lib.hid (low2 (b := p6) (v0 := .int .i64 f.1) (v1 := .int .i64 f.2) (by have := HLO.out; have := HPL4.out; omega) HL4.out)
              have HP55 := Lib.hid ((HP54.out.far (p := ⟨p6, 0, none⟩) (by have := HPN.out; show p7 ≠ p6; omega) (.int .i64 f.1)).far (p := ⟨p6, 1, none⟩) (by have := HPN.out; show p7 ≠ p6; omega) (.int .i64 f.2))
              go_simp
              refine hK.out _ _ ?_ (fun hHeld => ?_)
              · exact ⟨(HXd.out.next HL5.out).cell 0, (HXd.out.next HL5.out).cell 1, (HXd.out.next HL5.out).cell 2, (BUd.out.next HL5.out).cell 0, (BUd.out.next HL5.out).cell 1, (BUd.out.next HL5.out).cell 2⟩
              clear hK K
              clear c0 c1 f0 f1 HL4 HP44 HP54
              generalize ((V4.setCell ⟨p6, 0, none⟩ (.int .i64 f.1)).setCell ⟨p6, 1, none⟩ (.int .i64 f.2)) = V5 at HL5 HP45 HP55 hHeld ⊢
              try simp only [Act.put, sLA, sL0, sL1]
              have c0 : V5.cell? ⟨p7, 0, none⟩ = some (.int .i64 0) := HP55.out.cell 0
              have c1 : V5.cell? ⟨p7, 1, none⟩ = some (.int .i64 0) := HP55.out.cell 1
              have f0 := HP55.out.frozen 0
              have f1 := HP55.out.frozen 1
              have HP56 := Lib.hid (row2 (v0 := .int .i64 g.1) (v1 := .int .i64 g.2) HP55.out)
              have HL6 := Lib.hid (low2 (b := p7) (v0 := .int .i64 g.1) (v1 := .int .i64 g.2) (by have := HLO.out; have := HPL5.out; omega) HL5.out)
              have HP46 := Lib.hid ((HP45.out.far (p := ⟨p7, 0, none⟩) (by have := HPN.out; show p6 ≠ p7; omega) (.int .i64 g.1)).far (p := ⟨p7, 1, none⟩) (by have := HPN.out; show p6 ≠ p7; omega) (.int .i64 g.2))
              refine wpAnyH_done (by kernel_rfl) ?_ _
              refine lastPost_run (o := ⟨none, _, _, _, _, _⟩) rfl (fun K hK => ?_)
              go_simp
              refine hK.out _ _ ?_
              clear hK K
              clear hHeld c0 c1 f0 f1 HL5 HP45 HP55
              generalize ((V5.setCell ⟨p7, 0, none⟩ (.int .i64 g.1)).setCell ⟨p7, 1, none⟩ (.int .i64 g.2)) = V6 at HL6 HP46 HP56  ⊢
              have HTW := Lib.hid (two_faults (tab := tab) HL4.out HRF.out HRU.out Hf.out.1 Hf.out.2 Hg.out.1 Hg.out.2)
              clear Hf Hg
              exact KEY.out p6 p7 f g V6 ⟨HL6.out, HP46.out, HP56.out, HTW.out⟩
      · have hb := below_new V1 (.cells #[.int .i64 0, .int .i64 0] 36)
        have HL2 := Lib.hid (next_ HL1.out hb)
        have HP42 := Lib.hid (Blk.new V1 36 #[.int .i64 0, .int .i64 0])
        have HPL4 := Lib.hid (show lo ≤ V1.heap.size from by have := HLO.out; have := HL1.out.size; omega)
        have HPN := Lib.hid (show p7 ≠ V1.heap.size from by have := HP51.out.lt; omega)
        have HP52 := Lib.hid (HP51.out.next hb)
        clear hb HL1 HP51
        go_simp
        refine hK.out _ _ ?_ (fun hHeld => ?_)
        · exact ⟨(HXd.out.next HL2.out).cell 0, (HXd.out.next HL2.out).cell 1, (HXd.out.next HL2.out).cell 2, (BUd.out.next HL2.out).cell 0, (BUd.out.next HL2.out).cell 1, (BUd.out.next HL2.out).cell 2⟩
        clear hK K
        generalize V1.alloc (.cells #[.int .i64 0, .int .i64 0] 36) = V2 at HL2 HP42 HP52 hHeld ⊢
        obtain ⟨p6, hpe⟩ : ∃ z, z = V1.heap.size := ⟨_, rfl⟩
        rw [← hpe] at HP42 HPL4 HPN
        try rw [← hpe]
        clear hpe
        try simp only [Act.put, sLA, sL0, sL1]
        refine wpAnyH_ready (rs := [1]) (by kernel_rfl) (by simp) ?_
        refine AllReadyH.cons (o := ⟨some 50, _, _, _, _, _⟩) rfl (fun K hK => ?_) AllReadyH.nil
        · go_simp
          refine (show Calls Tryd.prog 15 #[.agg #[.slice A a.l.length c, .slice A' a.y.length c', .int .i64 a.r]] V2 (CheckEnd tab a V2) from c15 V2 (HAd.out.next HL2.out).is_ (HSd.out.next HL2.out) HAd.out.sm).mono ?_
          rintro e V3 ⟨f, rfl, hb, hno, hyes⟩
          have Hf := Lib.hid (And.intro hno hyes)
          have HL3 := Lib.hid (next_ HL2.out hb)
          have HP43 := Lib.hid (HP42.out.next hb)
          have HP53 := Lib.hid (HP52.out.next hb)
          clear hb hno hyes HL2 HP42 HP52
          go_wp2_with fail
          refine hK.out _ _ ?_ (fun hHeld => ?_)
          · exact ⟨(HXd.out.next HL3.out).cell 0, (HXd.out.next HL3.out).cell 1, (HXd.out.next HL3.out).cell 2, (BUd.out.next HL3.out).cell 0, (BUd.out.next HL3.out).cell 1, (BUd.out.next HL3.out).cell 2⟩
          clear hK K
          try simp only [Act.put, sLA, sL0, sL1]
          refine wpAnyH_ready (rs := [3]) (by kernel_rfl) (by simp) ?_
          refine AllReadyH.cons (o := ⟨some 52, _, _, _, _, _⟩) rfl (fun K hK => ?_) AllReadyH.nil
          · go_simp
            refine (show Calls Tryd.prog 15 #[.agg #[.slice AU1 (a.l.length + 1) cU1, .slice AU2 a.y.length cU2, .int .i64 (a.l.length : Int)]] V3 (CheckEnd tab (ext a (funN name a.r)) V3) from by rw [← tv_ext a (funN name a.r)]; exact c15 V3 (TUd.out.next HL3.out).is_ (HSd.out.next HL3.out) TUd.out.sm).mono ?_
            rintro e V4 ⟨g, rfl, hb, hno, hyes⟩
            have Hg := Lib.hid (And.intro hno hyes)
            have HL4 := Lib.hid (next_ HL3.out hb)
            have HP44 := Lib.hid (HP43.out.next hb)
            have HP54 := Lib.hid (HP53.out.next hb)
            clear hb hno hyes HL3 HP43 HP53
            go_wp2_with fail
            refine hK.out _ _ ?_ (fun hHeld => ?_)
            · exact ⟨(HXd.out.next HL4.out).cell 0, (HXd.out.next HL4.out).cell 1, (HXd.out.next HL4.out).cell 2, (BUd.out.next HL4.out).cell 0, (BUd.out.next HL4.out).cell 1, (BUd.out.next HL4.out).cell 2⟩
            clear hK K
            try simp only [Act.put, sLA, sL0, sL1]
            refine wpAnyH_ready (rs := [6]) (by kernel_rfl) (by simp) ?_
            refine AllReadyH.cons (o := ⟨none, _, _, _, _, _⟩) rfl (fun K hK => ?_) AllReadyH.nil
            · have c0 : V4.cell? ⟨p6, 0, none⟩ = some (.int .i64 0) := HP44.out.cell 0
              have c1 : V4.cell? ⟨p6, 1, none⟩ = some (.int .i64 0) := HP44.out.cell 1
              have f0 := HP44.out.frozen 0
              have f1 := HP44.out.frozen 1
              have HP45 := Lib.hid (row2 (v0 := .int .i64 f.1) (v1 := .int .i64 f.2) HP44.out)
              have HL5 := Lib.hid (low2 (b := p6) (v0 := .int .i64 f.1) (v1 := .int .i64 f.2) (by have := HLO.out; have := HPL4.out; omega) HL4.out)
              have HP55 := Lib.hid ((HP54.out.far (p := ⟨p6, 0, none⟩) (by have := HPN.out; show p7 ≠ p6; omega) (.int .i64 f.1)).far (p := ⟨p6, 1, none⟩) (by have := HPN.out; show p7 ≠ p6; omega) (.int .i64 f.2))
              go_simp
              refine hK.out _ _ ?_ (fun hHeld => ?_)
              · exact ⟨(HXd.out.next HL5.out).cell 0, (HXd.out.next HL5.out).cell 1, (HXd.out.next HL5.out).cell 2, (BUd.out.next HL5.out).cell 0, (BUd.out.next HL5.out).cell 1, (BUd.out.next HL5.out).cell 2⟩
              clear hK K
              clear c0 c1 f0 f1 HL4 HP44 HP54
              generalize ((V4.setCell ⟨p6, 0, none⟩ (.int .i64 f.1)).setCell ⟨p6, 1, none⟩ (.int .i64 f.2)) = V5 at HL5 HP45 HP55 hHeld ⊢
              try simp only [Act.put, sLA, sL0, sL1]
              have c0 : V5.cell? ⟨p7, 0, none⟩ = some (.int .i64 0) := HP55.out.cell 0
              have c1 : V5.cell? ⟨p7, 1, none⟩ = some (.int .i64 0) := HP55.out.cell 1
              have f0 := HP55.out.frozen 0
              have f1 := HP55.out.frozen 1
              have HP56 := Lib.hid (row2 (v0 := .int .i64 g.1) (v1 := .int .i64 g.2) HP55.out)
              have HL6 := Lib.hid (low2 (b := p7) (v0 := .int .i64 g.1) (v1 := .int .i64 g.2) (by have := HLO.out; have := HPL5.out; omega) HL5.out)
              have HP46 := Lib.hid ((HP45.out.far (p := ⟨p7, 0, none⟩) (by have := HPN.out; show p6 ≠ p7; omega) (.int .i64 g.1)).far (p := ⟨p7, 1, none⟩) (by have := HPN.out; show p6 ≠ p7; omega) (.int .i64 g.2))
              refine wpAnyH_done (by kernel_rfl) ?_ _
              refine lastPost_run (o := ⟨none, _, _, _, _, _⟩) rfl (fun K hK => ?_)
              go_simp
              refine hK.out _ _ ?_
              clear hK K
              clear hHeld c0 c1 f0 f1 HL5 HP45 HP55
              generalize ((V5.setCell ⟨p7, 0, none⟩ (.int .i64 g.1)).setCell ⟨p7, 1, none⟩ (.int .i64 g.2)) = V6 at HL6 HP46 HP56  ⊢
              have HTW := Lib.hid (two_faults (tab := tab) HL4.out HRF.out HRU.out Hf.out.1 Hf.out.2 Hg.out.1 Hg.out.2)
              clear Hf Hg
              exact KEY.out p6 p7 f g V6 ⟨HL6.out, HP46.out, HP56.out, HTW.out⟩
  case k =>
    rintro p6 p7 f g V ⟨hl, h4, h5, htw⟩
    have HL := Lib.hid hl
    have HP4 := Lib.hid h4
    have HP5 := Lib.hid h5
    have HTW := Lib.hid htw
    clear hl h4 h5 htw hHeld HL0
    go_wp2_with fail
    go_loopw [8, 9] (fun nv iv wr => ∃ j : Nat, j ≤ a.l.length ∧ nv = .bool (namedL a name j) ∧ iv = .int .i64 j ∧ wr = V) (fun _ iv _ => a.l.length - (intOf iv).toNat)
    case atStart => exact ⟨0, Nat.zero_le _, rfl, rfl, rfl⟩
    case round =>
      obtain ⟨j, hj, rfl, rfl, hw⟩ := hrel
      replace hw := hw.symm
      subst hw
      have x0 : V.cell? ⟨xa, 0, none⟩ = some (.slice A a.l.length c) := (HXd.out.next HL.out).cell 0
      by_cases hlt : j < a.l.length
      · have HLT := Lib.hid hlt
        have hlj : (j : Int) < (a.l.length : Int) := by omega
        have hj0 : (0 : Int) ≤ (j : Int) := by omega
        have hj9 : j < 490 := by have := HL4.out; omega
        have hx := nd_at hlt
        obtain ⟨ad, hA, _, hcs⟩ := (HAd.out.next HL.out).is_.nodes.nodAt hx
        subst hA
        obtain ⟨y0, y1, _, _, _⟩ := nod_cells hcs
        have HNX := Lib.hid (show namedL a name (j + 1) = (namedL a name j || (decide ((nd a j).k = 5) && decide ((nd a j).t = name))) from rfl)
        clear hcs hx hlt
        generalize hnm : namedL a name j = nv at HNX ⊢
        clear hnm
        generalize nd a j = x at y0 y1 HNX
        cases nv with
        | true =>
          go_wp2_with fail
          go_roundw
          case rel => exact ⟨j + 1, HLT.out, by rw [HNX.out]; first | rfl | (rw [t2]; rfl), by go_num, trivial⟩
          case measure =>
            have := HLT.out
            simp [intOf]
            omega
        | false =>
          by_cases h5 : x.k = 5
          · rw [h5] at y0
            rw [decide_eq_true h5] at HNX
            clear h5
            by_cases ht : x.t = name
            · rw [ht] at y1
              rw [decide_eq_true ht] at HNX
              clear ht
              go_wp2_with fail
              go_roundw
              case rel => exact ⟨j + 1, HLT.out, by rw [HNX.out]; first | rfl | (rw [t2]; rfl), by go_num, trivial⟩
              case measure =>
                have := HLT.out
                simp [intOf]
                omega
            · have t1 : ((⟨x.t.toArray⟩ : ByteArray) == ⟨name.toArray⟩) = false := by
                rw [Bool.eq_false_iff, ne_eq, beq_bytes, str_eq]
                exact ht
              have t2 : (x.t == name) = false := beq_false_of_ne ht
              rw [decide_eq_false ht] at HNX
              clear ht
              go_wp2_with fail
              go_roundw
              case rel => exact ⟨j + 1, HLT.out, by rw [HNX.out]; first | rfl | (rw [t2]; rfl), by go_num, trivial⟩
              case measure =>
                have := HLT.out
                simp [intOf]
                omega
          · have e5 : (x.k == 5) = false := beq_false_of_ne h5
            rw [decide_eq_false h5] at HNX
            clear h5
            go_wp2_with fail
            go_roundw
            case rel => exact ⟨j + 1, HLT.out, by rw [HNX.out]; first | rfl | (rw [t2]; rfl), by go_num, trivial⟩
            case measure =>
              have := HLT.out
              simp [intOf]
              omega
      · obtain rfl : j = a.l.length := by omega
        have hlj : ¬ ((a.l.length : Int) < (a.l.length : Int)) := by omega
        have p0 : V.cell? ⟨p6, 0, none⟩ = some (.int .i64 f.1) := HP4.out.cell 0
        have p1 : V.cell? ⟨p6, 1, none⟩ = some (.int .i64 f.2) := HP4.out.cell 1
        have q0 : V.cell? ⟨p7, 0, none⟩ = some (.int .i64 g.1) := HP5.out.cell 0
        have q1 : V.cell? ⟨p7, 1, none⟩ = some (.int .i64 g.2) := HP5.out.cell 1
        have HBz := Lib.hid (next_ HBd.out HL.out)
        have HSz := Lib.hid (HSd.out.next HL.out)
        cases hnv : namedL a name a.l.length with
        | false =>
          obtain rfl := HTW.out.same (named_no hnv)
          clear hnv
          go_wp2_with fail
          refine (c14 V HSz.out).mono ?_
          rintro e wz ⟨rfl, hb⟩
          have HBw := Lib.hid (next_ HBz.out hb)
          clear hb
          go_wp2_with fail
          go_ret
          exact ⟨rfl, HBw.out⟩
        | true =>
          clear hnv
          by_cases hf0 : f.1 = 0
          · have hg0 := HTW.out.none hf0
            rw [hf0] at p0
            rw [hg0] at q0
            clear hf0 hg0
            go_wp2_with fail
            refine (c14 V HSz.out).mono ?_
            rintro e wz ⟨rfl, hb⟩
            have HBw := Lib.hid (next_ HBz.out hb)
            clear hb
            go_wp2_with fail
            go_ret
            exact ⟨rfl, HBw.out⟩
          · have e1 : (f.1 == 0) = false := beq_false_of_ne hf0
            have e2 : (f.1 != 0) = true := bne_iff_ne.2 hf0
            go_wp2_with fail
            refine (c14 V HSz.out).mono ?_
            rintro e wz ⟨rfl, hb⟩
            have HBw := Lib.hid (next_ HBz.out hb)
            clear hb
            go_wp2_with fail
            go_ret
            exact ⟨rfl, HBw.out⟩
end Go.Proofs.YtphojigdapaaiaaDoor
