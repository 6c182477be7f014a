/- A test of a tree that may be; the closed sources of layer 18. -/
import Derived.Test.YtphojigdapaaiaaDoorZBm
import Derived.Test.YtphojigdapaaiaaDoorZBn
import Derived.Test.YtphojigdapaaiaaDoorZBl
namespace Go.Proofs.YtphojigdapaaiaaDoor
open Go.ChangeShapes Go.WideShapes Go.ChangeAt Go.RowKit
set_option linter.unusedVariables false
set_option linter.unusedSimpArgs false
def goodB (t : Tre) : Bool :=
  decide (1 ≤ t.l.length) && decide (t.l.length ≤ 500) && decide (t.r = (t.l.length : Int) - 1) &&
  ((List.range t.l.length).all fun i => match t.l[i]? with
    | some x => (ofL x).2 && childL t (ofL x).1.a x.a i && childL t (ofL x).1.b x.b i && childL t (ofL x).1.c x.c i
    | none => true) &&
  ((List.range t.y.length).all fun i => match t.y[i]? with
    | some k => decide (prevY t i < k) && decide (k < (t.l.length : Int)) && (match t.l[k.toNat]? with | some x => decide (x.k = 42) | none => false)
    | none => true) &&
  ((psEnd t).all fun v => decide (v = 1)) &&
  (match t.l[t.l.length - 1]? with | some x => decide ((rowsL.getD x.k.toNat zeroR).is_ = 101) | none => true)
theorem goodB_good {t : Tre} (h : goodB t = true) : GoodN t := by
  unfold goodB at h
  simp only [Bool.and_eq_true, decide_eq_true_eq, List.all_eq_true, List.mem_range] at h
  obtain ⟨⟨⟨⟨⟨⟨h1, h2⟩, h3⟩, h4⟩, h5⟩, h6⟩, h7⟩ := h
  refine ⟨h1, h2, h3, ?_, ?_, h6, ?_⟩
  · intro i hi x hx
    have h := h4 i hi
    rw [hx] at h
    simp only [Bool.and_eq_true] at h
    exact ⟨h.1.1.1, h.1.1.2, h.1.2, h.2⟩
  · intro i hi k hk
    have h := h5 i hi
    rw [hk] at h
    simp only [Bool.and_eq_true, decide_eq_true_eq] at h
    refine ⟨h.1.1, h.1.2, ?_⟩
    have h8 := h.2
    cases hx : t.l[k.toNat]? with
    | none => rw [hx] at h8; cases h8
    | some x => rw [hx] at h8; exact ⟨x, rfl, of_decide_eq_true h8⟩
  · intro x hx
    rw [hx] at h7
    exact of_decide_eq_true h7
def sureB (tab : Nat → OpRow) (x : Nod) : Bool := decide ((ofL x).1.lo ≤ x.n) && decide (x.n ≤ (ofL x).1.hi) && textQ x.t (ofL x).1.text && textQ x.t2 (ofL x).1.second && countL tab x
theorem sureB_sure {tab : Nat → OpRow} {x : Nod} (h : sureB tab x = true) : SureX tab x (ofL x).1 := by
  unfold sureB at h
  simp only [Bool.and_eq_true, decide_eq_true_eq] at h
  obtain ⟨⟨⟨⟨h1, h2⟩, h3⟩, h4⟩, h5⟩ := h
  exact ⟨h1, h2, h3, h4, h5⟩
theorem sureB_all {tab : Nat → OpRow} {t : Tre} (h : t.l.all (sureB tab) = true) : AllX tab t := fun y hy => sureB_sure (List.all_eq_true.1 h y hy)
def smB (t : Tre) : Bool := decide (t.l.length ≤ 3000) && decide (t.y.length ≤ 3000) && t.l.all fun p => decide (p.t.length ≤ 3000) && decide (p.t2.length ≤ 3000)
theorem smB_sm {t : Tre} (h : smB t = true) : SmT t := by
  unfold smB at h
  simp only [Bool.and_eq_true, decide_eq_true_eq, List.all_eq_true] at h
  exact ⟨by omega, by omega, fun p hp => by have := h.2 p hp; omega⟩
structure Src (s : ByteArray) (t : Tre) : Prop where
  sz : s.size ≤ 2000
  tree : ∃ n T, lexL n (lis s) 0 = some T ∧ treeG T s.size = some t
  good : GoodN t
  sure : ∀ tab, AllX tab t
  sm : SmT t
theorem Src.of {s : ByteArray} {t : Tre} (n : Nat) (h1 : decide (s.size ≤ 2000) = true) (h2 : ((lexL n (lis s) 0).bind fun T => treeG T s.size) = some t) (h3 : goodB t = true) (h4 : ∀ tab, t.l.all (sureB tab) = true) (h5 : smB t = true) : Src s t := by
  obtain ⟨T, ha, hb⟩ := Option.bind_eq_some_iff.1 h2
  exact ⟨of_decide_eq_true h1, ⟨n, T, ha, hb⟩, goodB_good h3, fun tab => sureB_all (h4 tab), smB_sm h5⟩
theorem Src.of_ {s : ByteArray} {t : Tre} (h : Src s t) (w : World) : Calls Tryd.prog 16 #[.string s] w (OfTEnd t w) := by
  obtain ⟨n, T, h1, h2⟩ := h.tree
  exact c16 s h.sz h1 h2 w
def FaultEnd (f : Int × Int) (w : World) (e : Ending) (w' : World) : Prop := e = .returned (.agg #[.int .i64 f.1, .int .i64 f.2]) ∧ Below w.heap.size w w'
theorem Src.check {s : ByteArray} {t : Tre} (h : Src s t) {tab : Nat → OpRow} {B : Nat} {A A' : Option Addr} {c c' : Nat} (w : World) (ht : TreOwn B w A A' c c' t) (hS : TabsX tab w) : Calls Tryd.prog 15 #[treV A c A' c' t] w (FaultEnd (faultF t) w) := by
  refine (c15 w ht.is_ hS h.sm).mono ?_
  rintro e w' ⟨f, rfl, hb, _, hf⟩
  rw [hf h.good (h.sure tab)]
  exact ⟨rfl, hb⟩
theorem Src.con {s : ByteArray} {t : Tre} (h : Src s t) {tab : Nat → OpRow} {B : Nat} {A A' : Option Addr} {c c' : Nat} (nm : KS) (w : World) (ht : TreOwn B w A A' c c' t) (hS : TabsX tab w) : Calls Tryd.prog 17 #[treV A c A' c' t, strV nm] w (ConEnd t nm w) :=
  c17 nm w ht.is_ hS h.sm h.good (h.sure tab)
def src0 : ByteArray := ⟨#[102, 117, 110, 32, 120, 32, 45, 62, 32, 121]⟩
def tre0 : Tre := ⟨[⟨5, [121], [], 0, 0, 0, 0, 9⟩, ⟨10, [120], [], 0, 0, 0, 0, 0⟩], [], 1⟩
set_option maxRecDepth 100000 in
theorem srcOk0 : Src src0 tre0 := Src.of 300 (by kernel_rfl) (by kernel_rfl) (by kernel_rfl) (fun tab => by kernel_rfl) (by kernel_rfl)
set_option maxRecDepth 100000 in
theorem fault0 : faultF tre0 = (13, 9) := by kernel_rfl
def src1 : ByteArray := ⟨#[116, 121, 112, 101, 32, 116, 32, 61, 32, 65, 32, 124, 32, 66, 32, 111, 102, 32, 105, 110, 116, 32, 59, 32, 109, 97, 116, 99, 104, 32, 65, 32, 119, 105, 116, 104, 32, 65, 32, 45, 62, 32, 49, 32, 124, 32, 66, 32, 110, 32, 45, 62, 32, 110, 32, 101, 110, 100]⟩
def tre1 : Tre := ⟨[⟨35, [], [], 0, 0, 0, 0, 18⟩, ⟨43, [66], [], 0, 0, -1, 0, 13⟩, ⟨43, [65], [], 0, -1, 1, 0, 9⟩, ⟨42, [116], [], 0, 2, 0, 0, 0⟩, ⟨6, [65], [], 0, -1, 0, 0, 30⟩, ⟨34, [65], [], 0, -1, 0, 0, 37⟩, ⟨1, [], [], 1, 0, 0, 0, 42⟩, ⟨27, [110], [], 0, 0, 0, 0, 48⟩, ⟨34, [66], [], 0, 7, 0, 0, 46⟩, ⟨5, [110], [], 0, 0, 0, 0, 53⟩, ⟨19, [], [], 0, 8, 9, -1, 46⟩, ⟨19, [], [], 0, 5, 6, 10, 37⟩, ⟨18, [], [], 0, 4, 11, 0, 24⟩], [3], 12⟩
set_option maxRecDepth 100000 in
theorem srcOk1 : Src src1 tre1 := Src.of 300 (by kernel_rfl) (by kernel_rfl) (by kernel_rfl) (fun tab => by kernel_rfl) (by kernel_rfl)
set_option maxRecDepth 100000 in
theorem fault1 : faultF tre1 = (0, 0) := by kernel_rfl
def src2 : ByteArray := ⟨#[109, 97, 116, 99, 104, 32, 49, 32, 119, 105, 116, 104, 32, 40, 120, 44, 32, 120, 41, 32, 45, 62, 32, 120, 32, 101, 110, 100]⟩
def tre2 : Tre := ⟨[⟨1, [], [], 1, 0, 0, 0, 6⟩, ⟨27, [120], [], 0, 0, 0, 0, 14⟩, ⟨27, [120], [], 0, 0, 0, 0, 17⟩, ⟨33, [], [], 0, 1, 2, 0, 13⟩, ⟨5, [120], [], 0, 0, 0, 0, 23⟩, ⟨19, [], [], 0, 3, 4, -1, 13⟩, ⟨18, [], [], 0, 0, 5, 0, 0⟩], [], 6⟩
set_option maxRecDepth 100000 in
theorem srcOk2 : Src src2 tre2 := Src.of 300 (by kernel_rfl) (by kernel_rfl) (by kernel_rfl) (fun tab => by kernel_rfl) (by kernel_rfl)
set_option maxRecDepth 100000 in
theorem fault2 : faultF tre2 = (13, 17) := by kernel_rfl
def src3 : ByteArray := ⟨#[116, 121, 112, 101, 32, 116, 32, 61, 32, 65, 32, 59, 32, 65, 32, 49]⟩
def tre3 : Tre := ⟨[⟨43, [65], [], 0, -1, -1, 0, 9⟩, ⟨42, [116], [], 0, 0, 0, 0, 0⟩, ⟨1, [], [], 1, 0, 0, 0, 15⟩, ⟨6, [65], [], 0, 2, 0, 0, 13⟩], [1], 3⟩
set_option maxRecDepth 100000 in
theorem srcOk3 : Src src3 tre3 := Src.of 300 (by kernel_rfl) (by kernel_rfl) (by kernel_rfl) (fun tab => by kernel_rfl) (by kernel_rfl)
set_option maxRecDepth 100000 in
theorem fault3 : faultF tre3 = (13, 13) := by kernel_rfl
def src4 : ByteArray := ⟨#[108, 101, 116, 32, 114, 101, 99, 32, 102, 32, 120, 32, 61, 32, 102, 32, 120, 32, 105, 110, 32, 102]⟩
def tre4 : Tre := ⟨[⟨5, [102], [], 0, 0, 0, 0, 14⟩, ⟨5, [120], [], 0, 0, 0, 0, 16⟩, ⟨11, [], [], 0, 0, 1, 0, 16⟩, ⟨5, [102], [], 0, 0, 0, 0, 21⟩, ⟨13, [102], [120], 0, 2, 3, 0, 0⟩], [], 4⟩
set_option maxRecDepth 100000 in
theorem srcOk4 : Src src4 tre4 := Src.of 300 (by kernel_rfl) (by kernel_rfl) (by kernel_rfl) (fun tab => by kernel_rfl) (by kernel_rfl)
set_option maxRecDepth 100000 in
theorem fault4 : faultF tre4 = (0, 0) := by kernel_rfl
def src5 : ByteArray := ⟨#[116, 121, 112, 101, 32, 116, 32, 61, 32, 65, 32, 59, 32, 116, 121, 112, 101, 32, 117, 32, 61, 32, 65, 32, 59, 32, 49]⟩
def tre5 : Tre := ⟨[⟨43, [65], [], 0, -1, -1, 0, 9⟩, ⟨42, [116], [], 0, 0, 0, 0, 0⟩, ⟨43, [65], [], 0, -1, -1, 0, 22⟩, ⟨42, [117], [], 0, 2, 0, 0, 13⟩, ⟨1, [], [], 1, 0, 0, 0, 26⟩], [1, 3], 4⟩
set_option maxRecDepth 100000 in
theorem srcOk5 : Src src5 tre5 := Src.of 300 (by kernel_rfl) (by kernel_rfl) (by kernel_rfl) (fun tab => by kernel_rfl) (by kernel_rfl)
set_option maxRecDepth 100000 in
theorem fault5 : faultF tre5 = (13, 22) := by kernel_rfl
def src6 : ByteArray := ⟨#[116, 121, 112, 101, 32, 116, 32, 61, 32, 65, 32, 124, 32, 66, 32, 111, 102, 32, 105, 110, 116, 32, 59, 32, 49]⟩
def tre6 : Tre := ⟨[⟨35, [], [], 0, 0, 0, 0, 18⟩, ⟨43, [66], [], 0, 0, -1, 0, 13⟩, ⟨43, [65], [], 0, -1, 1, 0, 9⟩, ⟨42, [116], [], 0, 2, 0, 0, 0⟩, ⟨1, [], [], 1, 0, 0, 0, 24⟩], [3], 4⟩
set_option maxRecDepth 100000 in
theorem srcOk6 : Src src6 tre6 := Src.of 300 (by kernel_rfl) (by kernel_rfl) (by kernel_rfl) (fun tab => by kernel_rfl) (by kernel_rfl)
def src7 : ByteArray := ⟨#[49]⟩
def tre7 : Tre := ⟨[⟨1, [], [], 1, 0, 0, 0, 0⟩], [], 0⟩
set_option maxRecDepth 100000 in
theorem srcOk7 : Src src7 tre7 := Src.of 300 (by kernel_rfl) (by kernel_rfl) (by kernel_rfl) (fun tab => by kernel_rfl) (by kernel_rfl)
theorem ConEnd.of {t : Tre} {s : KS} {w w' : World} {e : Ending} (h : ConEnd t s w e w') {a : KS} {n : Int} {x o : Bool} (h1 : (conOf (conMap t) s).typ = a) (h2 : (conOf (conMap t) s).num = n) (h3 : (conOf (conMap t) s).has = x) (h4 : (conMap t s).isSome = o) : e = .returned (.tuple #[strV a, .int .i64 n, .bool x, .bool o]) ∧ Below w.heap.size w w' := by
  rw [← h1, ← h2, ← h3, ← h4]
  exact h
set_option maxRecDepth 100000 in
theorem con6 {w w' : World} {e : Ending} (h : ConEnd tre6 [66] w e w') : e = .returned (.tuple #[strV [116], .int .i64 1, .bool true, .bool true]) ∧ Below w.heap.size w w' := h.of (by kernel_rfl) (by kernel_rfl) (by kernel_rfl) (by kernel_rfl)
set_option maxRecDepth 100000 in
theorem con7 {w w' : World} {e : Ending} (h : ConEnd tre7 [66] w e w') : e = .returned (.tuple #[strV [], .int .i64 0, .bool false, .bool false]) ∧ Below w.heap.size w w' := h.of (by kernel_rfl) (by kernel_rfl) (by kernel_rfl) (by kernel_rfl)
def WakesEnd (w : World) (e : Ending) (w' : World) : Prop := e = .returned (.bool true) ∧ Below w.heap.size w w'
set_option maxRecDepth 100000 in
set_option maxHeartbeats 8000000 in
theorem c14 {tab : Nat → OpRow} (w : World) (hS : TabsX tab w) : Calls Tryd.prog 14 #[] w (WakesEnd w) := by
  have HS0 := Lib.hid hS
  have HB0 := Lib.hid (Below.refl w.heap.size w)
  clear hS
  go_enter Tryd.func14, Tryd.ntmps14
  go_wp2_with fail
  refine (show Calls Tryd.prog 16 #[.string ⟨#[102, 117, 110, 32, 120, 32, 45, 62, 32, 121]⟩] w _ from srcOk0.of_ w).mono ?_
  rintro e u1 ⟨A, c, A', c', rfl, ht, hb⟩
  have HB := Lib.hid (next_ HB0.out hb)
  have HS := Lib.hid (HS0.out.next hb)
  have HC := Lib.hid (srcOk0.check u1 ht HS.out)
  rw [fault0] at HC
  clear ht hb HB0 HS0 
  generalize treV A c A' c' tre0 = V at HC ⊢
  go_wp2_with fail
  refine HC.out.mono ?_
  rintro e v1 ⟨rfl, hb⟩
  have HB1v := Lib.hid (next_ HB.out hb)
  have HS1v := Lib.hid (HS.out.next hb)
  clear hb HB HS HC 
  have hb := below_new v1 (.cells #[.int .i64 13, .int .i64 9] 36)
  have HK1 := Lib.hid (Blk.new v1 36 #[.int .i64 13, .int .i64 9])
  have HB1 := Lib.hid (next_ HB1v.out hb)
  have HS1 := Lib.hid (HS1v.out.next hb)
  clear hb HB1v HS1v 
  go_upto_region 2 with fail
  generalize v1.alloc (.cells #[.int .i64 13, .int .i64 9] 36) = w1 at HB1 HS1 HK1 ⊢
  generalize v1.heap.size = b1 at HK1 ⊢
  go_wp2_with fail
  refine (show Calls Tryd.prog 16 #[.string ⟨#[116, 121, 112, 101, 32, 116, 32, 61, 32, 65, 32, 124, 32, 66, 32, 111, 102, 32, 105, 110, 116, 32, 59, 32, 109, 97, 116, 99, 104, 32, 65, 32, 119, 105, 116, 104, 32, 65, 32, 45, 62, 32, 49, 32, 124, 32, 66, 32, 110, 32, 45, 62, 32, 110, 32, 101, 110, 100]⟩] w1 _ from srcOk1.of_ w1).mono ?_
  rintro e u2 ⟨A, c, A', c', rfl, ht, hb⟩
  have HB := Lib.hid (next_ HB1.out hb)
  have HS := Lib.hid (HS1.out.next hb)
  have HK1u := Lib.hid (HK1.out.next hb)
  have HC := Lib.hid (srcOk1.check u2 ht HS.out)
  rw [fault1] at HC
  clear ht hb HB1 HS1 HK1
  generalize treV A c A' c' tre1 = V at HC ⊢
  go_wp2_with fail
  refine HC.out.mono ?_
  rintro e v2 ⟨rfl, hb⟩
  have HB2v := Lib.hid (next_ HB.out hb)
  have HS2v := Lib.hid (HS.out.next hb)
  have HK1v := Lib.hid (HK1u.out.next hb)
  clear hb HB HS HC HK1u
  have hb := below_new v2 (.cells #[.int .i64 0, .int .i64 0] 36)
  have HK2 := Lib.hid (Blk.new v2 36 #[.int .i64 0, .int .i64 0])
  have HB2 := Lib.hid (next_ HB2v.out hb)
  have HS2 := Lib.hid (HS2v.out.next hb)
  have HK1 := Lib.hid (HK1v.out.next hb)
  clear hb HB2v HS2v HK1v
  go_upto_region 3 with fail
  generalize v2.alloc (.cells #[.int .i64 0, .int .i64 0] 36) = w2 at HB2 HS2 HK1 HK2 ⊢
  generalize v2.heap.size = b2 at HK2 ⊢
  go_wp2_with fail
  refine (show Calls Tryd.prog 16 #[.string ⟨#[109, 97, 116, 99, 104, 32, 49, 32, 119, 105, 116, 104, 32, 40, 120, 44, 32, 120, 41, 32, 45, 62, 32, 120, 32, 101, 110, 100]⟩] w2 _ from srcOk2.of_ w2).mono ?_
  rintro e u3 ⟨A, c, A', c', rfl, ht, hb⟩
  have HB := Lib.hid (next_ HB2.out hb)
  have HS := Lib.hid (HS2.out.next hb)
  have HK1u := Lib.hid (HK1.out.next hb)
  have HK2u := Lib.hid (HK2.out.next hb)
  have HC := Lib.hid (srcOk2.check u3 ht HS.out)
  rw [fault2] at HC
  clear ht hb HB2 HS2 HK1 HK2
  generalize treV A c A' c' tre2 = V at HC ⊢
  go_wp2_with fail
  refine HC.out.mono ?_
  rintro e v3 ⟨rfl, hb⟩
  have HB3v := Lib.hid (next_ HB.out hb)
  have HS3v := Lib.hid (HS.out.next hb)
  have HK1v := Lib.hid (HK1u.out.next hb)
  have HK2v := Lib.hid (HK2u.out.next hb)
  clear hb HB HS HC HK1u HK2u
  have hb := below_new v3 (.cells #[.int .i64 13, .int .i64 17] 36)
  have HK3 := Lib.hid (Blk.new v3 36 #[.int .i64 13, .int .i64 17])
  have HB3 := Lib.hid (next_ HB3v.out hb)
  have HS3 := Lib.hid (HS3v.out.next hb)
  have HK1 := Lib.hid (HK1v.out.next hb)
  have HK2 := Lib.hid (HK2v.out.next hb)
  clear hb HB3v HS3v HK1v HK2v
  go_upto_region 4 with fail
  generalize v3.alloc (.cells #[.int .i64 13, .int .i64 17] 36) = w3 at HB3 HS3 HK1 HK2 HK3 ⊢
  generalize v3.heap.size = b3 at HK3 ⊢
  go_wp2_with fail
  refine (show Calls Tryd.prog 16 #[.string ⟨#[116, 121, 112, 101, 32, 116, 32, 61, 32, 65, 32, 59, 32, 65, 32, 49]⟩] w3 _ from srcOk3.of_ w3).mono ?_
  rintro e u4 ⟨A, c, A', c', rfl, ht, hb⟩
  have HB := Lib.hid (next_ HB3.out hb)
  have HS := Lib.hid (HS3.out.next hb)
  have HK1u := Lib.hid (HK1.out.next hb)
  have HK2u := Lib.hid (HK2.out.next hb)
  have HK3u := Lib.hid (HK3.out.next hb)
  have HC := Lib.hid (srcOk3.check u4 ht HS.out)
  rw [fault3] at HC
  clear ht hb HB3 HS3 HK1 HK2 HK3
  generalize treV A c A' c' tre3 = V at HC ⊢
  go_wp2_with fail
  refine HC.out.mono ?_
  rintro e v4 ⟨rfl, hb⟩
  have HB4v := Lib.hid (next_ HB.out hb)
  have HS4v := Lib.hid (HS.out.next hb)
  have HK1v := Lib.hid (HK1u.out.next hb)
  have HK2v := Lib.hid (HK2u.out.next hb)
  have HK3v := Lib.hid (HK3u.out.next hb)
  clear hb HB HS HC HK1u HK2u HK3u
  have hb := below_new v4 (.cells #[.int .i64 13, .int .i64 13] 36)
  have HK4 := Lib.hid (Blk.new v4 36 #[.int .i64 13, .int .i64 13])
  have HB4 := Lib.hid (next_ HB4v.out hb)
  have HS4 := Lib.hid (HS4v.out.next hb)
  have HK1 := Lib.hid (HK1v.out.next hb)
  have HK2 := Lib.hid (HK2v.out.next hb)
  have HK3 := Lib.hid (HK3v.out.next hb)
  clear hb HB4v HS4v HK1v HK2v HK3v
  go_upto_region 5 with fail
  generalize v4.alloc (.cells #[.int .i64 13, .int .i64 13] 36) = w4 at HB4 HS4 HK1 HK2 HK3 HK4 ⊢
  generalize v4.heap.size = b4 at HK4 ⊢
  go_wp2_with fail
  refine (show Calls Tryd.prog 16 #[.string ⟨#[108, 101, 116, 32, 114, 101, 99, 32, 102, 32, 120, 32, 61, 32, 102, 32, 120, 32, 105, 110, 32, 102]⟩] w4 _ from srcOk4.of_ w4).mono ?_
  rintro e u5 ⟨A, c, A', c', rfl, ht, hb⟩
  have HB := Lib.hid (next_ HB4.out hb)
  have HS := Lib.hid (HS4.out.next hb)
  have HK1u := Lib.hid (HK1.out.next hb)
  have HK2u := Lib.hid (HK2.out.next hb)
  have HK3u := Lib.hid (HK3.out.next hb)
  have HK4u := Lib.hid (HK4.out.next hb)
  have HC := Lib.hid (srcOk4.check u5 ht HS.out)
  rw [fault4] at HC
  clear ht hb HB4 HS4 HK1 HK2 HK3 HK4
  generalize treV A c A' c' tre4 = V at HC ⊢
  go_wp2_with fail
  refine HC.out.mono ?_
  rintro e v5 ⟨rfl, hb⟩
  have HB5v := Lib.hid (next_ HB.out hb)
  have HS5v := Lib.hid (HS.out.next hb)
  have HK1v := Lib.hid (HK1u.out.next hb)
  have HK2v := Lib.hid (HK2u.out.next hb)
  have HK3v := Lib.hid (HK3u.out.next hb)
  have HK4v := Lib.hid (HK4u.out.next hb)
  clear hb HB HS HC HK1u HK2u HK3u HK4u
  have hb := below_new v5 (.cells #[.int .i64 0, .int .i64 0] 36)
  have HK5 := Lib.hid (Blk.new v5 36 #[.int .i64 0, .int .i64 0])
  have HB5 := Lib.hid (next_ HB5v.out hb)
  have HS5 := Lib.hid (HS5v.out.next hb)
  have HK1 := Lib.hid (HK1v.out.next hb)
  have HK2 := Lib.hid (HK2v.out.next hb)
  have HK3 := Lib.hid (HK3v.out.next hb)
  have HK4 := Lib.hid (HK4v.out.next hb)
  clear hb HB5v HS5v HK1v HK2v HK3v HK4v
  go_upto_region 6 with fail
  generalize v5.alloc (.cells #[.int .i64 0, .int .i64 0] 36) = w5 at HB5 HS5 HK1 HK2 HK3 HK4 HK5 ⊢
  generalize v5.heap.size = b5 at HK5 ⊢
  go_wp2_with fail
  refine (show Calls Tryd.prog 16 #[.string ⟨#[116, 121, 112, 101, 32, 116, 32, 61, 32, 65, 32, 59, 32, 116, 121, 112, 101, 32, 117, 32, 61, 32, 65, 32, 59, 32, 49]⟩] w5 _ from srcOk5.of_ w5).mono ?_
  rintro e u6 ⟨A, c, A', c', rfl, ht, hb⟩
  have HB := Lib.hid (next_ HB5.out hb)
  have HS := Lib.hid (HS5.out.next hb)
  have HK1u := Lib.hid (HK1.out.next hb)
  have HK2u := Lib.hid (HK2.out.next hb)
  have HK3u := Lib.hid (HK3.out.next hb)
  have HK4u := Lib.hid (HK4.out.next hb)
  have HK5u := Lib.hid (HK5.out.next hb)
  have HC := Lib.hid (srcOk5.check u6 ht HS.out)
  rw [fault5] at HC
  clear ht hb HB5 HS5 HK1 HK2 HK3 HK4 HK5
  generalize treV A c A' c' tre5 = V at HC ⊢
  go_wp2_with fail
  refine HC.out.mono ?_
  rintro e v6 ⟨rfl, hb⟩
  have HB6v := Lib.hid (next_ HB.out hb)
  have HS6v := Lib.hid (HS.out.next hb)
  have HK1v := Lib.hid (HK1u.out.next hb)
  have HK2v := Lib.hid (HK2u.out.next hb)
  have HK3v := Lib.hid (HK3u.out.next hb)
  have HK4v := Lib.hid (HK4u.out.next hb)
  have HK5v := Lib.hid (HK5u.out.next hb)
  clear hb HB HS HC HK1u HK2u HK3u HK4u HK5u
  have hb := below_new v6 (.cells #[.int .i64 13, .int .i64 22] 36)
  have HK6 := Lib.hid (Blk.new v6 36 #[.int .i64 13, .int .i64 22])
  have HB6 := Lib.hid (next_ HB6v.out hb)
  have HS6 := Lib.hid (HS6v.out.next hb)
  have HK1 := Lib.hid (HK1v.out.next hb)
  have HK2 := Lib.hid (HK2v.out.next hb)
  have HK3 := Lib.hid (HK3v.out.next hb)
  have HK4 := Lib.hid (HK4v.out.next hb)
  have HK5 := Lib.hid (HK5v.out.next hb)
  clear hb HB6v HS6v HK1v HK2v HK3v HK4v HK5v
  go_upto_region 7 with fail
  generalize v6.alloc (.cells #[.int .i64 13, .int .i64 22] 36) = w6 at HB6 HS6 HK1 HK2 HK3 HK4 HK5 HK6 ⊢
  generalize v6.heap.size = b6 at HK6 ⊢
  go_wp2_with fail
  refine (show Calls Tryd.prog 16 #[.string ⟨#[116, 121, 112, 101, 32, 116, 32, 61, 32, 65, 32, 124, 32, 66, 32, 111, 102, 32, 105, 110, 116, 32, 59, 32, 49]⟩] w6 _ from srcOk6.of_ w6).mono ?_
  rintro e u7 ⟨A, c, A', c', rfl, ht, hb⟩
  have HB := Lib.hid (next_ HB6.out hb)
  have HS := Lib.hid (HS6.out.next hb)
  have HK1u := Lib.hid (HK1.out.next hb)
  have HK2u := Lib.hid (HK2.out.next hb)
  have HK3u := Lib.hid (HK3.out.next hb)
  have HK4u := Lib.hid (HK4.out.next hb)
  have HK5u := Lib.hid (HK5.out.next hb)
  have HK6u := Lib.hid (HK6.out.next hb)
  have HC := Lib.hid (srcOk6.con [66] u7 ht HS.out)
  clear ht hb HB6 HS6 HK1 HK2 HK3 HK4 HK5 HK6
  generalize treV A c A' c' tre6 = V at HC ⊢
  go_wp2_with fail
  refine HC.out.mono ?_
  intro e w7 he
  obtain ⟨rfl, hb⟩ := con6 he
  have HB7 := Lib.hid (next_ HB.out hb)
  have HS7 := Lib.hid (HS.out.next hb)
  have HK1 := Lib.hid (HK1u.out.next hb)
  have HK2 := Lib.hid (HK2u.out.next hb)
  have HK3 := Lib.hid (HK3u.out.next hb)
  have HK4 := Lib.hid (HK4u.out.next hb)
  have HK5 := Lib.hid (HK5u.out.next hb)
  have HK6 := Lib.hid (HK6u.out.next hb)
  clear he hb HB HS HC HK1u HK2u HK3u HK4u HK5u HK6u
  go_upto_region 8 with fail
  go_wp2_with fail
  refine (show Calls Tryd.prog 16 #[.string ⟨#[49]⟩] w7 _ from srcOk7.of_ w7).mono ?_
  rintro e u8 ⟨A, c, A', c', rfl, ht, hb⟩
  have HB := Lib.hid (next_ HB7.out hb)
  have HS := Lib.hid (HS7.out.next hb)
  have HK1u := Lib.hid (HK1.out.next hb)
  have HK2u := Lib.hid (HK2.out.next hb)
  have HK3u := Lib.hid (HK3.out.next hb)
  have HK4u := Lib.hid (HK4.out.next hb)
  have HK5u := Lib.hid (HK5.out.next hb)
  have HK6u := Lib.hid (HK6.out.next hb)
  have HC := Lib.hid (srcOk7.con [66] u8 ht HS.out)
  clear ht hb HB7 HS7 HK1 HK2 HK3 HK4 HK5 HK6
  generalize treV A c A' c' tre7 = V at HC ⊢
  go_wp2_with fail
  refine HC.out.mono ?_
  intro e w8 he
  obtain ⟨rfl, hb⟩ := con7 he
  have HB8 := Lib.hid (next_ HB.out hb)
  have HS8 := Lib.hid (HS.out.next hb)
  have HK1 := Lib.hid (HK1u.out.next hb)
  have HK2 := Lib.hid (HK2u.out.next hb)
  have HK3 := Lib.hid (HK3u.out.next hb)
  have HK4 := Lib.hid (HK4u.out.next hb)
  have HK5 := Lib.hid (HK5u.out.next hb)
  have HK6 := Lib.hid (HK6u.out.next hb)
  clear he hb HB HS HC HK1u HK2u HK3u HK4u HK5u HK6u
  have p1 := HK1.out.cell 0
  have q1 := HK1.out.cell 1
  have p2 := HK2.out.cell 0
  have q2 := HK2.out.cell 1
  have p3 := HK3.out.cell 0
  have q3 := HK3.out.cell 1
  have p4 := HK4.out.cell 0
  have q4 := HK4.out.cell 1
  have p5 := HK5.out.cell 0
  have q5 := HK5.out.cell 1
  have p6 := HK6.out.cell 0
  have q6 := HK6.out.cell 1
  replace p1 : w8.cell? ⟨b1, 0, none⟩ = some (.int .i64 13) := p1
  replace q1 : w8.cell? ⟨b1, 1, none⟩ = some (.int .i64 9) := q1
  replace p2 : w8.cell? ⟨b2, 0, none⟩ = some (.int .i64 0) := p2
  replace q2 : w8.cell? ⟨b2, 1, none⟩ = some (.int .i64 0) := q2
  replace p3 : w8.cell? ⟨b3, 0, none⟩ = some (.int .i64 13) := p3
  replace q3 : w8.cell? ⟨b3, 1, none⟩ = some (.int .i64 17) := q3
  replace p4 : w8.cell? ⟨b4, 0, none⟩ = some (.int .i64 13) := p4
  replace q4 : w8.cell? ⟨b4, 1, none⟩ = some (.int .i64 13) := q4
  replace p5 : w8.cell? ⟨b5, 0, none⟩ = some (.int .i64 0) := p5
  replace q5 : w8.cell? ⟨b5, 1, none⟩ = some (.int .i64 0) := q5
  replace p6 : w8.cell? ⟨b6, 0, none⟩ = some (.int .i64 13) := p6
  replace q6 : w8.cell? ⟨b6, 1, none⟩ = some (.int .i64 22) := q6
  go_wp2_with fail
  go_ret
  exact ⟨rfl, HB8.out⟩
structure TreOk (w : World) (A A' : Option Addr) (t : Tre) : Prop where
  is_ : TreIs w A A' t
  sm : SmT t
theorem TreOk.next {w w' : World} {A A' : Option Addr} {t : Tre} (h : TreOk w A A' t) (hb : Below w.heap.size w w') : TreOk w' A A' t := ⟨h.is_.next hb, h.sm⟩
end Go.Proofs.YtphojigdapaaiaaDoor
