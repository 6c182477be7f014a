/- code.Decode: the program of bytes. -/
import Derived.Test.YtiphicejaljhiaaDoorDecP
import Derived.Test.YtiphicejaljhiaaDoorEnc
import Derived.Laws.ResultCell
namespace Go.Proofs.YtiphicejaljhiaaDoor
open Go.ChangeShapes Go.WideShapes Go.ChangeAt Go.RowKit
theorem RdAt.blk {w : World} {g : Nat} {s : St} (h : RdAt w g s) : ∃ cs, Blk w g 104 cs := by
  obtain ⟨A, c, hb, _⟩ := h
  exact ⟨_, hb⟩
theorem run_convN {w : World} {B n : Nat} {A : Option Addr} {c : Nat} {l : List UInt8} (hn : l.length = n) (hr : Reads w B 1 A n (cellsB l)) : (convert 43 9 (.slice A n c)).run Tryd.prog w = .ok (.string ⟨l.toArray⟩) w := by
  subst hn
  exact run_conv hr
theorem results_cell_tmp_row {P : Program} {fn : Func} {p u : Tmp} {ty : TypeId} (h : fn.results = #[.cell p ty, .tmp u]) (tmps : Array Value) (w : World) (g : Nat) (t : TypeId) (cs : Array Value) (fr : Nat × Nat) (d : TypeDesc)
    (hp : tmps.getD p undef = .pointer (some ⟨g, 0, none⟩)) (hg : w.heap[g]? = some (.cells cs t fr)) (hu : P.underlying ty = some d) (hd : (match d with | .struct _ | .array _ _ => true | _ => false) = true) (hi : (P.info? ty).map (·.size) = some cs.size) :
    (results fn tmps).run P w = .ok (.tuple #[.agg cs, tmps.getD u undef]) w := by
  rw [results_cell_tmp h, hp]
  simp [asAddr, run_loadVar_row w g t ty cs fr d hg hu hd hi]
theorem own_chain {W : World} {p base : Nat} {e : TypeId} {size n : Nat} {v x y z : Value} {xs : List Value} {cs : Array Value} (h : W.ownsRow base e size v n xs) (hP : Blk W p 42 cs) (hne : e ≠ 42) :
    (((W.setCell ⟨p, 0, none⟩ x).setCell ⟨p, 1, none⟩ y).setCell ⟨p, 2, none⟩ z).ownsRow base e size v n xs :=
  own_set (own_set (own_set h hP hne) (hP.set_ 0 x) hne) ((hP.set_ 0 x).set_ 1 y) hne
theorem dec_chain {w W0 W : World} {g pb : Nat} {tr : TypeId} {q : PrMem} {x y z : Value} (h : DecSt w W0 g pb tr q) (hb : Below W0.heap.size W0 W) (l1 : q.L.length ≤ 65536) (l2 : q.S.length ≤ 65536) (l3 : q.M.length ≤ 65536) :
    PrOk (((W.setCell ⟨w.heap.size, 0, none⟩ x).setCell ⟨w.heap.size, 1, none⟩ y).setCell ⟨w.heap.size, 2, none⟩ z) (((W.setCell ⟨w.heap.size, 0, none⟩ x).setCell ⟨w.heap.size, 1, none⟩ y).setCell ⟨w.heap.size, 2, none⟩ z).heap.size q := by
  have hP := h.P.next hb
  exact ⟨Reads.of_own (own_chain (own_next h.oF hb) hP (by decide)), fun u hu => ⟨Reads.of_own (own_chain (own_next (h.cF u hu).1 hb) hP (by decide)), by have := (h.cF u hu).2; unfold maxLen; omega⟩, Reads.of_own (own_chain (own_next h.oS hb) hP (by decide)), Reads.of_own (own_chain (own_next h.oM hb) hP (by decide)),
    fun u hu => ⟨Reads.of_own (own_chain (own_next (h.cM u hu).1 hb) hP (by decide)), by have := (h.cM u hu).2; unfold maxLen; omega⟩, by unfold maxLen; omega, by unfold maxLen; omega, by unfold maxLen; omega⟩
theorem end31 {w W : World} {b : List UInt8} {q : PrMem} {ok : Bool} {x y z : Value} {cs : Array Value} (hP : Blk W w.heap.size 42 cs) (hcs : cs.size = 3) (hv : q.val = .agg #[x, y, z]) (hok : ok = (dec b).isSome) (hq : q.pr = (dec b).getD emptyPr)
    (hO : (∃ W0 g pb tr, DecSt w W0 g pb tr q ∧ Below W0.heap.size W0 W ∧ q.L.length ≤ 65536 ∧ q.S.length ≤ 65536 ∧ q.M.length ≤ 65536) ∨ q = ⟨none, 0, [], none, 0, [], none, 0, []⟩) (hb : Below w.heap.size w W) (a : Act) (h1 : a.tmps.getD 2 undef = .pointer (some ⟨w.heap.size, 0, none⟩)) (h3 : a.tmps.getD 3 undef = .bool ok) (h2 : a.defers = []) :
    bodyPost Tryd.prog Tryd.f31 (fun e w' => ∃ q : PrMem, e = .returned (.tuple #[q.val, .bool (dec b).isSome]) ∧ q.pr = (dec b).getD emptyPr ∧ PrOk w' w'.heap.size q ∧ Below w.heap.size w w') .ret a (((W.setCell ⟨w.heap.size, 0, none⟩ x).setCell ⟨w.heap.size, 1, none⟩ y).setCell ⟨w.heap.size, 2, none⟩ z) := by
  have B4 : Blk (((W.setCell ⟨w.heap.size, 0, none⟩ x).setCell ⟨w.heap.size, 1, none⟩ y).setCell ⟨w.heap.size, 2, none⟩ z) w.heap.size 42 #[x, y, z] := by
    have h := ((hP.set_ 0 x).set_ 1 y).set_ 2 z
    obtain ⟨l⟩ := cs
    match l, hcs with
    | [_, _, _], _ => exact h
  have BW : Below w.heap.size w (((W.setCell ⟨w.heap.size, 0, none⟩ x).setCell ⟨w.heap.size, 1, none⟩ y).setCell ⟨w.heap.size, 2, none⟩ z) := ((hb.setCell (p := ⟨w.heap.size, 0, none⟩) (Nat.le_refl _) x).setCell (p := ⟨w.heap.size, 1, none⟩) (Nat.le_refl _) y).setCell (p := ⟨w.heap.size, 2, none⟩) (Nat.le_refl _) z
  refine bodyPost_ret (results_cell_tmp_row rfl _ _ _ 42 _ (0, 0) _ h1 B4 Tryd.underlying42 rfl (by kernel_rfl)) h2 ⟨q, ?_, hq, ?_, BW⟩
  · rw [h3, hok, hv]
  · rcases hO with ⟨W0, g, pb, tr, hD, hb0, l1, l2, l3⟩ | rfl
    · exact dec_chain hD hb0 l1 l2 l3
    · exact ⟨Reads.none_, fun u hu => (List.not_mem_nil hu).elim, Reads.none_, Reads.none_, fun u hu => (List.not_mem_nil hu).elim, Nat.zero_le _, Nat.zero_le _, Nat.zero_le _⟩
set_option maxRecDepth 100000 in
set_option maxHeartbeats 20000000 in
theorem c31 (b : List UInt8) (A : Option Addr) (c : Nat) (w : World) (ht : CodeTab w) (hr : Reads w w.heap.size 1 A b.length (cellsB b)) (hl : b.length ≤ 1099511627776) :
    Calls Tryd.prog 31 #[.slice A b.length c] w fun e w' => ∃ q : PrMem, e = .returned (.tuple #[q.val, .bool (dec b).isSome]) ∧ q.pr = (dec b).getD emptyPr ∧ PrOk w' w'.heap.size q ∧ Below w.heap.size w w' := by
  obtain ⟨i60, fi60, fz60, fz61, fz62⟩ := info_parts fn_info
  obtain ⟨i63, fi63, gz60, gz61, gz62⟩ := info_parts fm_info
  obtain ⟨i9, fi9, hz90, hz91, hz92⟩ := info_parts str_info
  have HT := Lib.hid ht
  have HRB := Lib.hid hr
  have h2w := ht.lt
  have R0 := Lib.hid ((hr.alloc (Nat.le_refl _) (.cells #[.slice none 0 0, .slice none 0 0, .slice none 0 0] 42)).more (B' := (w.alloc (.cells #[.slice none 0 0, .slice none 0 0, .slice none 0 0] 42)).heap.size) (by rw [World.size_alloc]; omega))
  have P0 := Blk.new w 42 #[.slice none 0 0, .slice none 0 0, .slice none 0 0]
  have B0 := Lib.hid (below_new w (.cells #[.slice none 0 0, .slice none 0 0, .slice none 0 0] 42))
  clear ht hr
  go_enter Tryd.func31, Tryd.ntmps31
  go_wp2_with fail
  refine (c54 b A c _ R0.out hl).mono ?_
  rintro e w1 ⟨a0, c0, rfl, ho, b1⟩
  have B1 := Lib.hid (next_ B0.out b1)
  have P1 := P0.next b1
  have hcap := own_cap ho
  have hw1 : w.heap.size < w1.heap.size := P1.lt
  have rd := Lib.hid (show RdAt (w1.alloc (.cells #[.slice a0 b.length c0, .bool false] 104)) w1.heap.size (b, false) from ⟨a0, c0, Blk.new w1 104 _, (Reads.of_own ho).alloc (Nat.le_refl _) _, hcap.1, hcap.2⟩)
  have rd2 := Lib.hid (rd.out.alloc (.cells #[.slice none 0 0, .slice none 0 0, .slice none 0 0] 42))
  obtain ⟨q0, q0e⟩ : ∃ q0 : PrMem, q0 = ⟨none, 0, [], none, 0, [], none, 0, []⟩ := ⟨_, rfl⟩
  have nilO : ∀ (W : World) (base : Nat) (e : TypeId) (s : Nat), W.ownsRow base e s (.slice none 0 0) 0 [] := fun W base e s => ⟨by simp, .inl ⟨rfl, rfl⟩⟩
  have D1 := Lib.hid (show DecSt w ((w1.alloc (.cells #[.slice a0 b.length c0, .bool false] 104)).alloc (.cells #[.slice none 0 0, .slice none 0 0, .slice none 0 0] 42)) w1.heap.size (w1.heap.size + 1) 104 q0 by
    subst q0e
    refine ⟨next_ B1.out (next_ (below_new w1 _) (below_new _ _)), hw1, Nat.lt_succ_self _, RdAt.blk rd2.out, by decide, (P1.alloc _).alloc _, ?_, nilO _ _ _ _, nilO _ _ _ _, nilO _ _ _ _, fun x hx => (List.not_mem_nil hx).elim, fun x hx => (List.not_mem_nil hx).elim⟩
    have h := Blk.new (w1.alloc (.cells #[.slice a0 b.length c0, .bool false] 104)) 42 #[.slice none 0 0, .slice none 0 0, .slice none 0 0]
    rw [World.size_alloc] at h
    exact h)
  clear nilO ho b1 hcap P0 P1
  go_wp2_with fail
  generalize hg1 : w1.heap.size = g at D1 hw1
  rw [hg1] at rd2
  have h2g : 2 < g := by omega
  refine (c55 g 1 (b, false) _ rd2.out (by decide)).mono ?_
  rintro e w2 ⟨rfl, r2, g2⟩
  have D2 := Lib.hid (D1.out.read g2 (RdAt.blk r2))
  have R2 := Lib.hid r2
  clear r2 g2
  go_wp2_with fail
  refine (c55 g 1 _ _ R2.out (by decide)).mono ?_
  rintro e w3 ⟨rfl, r3, g3⟩
  have D3 := Lib.hid (D2.out.read g3 (RdAt.blk r3))
  have R3 := Lib.hid r3
  clear r3 g3
  go_wp2_with fail
  refine (c55 g 1 _ _ R3.out (by decide)).mono ?_
  rintro e w5 ⟨rfl, r5, g5⟩
  have D5 := Lib.hid (D3.out.read g5 (RdAt.blk r5))
  have hn1 := nV_range 1 (b, false) (by decide)
  have hn2 := nV_range 1 (nS tkC 1 (b, false)) (by decide)
  have hn3 := nV_range 1 (nS tkC 1 (nS tkC 1 (b, false))) (by decide)
  have HPR := Lib.hid (show rPr tkC 38 (b, false) = (⟨(rFns tkC 38 (nV tkC 1 (b, false)).toNat (nS tkC 1 (nS tkC 1 (nS tkC 1 (b, false))))).1, (rStrs tkC (nV tkC 1 (nS tkC 1 (b, false))).toNat (rFns tkC 38 (nV tkC 1 (b, false)).toNat (nS tkC 1 (nS tkC 1 (nS tkC 1 (b, false))))).2).1, (rFms tkC (nV tkC 1 (nS tkC 1 (nS tkC 1 (b, false)))).toNat (rStrs tkC (nV tkC 1 (nS tkC 1 (b, false))).toNat (rFns tkC 38 (nV tkC 1 (b, false)).toNat (nS tkC 1 (nS tkC 1 (nS tkC 1 (b, false))))).2).2).1⟩, (rFms tkC (nV tkC 1 (nS tkC 1 (nS tkC 1 (b, false)))).toNat (rStrs tkC (nV tkC 1 (nS tkC 1 (b, false))).toNat (rFns tkC 38 (nV tkC 1 (b, false)).toNat (nS tkC 1 (nS tkC 1 (nS tkC 1 (b, false))))).2).2).2) from rfl)
  generalize nV tkC 1 (nS tkC 1 (nS tkC 1 (b, false))) = m3 at HPR hn3
  generalize nV tkC 1 (nS tkC 1 (b, false)) = m2 at HPR hn2
  generalize nV tkC 1 (b, false) = m1 at HPR hn1
  generalize nS tkC 1 (nS tkC 1 (nS tkC 1 (b, false))) = s3 at HPR r5
  obtain ⟨nf, rfl⟩ : ∃ m : Nat, m1 = m := ⟨m1.toNat, by omega⟩
  obtain ⟨ns, rfl⟩ : ∃ m : Nat, m2 = m := ⟨m2.toNat, by omega⟩
  obtain ⟨nm, rfl⟩ : ∃ m : Nat, m3 = m := ⟨m3.toNat, by omega⟩
  simp only [Int.toNat_natCast] at HPR
  have hnf : nf < 256 := by omega
  have hns : ns < 256 := by omega
  have hnm : nm < 256 := by omega
  have R5 := Lib.hid r5
  clear r5 g5 hn1 hn2 hn3
  go_wp2_with fail
  go_loopw [6] (fun i wr => ∃ (k : Nat) (st : St) (q : PrMem), i = .int .i64 k ∧ q.L.length + k ≤ nf ∧ (rFns tkC 38 nf s3).1 = (q.L.map (·.fn)) ++ (rFns tkC 38 k st).1 ∧ (rFns tkC 38 nf s3).2 = (rFns tkC 38 k st).2 ∧ Hid (RdAt wr g st) ∧ Hid (DecSt w wr g (g + 1) 104 q) ∧ q.S = [] ∧ q.M = []) (fun i _ => (intOf i).toNat)
  case atStart => exact ⟨nf, s3, q0, rfl, by simp [q0e], by simp [q0e], rfl, R5, D5, by simp [q0e], by simp [q0e]⟩
  case round =>
    obtain ⟨k, st, q, rfl, hk, he1, he2, HR, HD, hkeep⟩ := hrel
    obtain ⟨hk1, hk2⟩ := hkeep
    have HE1 := Lib.hid he1
    have HE2 := Lib.hid he2
    have cb := HR.out.cell
    have hgw := HR.out.lt
    have q0c := HD.out.Q.cell 0
    clear he1 he2
    by_cases hgo : st.2 = false ∧ 0 < k
    · obtain ⟨hbad, hk0⟩ := hgo
      rw [hbad] at cb
      obtain ⟨k, rfl⟩ : ∃ j, k = j + 1 := ⟨k - 1, by omega⟩
      have fk : decide ((0 : Int) < ((k + 1 : Nat) : Int)) = true := decide_eq_true (by omega)
      have HBAD := Lib.hid (show ¬ st.2 = true by rw [hbad]; decide)
      clear hbad
      have HTr := Lib.hid (HT.out.next HD.out.low)
      have HRC := Lib.hid (show rFns tkC 38 (k + 1) st = ((rFn tkC 38 st).1 :: (rFns tkC 38 k (rFn tkC 38 st).2).1, (rFns tkC 38 k (rFn tkC 38 st).2).2) by rw [rFns, if_neg HBAD.out])
      have W1 : IntKind.i64.wrap (((k + 1 : Nat) : Int) - 1) = (k : Int) := (IntWalk.i64_in _ (by omega)).trans (by omega)
      go_wp2_with fail
      go_region_law (first
      | ((refine step_call (by rfl) 56 #[.tmp 34] #[101] (by rfl) Tryd.f56 Tryd.func56 (by kernel_rfl) (by kernel_rfl) #[.pointer (some ⟨g, 0, none⟩)] (by rfl) (c56 g st wr.drew HTr.out.drew h2g HR.out) ?_; rintro e w6 ⟨x, rfl, hx, hxo, r6, g6⟩; refine ⟨_, rfl, ?_⟩; have D6 := HD.out.drew.read g6 (RdAt.blk r6); have z0 := D6.Q.cell 0; have z1 := (D6.alloc (.cells #[.int .i64 x.fn.locals, .int .i64 x.fn.free, .slice x.ad x.fn.code.length x.cap] 60)).Q.cell 0; have HX := Lib.hid hx; clear hx))
      | ((refine step_append_any (w6.alloc (.cells #[.int .i64 x.fn.locals, .int .i64 x.fn.free, .slice x.ad x.fn.code.length x.cap] 60)) (by rfl) (.tmp 33) (.tmp 36) 38 (by rfl) (g + 1) 60 i60 _ 3 40 Tryd.underlying38 fi60 fz60 fz61 fz62 rfl (by omega) (.slice q.AF q.L.length q.cF) q.L.length (q.L.flatMap Fnv.cells) (by rfl) (D6.oF.alloc _) (w6.heap.size + 1) (some ⟨w6.heap.size, 0, none⟩) 1 1 [.int .i64 x.fn.locals, .int .i64 x.fn.free, .slice x.ad x.fn.code.length x.cap] (by rfl) (reads_row3 (Blk.new w6 60 #[.int .i64 x.fn.locals, .int .i64 x.fn.free, .slice x.ad x.fn.code.length x.cap])) (by simp [Value.oneCell']) (by unfold maxLen; omega) (by omega) (by rw [World.size_alloc]; have := D6.bp; have := D6.Q.lt; omega) ?_; intro v1 w7 hown1 hgrow hat; obtain ⟨a1, c1, rfl⟩ := own_form hown1; have Q7 := blk_row (D6.Q.alloc (.cells #[.int .i64 x.fn.locals, .int .i64 x.fn.free, .slice x.ad x.fn.code.length x.cap] 60)) (D6.oF.alloc (.cells #[.int .i64 x.fn.locals, .int .i64 x.fn.free, .slice x.ad x.fn.code.length x.cap] 60)) hgrow (by decide); have s0 := Q7.cell 0; have f0 := Q7.frozen 0)))
      all_goals
        have D8 := Lib.hid ((D6.alloc (.cells #[.int .i64 x.fn.locals, .int .i64 x.fn.free, .slice x.ad x.fn.code.length x.cap] 60)).pushF (by decide) (x := x) ⟨own_mono (hxo.1.alloc (.cells #[.int .i64 x.fn.locals, .int .i64 x.fn.free, .slice x.ad x.fn.code.length x.cap] 60)) (by rw [World.size_drew]; have := HD.out.bp; have := HD.out.Q.lt; omega), hxo.2⟩ hgrow hown1)
        have R8 := Lib.hid (((r6.alloc (.cells #[.int .i64 x.fn.locals, .int .i64 x.fn.free, .slice x.ad x.fn.code.length x.cap] 60)).grown hgrow (fun j e => by have := ((D6.oF).lt j e).1; omega)).grown (grown_set w7 (g + 1) 0 (.slice a1 (q.L.length + 1) c1)) (fun j e => by have := Option.some.inj e; have := HD.out.bp; omega))
        go_wp2_with fail
        go_roundw
        case rel =>
          refine ⟨k, (rFn tkC 38 st).2, ⟨a1, c1, q.L ++ [x], q.AS, q.cS, q.S, q.AM, q.cM, q.M⟩, by first | rfl | go_num, by simp; omega, ?_, ?_, R8, D8, hk1, hk2⟩
          · rw [HE1.out, HRC.out, List.map_append, List.append_assoc, ← HX.out]; rfl
          · rw [HE2.out, HRC.out]
        case measure => simp [intOf]
    · have HGO := Lib.hid (show rFns tkC 38 k st = ([], st) by
        cases k with
        | zero => rfl
        | succ k =>
          rw [rFns, if_pos (by
            cases hb : st.2
            · exact absurd ⟨hb, Nat.succ_pos _⟩ hgo
            · rfl)])
      have HF := Lib.hid (show rFns tkC 38 nf s3 = ((q.L.map (·.fn)), st) by rw [← Prod.eta (rFns tkC 38 nf s3), HE1.out, HE2.out, HGO.out, List.append_nil])
      clear q0c
      have HGOH := Lib.hid hgo
      clear hgo HGO HE1 HE2
      have hCASE : (0 < k ∧ st.2 = true) ∨ ¬ 0 < k := by
        by_cases hk0 : 0 < k
        · left
          refine ⟨hk0, ?_⟩
          cases hb : st.2
          · exact absurd ⟨hb, hk0⟩ HGOH.out
          · rfl
        · exact .inr hk0
      rcases hCASE with ⟨hk0, hbad⟩ | hk0
      · have fk : decide ((0 : Int) < (k : Int)) = true := decide_eq_true (by omega)
        rw [hbad] at cb
        have HBD := Lib.hid hbad
        clear hbad
        go_wp2_with fail
        have HFF := Lib.hid (show q.L.map (·.fn) = (rFns tkC 38 nf s3).1 by rw [HF.out])
        have HFB := Lib.hid (show (rFns tkC 38 nf s3).2 = st by rw [HF.out])
        obtain ⟨sA, hsA⟩ : ∃ sA, sA = st := ⟨_, rfl⟩
        generalize hFF : (rFns tkC 38 nf s3).1 = FF at HFF
        obtain ⟨wo1, rfl⟩ : ∃ wo1 : World, wo1 = wr := ⟨_, rfl⟩
        subst hsA
        have HFFE := Lib.hid hFF
        clear hFF
        go_loopw [7] (fun i wr => ∃ (k : Nat) (st : St) (q : PrMem), i = .int .i64 k ∧ q.S.length + k ≤ ns ∧ (rStrs tkC ns sA).1 = q.S ++ (rStrs tkC k st).1 ∧ (rStrs tkC ns sA).2 = (rStrs tkC k st).2 ∧ Hid (RdAt wr g st) ∧ Hid (DecSt w wr g (g + 1) 104 q) ∧ q.L.map (·.fn) = FF ∧ q.L.length ≤ 255 ∧ q.M = []) (fun i _ => (intOf i).toNat)
        case atStart => exact ⟨ns, sA, q, rfl, by rw [hk1]; simp, by rw [hk1]; rfl, rfl, HR, HD, HFF.out, by omega, hk2⟩
        case round =>
          obtain ⟨k, st, q, rfl, hk, he1, he2, HR, HD, hkeep⟩ := hrel
          obtain ⟨hk1, hk2, hk3⟩ := hkeep
          have HE1 := Lib.hid he1
          have HE2 := Lib.hid he2
          have cb := HR.out.cell
          have hgw := HR.out.lt
          have q0c := HD.out.Q.cell 1
          clear he1 he2
          by_cases hgo : st.2 = false ∧ 0 < k
          · obtain ⟨hbad, hk0⟩ := hgo
            rw [hbad] at cb
            obtain ⟨k, rfl⟩ : ∃ j, k = j + 1 := ⟨k - 1, by omega⟩
            have fk : decide ((0 : Int) < ((k + 1 : Nat) : Int)) = true := decide_eq_true (by omega)
            have HBAD := Lib.hid (show ¬ st.2 = true by rw [hbad]; decide)
            clear hbad
            have HTr := Lib.hid (HT.out.next HD.out.low)
            obtain ⟨sn, hsn⟩ : ∃ sn : Nat, nV tkC 1 st = sn := ⟨(nV tkC 1 st).toNat, by have := nV_range 1 st (by decide); omega⟩
            have hsn8 : sn < 256 := by have := nV_range 1 st (by decide); omega
            have HRC := Lib.hid (show rStrs tkC (k + 1) st = ((tkC sn (nS tkC 1 st)).1 :: (rStrs tkC k (tkC sn (nS tkC 1 st)).2).1, (rStrs tkC k (tkC sn (nS tkC 1 st)).2).2) by rw [rStrs, if_neg HBAD.out]; simp only [hsn, Int.toNat_natCast])
            have W1 : IntKind.i64.wrap (((k + 1 : Nat) : Int) - 1) = (k : Int) := (IntWalk.i64_in _ (by omega)).trans (by omega)
            go_wp2_with fail
            go_region_law (first
            | ((refine step_call (by rfl) 55 #[.tmp 53, .const (.int .i64 1)] #[101, 3] (by rfl) Tryd.f55 Tryd.func55 (by kernel_rfl) (by kernel_rfl) #[.pointer (some ⟨g, 0, none⟩), .int .i64 (1 : Nat)] (by rfl) (c55 g 1 st wr.drew HR.out (by decide)) ?_; rintro e w5 ⟨rfl, r5, g5⟩; refine ⟨_, rfl, ?_⟩; rw [hsn]; have D5 := HD.out.drew.read g5 (RdAt.blk r5); have z0 := D5.Q.cell 1))
            | ((refine step_call (by rfl) 57 #[.tmp 52, .tmp 54] #[101, 3] (by rfl) Tryd.f57 Tryd.func57 (by kernel_rfl) (by kernel_rfl) #[.pointer (some ⟨g, 0, none⟩), .int .i64 sn] (by rfl) (c57 g sn (nS tkC 1 st) w5 r5 (by omega)) ?_; rintro e w6 ⟨xA, xc, rfl, hxc, hxr, r6, g6⟩; refine ⟨_, rfl, ?_⟩; have D6 := D5.read g6 (RdAt.blk r6); have z1 := D6.Q.cell 1; have z2 := (D6.alloc (.cells #[strV (tkC sn (nS tkC 1 st)).1] 9)).Q.cell 1; have hcv := run_convN (c := xc) (tkC_len sn (nS tkC 1 st)) hxr))
            | ((refine step_append_any (w6.alloc (.cells #[strV (tkC sn (nS tkC 1 st)).1] 9)) (by rfl) (.tmp 51) (.tmp 57) 39 (by rfl) (g + 1) 9 i9 _ 1 16 Tryd.underlying39 fi9 hz90 hz91 hz92 rfl (by omega) (.slice q.AS q.S.length q.cS) q.S.length (q.S.map strV) (by rfl) (D6.oS.alloc _) (w6.heap.size + 1) (some ⟨w6.heap.size, 0, none⟩) 1 1 [strV (tkC sn (nS tkC 1 st)).1] (by rfl) (reads_one (Blk.new w6 9 #[strV (tkC sn (nS tkC 1 st)).1])) (by simp [Value.oneCell']) (by unfold maxLen; omega) (by omega) (by rw [World.size_alloc]; have := D6.bp; have := D6.Q.lt; omega) ?_; intro v1 w7 hown1 hgrow hat; obtain ⟨a1, c1, rfl⟩ := own_form hown1; have Q7 := blk_row (D6.Q.alloc (.cells #[strV (tkC sn (nS tkC 1 st)).1] 9)) (D6.oS.alloc (.cells #[strV (tkC sn (nS tkC 1 st)).1] 9)) hgrow (by decide); have s0 := Q7.cell 1; have f0 := Q7.frozen 1)))
            all_goals
              have D8 := Lib.hid ((D6.alloc (.cells #[strV (tkC sn (nS tkC 1 st)).1] 9)).pushS (by decide) (x := (tkC sn (nS tkC 1 st)).1) hgrow hown1)
              have R8 := Lib.hid (((r6.alloc (.cells #[strV (tkC sn (nS tkC 1 st)).1] 9)).grown hgrow (fun j e => by have := ((D6.oS).lt j e).1; omega)).grown (grown_set w7 (g + 1) 1 (.slice a1 (q.S.length + 1) c1)) (fun j e => by have := Option.some.inj e; have := HD.out.bp; omega))
              go_wp2_with fail
              go_roundw
              case rel =>
                refine ⟨k, (tkC sn (nS tkC 1 st)).2, ⟨q.AF, q.cF, q.L, a1, c1, q.S ++ [(tkC sn (nS tkC 1 st)).1], q.AM, q.cM, q.M⟩, by first | rfl | go_num, by simp; omega, ?_, ?_, R8, D8, hk1, hk2, hk3⟩
                · rw [HE1.out, HRC.out, List.append_assoc]; rfl
                · rw [HE2.out, HRC.out]
              case measure => simp [intOf]
          · have HGO := Lib.hid (show rStrs tkC k st = ([], st) by
              cases k with
              | zero => rfl
              | succ k =>
                rw [rStrs, if_pos (by
                  cases hb : st.2
                  · exact absurd ⟨hb, Nat.succ_pos _⟩ hgo
                  · rfl)])
            have HF := Lib.hid (show rStrs tkC ns sA = (q.S, st) by rw [← Prod.eta (rStrs tkC ns sA), HE1.out, HE2.out, HGO.out, List.append_nil])
            clear q0c
            have HGOH := Lib.hid hgo
            clear hgo HGO HE1 HE2
            have hCASE : (0 < k ∧ st.2 = true) ∨ ¬ 0 < k := by
              by_cases hk0 : 0 < k
              · left
                refine ⟨hk0, ?_⟩
                cases hb : st.2
                · exact absurd ⟨hb, hk0⟩ HGOH.out
                · rfl
              · exact .inr hk0
            rcases hCASE with ⟨hk0, hbad⟩ | hk0
            · have fk : decide ((0 : Int) < (k : Int)) = true := decide_eq_true (by omega)
              rw [hbad] at cb
              have HBD := Lib.hid hbad
              clear hbad
              go_wp2_with fail
              have HSS := Lib.hid (show q.S = (rStrs tkC ns sA).1 by rw [HF.out])
              have HSB := Lib.hid (show (rStrs tkC ns sA).2 = st by rw [HF.out])
              obtain ⟨sB, hsB⟩ : ∃ sB, sB = st := ⟨_, rfl⟩
              generalize hSS : (rStrs tkC ns sA).1 = SS at HSS
              obtain ⟨wo2, rfl⟩ : ∃ wo2 : World, wo2 = wr := ⟨_, rfl⟩
              subst hsB
              have HSSE := Lib.hid hSS
              clear hSS
              go_loopw [8] (fun i wr => ∃ (k : Nat) (st : St) (q : PrMem), i = .int .i64 k ∧ q.M.length + k ≤ nm ∧ (rFms tkC nm sB).1 = (q.M.map (·.fm)) ++ (rFms tkC k st).1 ∧ (rFms tkC nm sB).2 = (rFms tkC k st).2 ∧ Hid (RdAt wr g st) ∧ Hid (DecSt w wr g (g + 1) 104 q) ∧ q.L.map (·.fn) = FF ∧ q.L.length ≤ 255 ∧ q.S = SS ∧ q.S.length ≤ 255) (fun i _ => (intOf i).toNat)
              case atStart => exact ⟨nm, sB, q, rfl, by rw [hk3]; simp, by rw [hk3]; rfl, rfl, HR, HD, hk1, hk2, HSS.out, by omega⟩
              case round =>
                obtain ⟨k, st, q, rfl, hk, he1, he2, HR, HD, hkeep⟩ := hrel
                obtain ⟨hk1, hk2, hk3, hk4⟩ := hkeep
                have HK1 := Lib.hid hk1
                have HK3 := Lib.hid hk3
                clear hk1 hk3
                have HE1 := Lib.hid he1
                have HE2 := Lib.hid he2
                have cb := HR.out.cell
                have hgw := HR.out.lt
                have q0c := HD.out.Q.cell 2
                clear he1 he2
                by_cases hgo : st.2 = false ∧ 0 < k
                · obtain ⟨hbad, hk0⟩ := hgo
                  rw [hbad] at cb
                  obtain ⟨k, rfl⟩ : ∃ j, k = j + 1 := ⟨k - 1, by omega⟩
                  have fk : decide ((0 : Int) < ((k + 1 : Nat) : Int)) = true := decide_eq_true (by omega)
                  have HBAD := Lib.hid (show ¬ st.2 = true by rw [hbad]; decide)
                  clear hbad
                  have HTr := Lib.hid (HT.out.next HD.out.low)
                  have HRC := Lib.hid (show rFms tkC (k + 1) st = ((rFm tkC st).1 :: (rFms tkC k (rFm tkC st).2).1, (rFms tkC k (rFm tkC st).2).2) by rw [rFms, if_neg HBAD.out])
                  have W1 : IntKind.i64.wrap (((k + 1 : Nat) : Int) - 1) = (k : Int) := (IntWalk.i64_in _ (by omega)).trans (by omega)
                  go_wp2_with fail
                  go_region_law (first
                  | ((refine step_call (by rfl) 58 #[.tmp 73] #[101] (by rfl) Tryd.f58 Tryd.func58 (by kernel_rfl) (by kernel_rfl) #[.pointer (some ⟨g, 0, none⟩)] (by rfl) (c58 g st wr.drew HR.out) ?_; rintro e w6 ⟨x, rfl, hx, hxo, r6, g6⟩; refine ⟨_, rfl, ?_⟩; have D6 := HD.out.drew.read g6 (RdAt.blk r6); have z0 := D6.Q.cell 2; have z1 := (D6.alloc (.cells #[.int .i64 x.fm.kind, .int .i64 x.fm.a, .int .i64 x.fm.b, .slice x.ad x.fm.cons.length x.cap] 63)).Q.cell 2; have HX := Lib.hid hx; clear hx))
                  | ((refine step_append_any (w6.alloc (.cells #[.int .i64 x.fm.kind, .int .i64 x.fm.a, .int .i64 x.fm.b, .slice x.ad x.fm.cons.length x.cap] 63)) (by rfl) (.tmp 72) (.tmp 75) 40 (by rfl) (g + 1) 63 i63 _ 4 48 Tryd.underlying40 fi63 gz60 gz61 gz62 rfl (by omega) (.slice q.AM q.M.length q.cM) q.M.length (q.M.flatMap Fmv.cells) (by rfl) (D6.oM.alloc _) (w6.heap.size + 1) (some ⟨w6.heap.size, 0, none⟩) 1 1 [.int .i64 x.fm.kind, .int .i64 x.fm.a, .int .i64 x.fm.b, .slice x.ad x.fm.cons.length x.cap] (by rfl) (reads_row4 (Blk.new w6 63 #[.int .i64 x.fm.kind, .int .i64 x.fm.a, .int .i64 x.fm.b, .slice x.ad x.fm.cons.length x.cap])) (by simp [Value.oneCell']) (by unfold maxLen; omega) (by omega) (by rw [World.size_alloc]; have := D6.bp; have := D6.Q.lt; omega) ?_; intro v1 w7 hown1 hgrow hat; obtain ⟨a1, c1, rfl⟩ := own_form hown1; have Q7 := blk_row (D6.Q.alloc (.cells #[.int .i64 x.fm.kind, .int .i64 x.fm.a, .int .i64 x.fm.b, .slice x.ad x.fm.cons.length x.cap] 63)) (D6.oM.alloc (.cells #[.int .i64 x.fm.kind, .int .i64 x.fm.a, .int .i64 x.fm.b, .slice x.ad x.fm.cons.length x.cap] 63)) hgrow (by decide); have s0 := Q7.cell 2; have f0 := Q7.frozen 2)))
                  all_goals
                    have D8 := Lib.hid ((D6.alloc (.cells #[.int .i64 x.fm.kind, .int .i64 x.fm.a, .int .i64 x.fm.b, .slice x.ad x.fm.cons.length x.cap] 63)).pushM (by decide) (x := x) ⟨own_mono (hxo.1.alloc (.cells #[.int .i64 x.fm.kind, .int .i64 x.fm.a, .int .i64 x.fm.b, .slice x.ad x.fm.cons.length x.cap] 63)) (by rw [World.size_drew]; have := HD.out.bp; have := HD.out.Q.lt; omega), hxo.2⟩ hgrow hown1)
                    have R8 := Lib.hid (((r6.alloc (.cells #[.int .i64 x.fm.kind, .int .i64 x.fm.a, .int .i64 x.fm.b, .slice x.ad x.fm.cons.length x.cap] 63)).grown hgrow (fun j e => by have := ((D6.oM).lt j e).1; omega)).grown (grown_set w7 (g + 1) 2 (.slice a1 (q.M.length + 1) c1)) (fun j e => by have := Option.some.inj e; have := HD.out.bp; omega))
                    go_wp2_with fail
                    go_roundw
                    case rel =>
                      refine ⟨k, (rFm tkC st).2, ⟨q.AF, q.cF, q.L, q.AS, q.cS, q.S, a1, c1, q.M ++ [x]⟩, by first | rfl | go_num, by simp; omega, ?_, ?_, R8, D8, HK1.out, hk2, HK3.out, hk4⟩
                      · rw [HE1.out, HRC.out, List.map_append, List.append_assoc, ← HX.out]; rfl
                      · rw [HE2.out, HRC.out]
                    case measure => simp [intOf]
                · have HGO := Lib.hid (show rFms tkC k st = ([], st) by
                    cases k with
                    | zero => rfl
                    | succ k =>
                      rw [rFms, if_pos (by
                        cases hb : st.2
                        · exact absurd ⟨hb, Nat.succ_pos _⟩ hgo
                        · rfl)])
                  have HF := Lib.hid (show rFms tkC nm sB = ((q.M.map (·.fm)), st) by rw [← Prod.eta (rFms tkC nm sB), HE1.out, HE2.out, HGO.out, List.append_nil])
                  clear q0c
                  have y0 := HD.out.Q.cell 0
                  have y1 := HD.out.Q.cell 1
                  have y2 := HD.out.Q.cell 2
                  have HGOH := Lib.hid hgo
                  clear hgo HGO HE1 HE2
                  have hCASE : (0 < k ∧ st.2 = true) ∨ ¬ 0 < k := by
                    by_cases hk0 : 0 < k
                    · left
                      refine ⟨hk0, ?_⟩
                      cases hb : st.2
                      · exact absurd ⟨hb, hk0⟩ HGOH.out
                      · rfl
                    · exact .inr hk0
                  rcases hCASE with ⟨hk0, hbad⟩ | hk0
                  · have fk : decide ((0 : Int) < (k : Int)) = true := decide_eq_true (by omega)
                    rw [hbad] at cb
                    have HBD := Lib.hid hbad
                    clear hbad
                    go_wp2_with fail
                    have hL2 : q.L.length ≤ 65536 := by omega
                    have hS2 : q.S.length ≤ 65536 := by have := hk4; omega
                    have hM2 : q.M.length ≤ 65536 := by omega
                    have HPQ := Lib.hid (show rPr tkC 38 (b, false) = (q.pr, st) by
                      rw [HPR.out, HFB.out, HSB.out, HF.out]
                      unfold PrMem.pr
                      rw [HK1.out, HK3.out, ← HFFE.out, ← HSSE.out])
                    have HOK := Lib.hid (HD.out.ok hL2 hS2 hM2)
                    refine (c28 q wr (HT.out.next HD.out.low) HOK.out).mono ?_
                    rintro e w8 ⟨v8, rfl, ho8, b8⟩
                    obtain ⟨a8, c8, rfl⟩ := own_form ho8
                    have P8 := HD.out.P.next b8
                    have Q8 := HD.out.Q.next b8
                    have B8 := Lib.hid (HD.out.low.trans (b8.mono HD.out.low.size))
                    have R8 : ∃ A' c', Blk w8 g 104 #[.slice A' st.1.length c', .bool st.2] := by
                      obtain ⟨A', c', hbk, _⟩ := HR.out
                      exact ⟨A', c', hbk.next b8⟩
                    obtain ⟨A', c', R8⟩ := R8
                    have rc := R8.cell 1
                    have p0 := P8.cell 0
                    have p1 := P8.cell 1
                    have p2 := P8.cell 2
                    have pf0 := P8.frozen 0
                    have pf1 := P8.frozen 1
                    have pf2 := P8.frozen 2
                    have x0 := Q8.cell 0
                    have x1 := Q8.cell 1
                    have x2 := Q8.cell 2
                    have HRO := Lib.hid (Reads.of_own ho8)
                    have HRB8 := Lib.hid (HRB.out.below B8.out)
                    have HDEC := Lib.hid (show dec b = if st.2 = false ∧ gPr q.pr = true ∧ ePr q.pr = b then some q.pr else none by unfold dec; rw [HPQ.out])
                    have B88 := Lib.hid b8
                    clear b8 ho8 y0 y1 y2
                    cases hst : st.2
                    · have HST := Lib.hid hst
                      rw [hst] at rc
                      clear hst
                      cases hgp : gPr q.pr
                      · have HGP := Lib.hid hgp
                        clear hgp
                        have HD0 := Lib.hid (show dec b = none by rw [HDEC.out, if_neg]; rw [HGP.out]; rintro ⟨_, h, _⟩; cases h)
                        go_wp2_with fail
                        exact end31 P8 rfl (q := ⟨none, 0, [], none, 0, [], none, 0, []⟩) (ok := false) rfl (by rw [HD0.out]; rfl) (by rw [HD0.out]; rfl) (.inr rfl) B8.out _ rfl rfl rfl
                      · have HGP := Lib.hid hgp
                        have HGE := Lib.hid (show gEnc q.pr = ePr q.pr by unfold gEnc; rw [hgp]; rfl)
                        clear hgp
                        go_wp2_with fail
                        refine (c59 (gEnc q.pr) b a8 A c8 c _ _ w8 HRO.out HRB8.out).mono ?_
                        rintro e w9 ⟨rfl, rfl⟩
                        by_cases heq : gEnc q.pr = b
                        · have hbe : (gEnc q.pr == b) = true := by rw [heq]; exact beq_self_eq_true b
                          have HD1 := Lib.hid (show dec b = some q.pr by rw [HDEC.out, if_pos ⟨HST.out, HGP.out, HGE.out.symm.trans heq⟩])
                          clear heq
                          rw [hbe]
                          go_wp2_with fail
                          exact end31 P8 rfl (q := q) (ok := true) rfl (by rw [HD1.out]; rfl) (by rw [HD1.out]; rfl) (.inl ⟨wr, g, g + 1, 104, HD.out, B88.out, hL2, hS2, hM2⟩) B8.out _ rfl rfl rfl
                        · have hbe : (gEnc q.pr == b) = false := beq_eq_false_iff_ne.2 heq
                          have HD1 := Lib.hid (show dec b = none by rw [HDEC.out, if_neg]; rintro ⟨_, _, h⟩; exact heq (HGE.out.trans h))
                          clear heq
                          rw [hbe]
                          go_wp2_with fail
                          exact end31 P8 rfl (q := ⟨none, 0, [], none, 0, [], none, 0, []⟩) (ok := false) rfl (by rw [HD1.out]; rfl) (by rw [HD1.out]; rfl) (.inr rfl) B8.out _ rfl rfl rfl
                    · have HST := Lib.hid hst
                      rw [hst] at rc
                      clear hst
                      have HD0 := Lib.hid (show dec b = none by rw [HDEC.out, if_neg]; rw [HST.out]; rintro ⟨h, _⟩; cases h)
                      go_wp2_with fail
                      exact end31 P8 rfl (q := ⟨none, 0, [], none, 0, [], none, 0, []⟩) (ok := false) rfl (by rw [HD0.out]; rfl) (by rw [HD0.out]; rfl) (.inr rfl) B8.out _ rfl rfl rfl
                  · have fk : decide ((0 : Int) < (k : Int)) = false := decide_eq_false (by omega)
                    clear cb
                    go_wp2_with fail
                    have hL2 : q.L.length ≤ 65536 := by omega
                    have hS2 : q.S.length ≤ 65536 := by have := hk4; omega
                    have hM2 : q.M.length ≤ 65536 := by omega
                    have HPQ := Lib.hid (show rPr tkC 38 (b, false) = (q.pr, st) by
                      rw [HPR.out, HFB.out, HSB.out, HF.out]
                      unfold PrMem.pr
                      rw [HK1.out, HK3.out, ← HFFE.out, ← HSSE.out])
                    have HOK := Lib.hid (HD.out.ok hL2 hS2 hM2)
                    refine (c28 q wr (HT.out.next HD.out.low) HOK.out).mono ?_
                    rintro e w8 ⟨v8, rfl, ho8, b8⟩
                    obtain ⟨a8, c8, rfl⟩ := own_form ho8
                    have P8 := HD.out.P.next b8
                    have Q8 := HD.out.Q.next b8
                    have B8 := Lib.hid (HD.out.low.trans (b8.mono HD.out.low.size))
                    have R8 : ∃ A' c', Blk w8 g 104 #[.slice A' st.1.length c', .bool st.2] := by
                      obtain ⟨A', c', hbk, _⟩ := HR.out
                      exact ⟨A', c', hbk.next b8⟩
                    obtain ⟨A', c', R8⟩ := R8
                    have rc := R8.cell 1
                    have p0 := P8.cell 0
                    have p1 := P8.cell 1
                    have p2 := P8.cell 2
                    have pf0 := P8.frozen 0
                    have pf1 := P8.frozen 1
                    have pf2 := P8.frozen 2
                    have x0 := Q8.cell 0
                    have x1 := Q8.cell 1
                    have x2 := Q8.cell 2
                    have HRO := Lib.hid (Reads.of_own ho8)
                    have HRB8 := Lib.hid (HRB.out.below B8.out)
                    have HDEC := Lib.hid (show dec b = if st.2 = false ∧ gPr q.pr = true ∧ ePr q.pr = b then some q.pr else none by unfold dec; rw [HPQ.out])
                    have B88 := Lib.hid b8
                    clear b8 ho8 y0 y1 y2
                    cases hst : st.2
                    · have HST := Lib.hid hst
                      rw [hst] at rc
                      clear hst
                      cases hgp : gPr q.pr
                      · have HGP := Lib.hid hgp
                        clear hgp
                        have HD0 := Lib.hid (show dec b = none by rw [HDEC.out, if_neg]; rw [HGP.out]; rintro ⟨_, h, _⟩; cases h)
                        go_wp2_with fail
                        exact end31 P8 rfl (q := ⟨none, 0, [], none, 0, [], none, 0, []⟩) (ok := false) rfl (by rw [HD0.out]; rfl) (by rw [HD0.out]; rfl) (.inr rfl) B8.out _ rfl rfl rfl
                      · have HGP := Lib.hid hgp
                        have HGE := Lib.hid (show gEnc q.pr = ePr q.pr by unfold gEnc; rw [hgp]; rfl)
                        clear hgp
                        go_wp2_with fail
                        refine (c59 (gEnc q.pr) b a8 A c8 c _ _ w8 HRO.out HRB8.out).mono ?_
                        rintro e w9 ⟨rfl, rfl⟩
                        by_cases heq : gEnc q.pr = b
                        · have hbe : (gEnc q.pr == b) = true := by rw [heq]; exact beq_self_eq_true b
                          have HD1 := Lib.hid (show dec b = some q.pr by rw [HDEC.out, if_pos ⟨HST.out, HGP.out, HGE.out.symm.trans heq⟩])
                          clear heq
                          rw [hbe]
                          go_wp2_with fail
                          exact end31 P8 rfl (q := q) (ok := true) rfl (by rw [HD1.out]; rfl) (by rw [HD1.out]; rfl) (.inl ⟨wr, g, g + 1, 104, HD.out, B88.out, hL2, hS2, hM2⟩) B8.out _ rfl rfl rfl
                        · have hbe : (gEnc q.pr == b) = false := beq_eq_false_iff_ne.2 heq
                          have HD1 := Lib.hid (show dec b = none by rw [HDEC.out, if_neg]; rintro ⟨_, _, h⟩; exact heq (HGE.out.trans h))
                          clear heq
                          rw [hbe]
                          go_wp2_with fail
                          exact end31 P8 rfl (q := ⟨none, 0, [], none, 0, [], none, 0, []⟩) (ok := false) rfl (by rw [HD1.out]; rfl) (by rw [HD1.out]; rfl) (.inr rfl) B8.out _ rfl rfl rfl
                    · have HST := Lib.hid hst
                      rw [hst] at rc
                      clear hst
                      have HD0 := Lib.hid (show dec b = none by rw [HDEC.out, if_neg]; rw [HST.out]; rintro ⟨h, _⟩; cases h)
                      go_wp2_with fail
                      exact end31 P8 rfl (q := ⟨none, 0, [], none, 0, [], none, 0, []⟩) (ok := false) rfl (by rw [HD0.out]; rfl) (by rw [HD0.out]; rfl) (.inr rfl) B8.out _ rfl rfl rfl
            · have fk : decide ((0 : Int) < (k : Int)) = false := decide_eq_false (by omega)
              clear cb
              go_wp2_with fail
              have HSS := Lib.hid (show q.S = (rStrs tkC ns sA).1 by rw [HF.out])
              have HSB := Lib.hid (show (rStrs tkC ns sA).2 = st by rw [HF.out])
              obtain ⟨sB, hsB⟩ : ∃ sB, sB = st := ⟨_, rfl⟩
              generalize hSS : (rStrs tkC ns sA).1 = SS at HSS
              obtain ⟨wo2, rfl⟩ : ∃ wo2 : World, wo2 = wr := ⟨_, rfl⟩
              subst hsB
              have HSSE := Lib.hid hSS
              clear hSS
              go_loopw [8] (fun i wr => ∃ (k : Nat) (st : St) (q : PrMem), i = .int .i64 k ∧ q.M.length + k ≤ nm ∧ (rFms tkC nm sB).1 = (q.M.map (·.fm)) ++ (rFms tkC k st).1 ∧ (rFms tkC nm sB).2 = (rFms tkC k st).2 ∧ Hid (RdAt wr g st) ∧ Hid (DecSt w wr g (g + 1) 104 q) ∧ q.L.map (·.fn) = FF ∧ q.L.length ≤ 255 ∧ q.S = SS ∧ q.S.length ≤ 255) (fun i _ => (intOf i).toNat)
              case atStart => exact ⟨nm, sB, q, rfl, by rw [hk3]; simp, by rw [hk3]; rfl, rfl, HR, HD, hk1, hk2, HSS.out, by omega⟩
              case round =>
                obtain ⟨k, st, q, rfl, hk, he1, he2, HR, HD, hkeep⟩ := hrel
                obtain ⟨hk1, hk2, hk3, hk4⟩ := hkeep
                have HK1 := Lib.hid hk1
                have HK3 := Lib.hid hk3
                clear hk1 hk3
                have HE1 := Lib.hid he1
                have HE2 := Lib.hid he2
                have cb := HR.out.cell
                have hgw := HR.out.lt
                have q0c := HD.out.Q.cell 2
                clear he1 he2
                by_cases hgo : st.2 = false ∧ 0 < k
                · obtain ⟨hbad, hk0⟩ := hgo
                  rw [hbad] at cb
                  obtain ⟨k, rfl⟩ : ∃ j, k = j + 1 := ⟨k - 1, by omega⟩
                  have fk : decide ((0 : Int) < ((k + 1 : Nat) : Int)) = true := decide_eq_true (by omega)
                  have HBAD := Lib.hid (show ¬ st.2 = true by rw [hbad]; decide)
                  clear hbad
                  have HTr := Lib.hid (HT.out.next HD.out.low)
                  have HRC := Lib.hid (show rFms tkC (k + 1) st = ((rFm tkC st).1 :: (rFms tkC k (rFm tkC st).2).1, (rFms tkC k (rFm tkC st).2).2) by rw [rFms, if_neg HBAD.out])
                  have W1 : IntKind.i64.wrap (((k + 1 : Nat) : Int) - 1) = (k : Int) := (IntWalk.i64_in _ (by omega)).trans (by omega)
                  go_wp2_with fail
                  go_region_law (first
                  | ((refine step_call (by rfl) 58 #[.tmp 73] #[101] (by rfl) Tryd.f58 Tryd.func58 (by kernel_rfl) (by kernel_rfl) #[.pointer (some ⟨g, 0, none⟩)] (by rfl) (c58 g st wr.drew HR.out) ?_; rintro e w6 ⟨x, rfl, hx, hxo, r6, g6⟩; refine ⟨_, rfl, ?_⟩; have D6 := HD.out.drew.read g6 (RdAt.blk r6); have z0 := D6.Q.cell 2; have z1 := (D6.alloc (.cells #[.int .i64 x.fm.kind, .int .i64 x.fm.a, .int .i64 x.fm.b, .slice x.ad x.fm.cons.length x.cap] 63)).Q.cell 2; have HX := Lib.hid hx; clear hx))
                  | ((refine step_append_any (w6.alloc (.cells #[.int .i64 x.fm.kind, .int .i64 x.fm.a, .int .i64 x.fm.b, .slice x.ad x.fm.cons.length x.cap] 63)) (by rfl) (.tmp 72) (.tmp 75) 40 (by rfl) (g + 1) 63 i63 _ 4 48 Tryd.underlying40 fi63 gz60 gz61 gz62 rfl (by omega) (.slice q.AM q.M.length q.cM) q.M.length (q.M.flatMap Fmv.cells) (by rfl) (D6.oM.alloc _) (w6.heap.size + 1) (some ⟨w6.heap.size, 0, none⟩) 1 1 [.int .i64 x.fm.kind, .int .i64 x.fm.a, .int .i64 x.fm.b, .slice x.ad x.fm.cons.length x.cap] (by rfl) (reads_row4 (Blk.new w6 63 #[.int .i64 x.fm.kind, .int .i64 x.fm.a, .int .i64 x.fm.b, .slice x.ad x.fm.cons.length x.cap])) (by simp [Value.oneCell']) (by unfold maxLen; omega) (by omega) (by rw [World.size_alloc]; have := D6.bp; have := D6.Q.lt; omega) ?_; intro v1 w7 hown1 hgrow hat; obtain ⟨a1, c1, rfl⟩ := own_form hown1; have Q7 := blk_row (D6.Q.alloc (.cells #[.int .i64 x.fm.kind, .int .i64 x.fm.a, .int .i64 x.fm.b, .slice x.ad x.fm.cons.length x.cap] 63)) (D6.oM.alloc (.cells #[.int .i64 x.fm.kind, .int .i64 x.fm.a, .int .i64 x.fm.b, .slice x.ad x.fm.cons.length x.cap] 63)) hgrow (by decide); have s0 := Q7.cell 2; have f0 := Q7.frozen 2)))
                  all_goals
                    have D8 := Lib.hid ((D6.alloc (.cells #[.int .i64 x.fm.kind, .int .i64 x.fm.a, .int .i64 x.fm.b, .slice x.ad x.fm.cons.length x.cap] 63)).pushM (by decide) (x := x) ⟨own_mono (hxo.1.alloc (.cells #[.int .i64 x.fm.kind, .int .i64 x.fm.a, .int .i64 x.fm.b, .slice x.ad x.fm.cons.length x.cap] 63)) (by rw [World.size_drew]; have := HD.out.bp; have := HD.out.Q.lt; omega), hxo.2⟩ hgrow hown1)
                    have R8 := Lib.hid (((r6.alloc (.cells #[.int .i64 x.fm.kind, .int .i64 x.fm.a, .int .i64 x.fm.b, .slice x.ad x.fm.cons.length x.cap] 63)).grown hgrow (fun j e => by have := ((D6.oM).lt j e).1; omega)).grown (grown_set w7 (g + 1) 2 (.slice a1 (q.M.length + 1) c1)) (fun j e => by have := Option.some.inj e; have := HD.out.bp; omega))
                    go_wp2_with fail
                    go_roundw
                    case rel =>
                      refine ⟨k, (rFm tkC st).2, ⟨q.AF, q.cF, q.L, q.AS, q.cS, q.S, a1, c1, q.M ++ [x]⟩, by first | rfl | go_num, by simp; omega, ?_, ?_, R8, D8, HK1.out, hk2, HK3.out, hk4⟩
                      · rw [HE1.out, HRC.out, List.map_append, List.append_assoc, ← HX.out]; rfl
                      · rw [HE2.out, HRC.out]
                    case measure => simp [intOf]
                · have HGO := Lib.hid (show rFms tkC k st = ([], st) by
                    cases k with
                    | zero => rfl
                    | succ k =>
                      rw [rFms, if_pos (by
                        cases hb : st.2
                        · exact absurd ⟨hb, Nat.succ_pos _⟩ hgo
                        · rfl)])
                  have HF := Lib.hid (show rFms tkC nm sB = ((q.M.map (·.fm)), st) by rw [← Prod.eta (rFms tkC nm sB), HE1.out, HE2.out, HGO.out, List.append_nil])
                  clear q0c
                  have y0 := HD.out.Q.cell 0
                  have y1 := HD.out.Q.cell 1
                  have y2 := HD.out.Q.cell 2
                  have HGOH := Lib.hid hgo
                  clear hgo HGO HE1 HE2
                  have hCASE : (0 < k ∧ st.2 = true) ∨ ¬ 0 < k := by
                    by_cases hk0 : 0 < k
                    · left
                      refine ⟨hk0, ?_⟩
                      cases hb : st.2
                      · exact absurd ⟨hb, hk0⟩ HGOH.out
                      · rfl
                    · exact .inr hk0
                  rcases hCASE with ⟨hk0, hbad⟩ | hk0
                  · have fk : decide ((0 : Int) < (k : Int)) = true := decide_eq_true (by omega)
                    rw [hbad] at cb
                    have HBD := Lib.hid hbad
                    clear hbad
                    go_wp2_with fail
                    have hL2 : q.L.length ≤ 65536 := by omega
                    have hS2 : q.S.length ≤ 65536 := by have := hk4; omega
                    have hM2 : q.M.length ≤ 65536 := by omega
                    have HPQ := Lib.hid (show rPr tkC 38 (b, false) = (q.pr, st) by
                      rw [HPR.out, HFB.out, HSB.out, HF.out]
                      unfold PrMem.pr
                      rw [HK1.out, HK3.out, ← HFFE.out, ← HSSE.out])
                    have HOK := Lib.hid (HD.out.ok hL2 hS2 hM2)
                    refine (c28 q wr (HT.out.next HD.out.low) HOK.out).mono ?_
                    rintro e w8 ⟨v8, rfl, ho8, b8⟩
                    obtain ⟨a8, c8, rfl⟩ := own_form ho8
                    have P8 := HD.out.P.next b8
                    have Q8 := HD.out.Q.next b8
                    have B8 := Lib.hid (HD.out.low.trans (b8.mono HD.out.low.size))
                    have R8 : ∃ A' c', Blk w8 g 104 #[.slice A' st.1.length c', .bool st.2] := by
                      obtain ⟨A', c', hbk, _⟩ := HR.out
                      exact ⟨A', c', hbk.next b8⟩
                    obtain ⟨A', c', R8⟩ := R8
                    have rc := R8.cell 1
                    have p0 := P8.cell 0
                    have p1 := P8.cell 1
                    have p2 := P8.cell 2
                    have pf0 := P8.frozen 0
                    have pf1 := P8.frozen 1
                    have pf2 := P8.frozen 2
                    have x0 := Q8.cell 0
                    have x1 := Q8.cell 1
                    have x2 := Q8.cell 2
                    have HRO := Lib.hid (Reads.of_own ho8)
                    have HRB8 := Lib.hid (HRB.out.below B8.out)
                    have HDEC := Lib.hid (show dec b = if st.2 = false ∧ gPr q.pr = true ∧ ePr q.pr = b then some q.pr else none by unfold dec; rw [HPQ.out])
                    have B88 := Lib.hid b8
                    clear b8 ho8 y0 y1 y2
                    cases hst : st.2
                    · have HST := Lib.hid hst
                      rw [hst] at rc
                      clear hst
                      cases hgp : gPr q.pr
                      · have HGP := Lib.hid hgp
                        clear hgp
                        have HD0 := Lib.hid (show dec b = none by rw [HDEC.out, if_neg]; rw [HGP.out]; rintro ⟨_, h, _⟩; cases h)
                        go_wp2_with fail
                        exact end31 P8 rfl (q := ⟨none, 0, [], none, 0, [], none, 0, []⟩) (ok := false) rfl (by rw [HD0.out]; rfl) (by rw [HD0.out]; rfl) (.inr rfl) B8.out _ rfl rfl rfl
                      · have HGP := Lib.hid hgp
                        have HGE := Lib.hid (show gEnc q.pr = ePr q.pr by unfold gEnc; rw [hgp]; rfl)
                        clear hgp
                        go_wp2_with fail
                        refine (c59 (gEnc q.pr) b a8 A c8 c _ _ w8 HRO.out HRB8.out).mono ?_
                        rintro e w9 ⟨rfl, rfl⟩
                        by_cases heq : gEnc q.pr = b
                        · have hbe : (gEnc q.pr == b) = true := by rw [heq]; exact beq_self_eq_true b
                          have HD1 := Lib.hid (show dec b = some q.pr by rw [HDEC.out, if_pos ⟨HST.out, HGP.out, HGE.out.symm.trans heq⟩])
                          clear heq
                          rw [hbe]
                          go_wp2_with fail
                          exact end31 P8 rfl (q := q) (ok := true) rfl (by rw [HD1.out]; rfl) (by rw [HD1.out]; rfl) (.inl ⟨wr, g, g + 1, 104, HD.out, B88.out, hL2, hS2, hM2⟩) B8.out _ rfl rfl rfl
                        · have hbe : (gEnc q.pr == b) = false := beq_eq_false_iff_ne.2 heq
                          have HD1 := Lib.hid (show dec b = none by rw [HDEC.out, if_neg]; rintro ⟨_, _, h⟩; exact heq (HGE.out.trans h))
                          clear heq
                          rw [hbe]
                          go_wp2_with fail
                          exact end31 P8 rfl (q := ⟨none, 0, [], none, 0, [], none, 0, []⟩) (ok := false) rfl (by rw [HD1.out]; rfl) (by rw [HD1.out]; rfl) (.inr rfl) B8.out _ rfl rfl rfl
                    · have HST := Lib.hid hst
                      rw [hst] at rc
                      clear hst
                      have HD0 := Lib.hid (show dec b = none by rw [HDEC.out, if_neg]; rw [HST.out]; rintro ⟨h, _⟩; cases h)
                      go_wp2_with fail
                      exact end31 P8 rfl (q := ⟨none, 0, [], none, 0, [], none, 0, []⟩) (ok := false) rfl (by rw [HD0.out]; rfl) (by rw [HD0.out]; rfl) (.inr rfl) B8.out _ rfl rfl rfl
                  · have fk : decide ((0 : Int) < (k : Int)) = false := decide_eq_false (by omega)
                    clear cb
                    go_wp2_with fail
                    have hL2 : q.L.length ≤ 65536 := by omega
                    have hS2 : q.S.length ≤ 65536 := by have := hk4; omega
                    have hM2 : q.M.length ≤ 65536 := by omega
                    have HPQ := Lib.hid (show rPr tkC 38 (b, false) = (q.pr, st) by
                      rw [HPR.out, HFB.out, HSB.out, HF.out]
                      unfold PrMem.pr
                      rw [HK1.out, HK3.out, ← HFFE.out, ← HSSE.out])
                    have HOK := Lib.hid (HD.out.ok hL2 hS2 hM2)
                    refine (c28 q wr (HT.out.next HD.out.low) HOK.out).mono ?_
                    rintro e w8 ⟨v8, rfl, ho8, b8⟩
                    obtain ⟨a8, c8, rfl⟩ := own_form ho8
                    have P8 := HD.out.P.next b8
                    have Q8 := HD.out.Q.next b8
                    have B8 := Lib.hid (HD.out.low.trans (b8.mono HD.out.low.size))
                    have R8 : ∃ A' c', Blk w8 g 104 #[.slice A' st.1.length c', .bool st.2] := by
                      obtain ⟨A', c', hbk, _⟩ := HR.out
                      exact ⟨A', c', hbk.next b8⟩
                    obtain ⟨A', c', R8⟩ := R8
                    have rc := R8.cell 1
                    have p0 := P8.cell 0
                    have p1 := P8.cell 1
                    have p2 := P8.cell 2
                    have pf0 := P8.frozen 0
                    have pf1 := P8.frozen 1
                    have pf2 := P8.frozen 2
                    have x0 := Q8.cell 0
                    have x1 := Q8.cell 1
                    have x2 := Q8.cell 2
                    have HRO := Lib.hid (Reads.of_own ho8)
                    have HRB8 := Lib.hid (HRB.out.below B8.out)
                    have HDEC := Lib.hid (show dec b = if st.2 = false ∧ gPr q.pr = true ∧ ePr q.pr = b then some q.pr else none by unfold dec; rw [HPQ.out])
                    have B88 := Lib.hid b8
                    clear b8 ho8 y0 y1 y2
                    cases hst : st.2
                    · have HST := Lib.hid hst
                      rw [hst] at rc
                      clear hst
                      cases hgp : gPr q.pr
                      · have HGP := Lib.hid hgp
                        clear hgp
                        have HD0 := Lib.hid (show dec b = none by rw [HDEC.out, if_neg]; rw [HGP.out]; rintro ⟨_, h, _⟩; cases h)
                        go_wp2_with fail
                        exact end31 P8 rfl (q := ⟨none, 0, [], none, 0, [], none, 0, []⟩) (ok := false) rfl (by rw [HD0.out]; rfl) (by rw [HD0.out]; rfl) (.inr rfl) B8.out _ rfl rfl rfl
                      · have HGP := Lib.hid hgp
                        have HGE := Lib.hid (show gEnc q.pr = ePr q.pr by unfold gEnc; rw [hgp]; rfl)
                        clear hgp
                        go_wp2_with fail
                        refine (c59 (gEnc q.pr) b a8 A c8 c _ _ w8 HRO.out HRB8.out).mono ?_
                        rintro e w9 ⟨rfl, rfl⟩
                        by_cases heq : gEnc q.pr = b
                        · have hbe : (gEnc q.pr == b) = true := by rw [heq]; exact beq_self_eq_true b
                          have HD1 := Lib.hid (show dec b = some q.pr by rw [HDEC.out, if_pos ⟨HST.out, HGP.out, HGE.out.symm.trans heq⟩])
                          clear heq
                          rw [hbe]
                          go_wp2_with fail
                          exact end31 P8 rfl (q := q) (ok := true) rfl (by rw [HD1.out]; rfl) (by rw [HD1.out]; rfl) (.inl ⟨wr, g, g + 1, 104, HD.out, B88.out, hL2, hS2, hM2⟩) B8.out _ rfl rfl rfl
                        · have hbe : (gEnc q.pr == b) = false := beq_eq_false_iff_ne.2 heq
                          have HD1 := Lib.hid (show dec b = none by rw [HDEC.out, if_neg]; rintro ⟨_, _, h⟩; exact heq (HGE.out.trans h))
                          clear heq
                          rw [hbe]
                          go_wp2_with fail
                          exact end31 P8 rfl (q := ⟨none, 0, [], none, 0, [], none, 0, []⟩) (ok := false) rfl (by rw [HD1.out]; rfl) (by rw [HD1.out]; rfl) (.inr rfl) B8.out _ rfl rfl rfl
                    · have HST := Lib.hid hst
                      rw [hst] at rc
                      clear hst
                      have HD0 := Lib.hid (show dec b = none by rw [HDEC.out, if_neg]; rw [HST.out]; rintro ⟨h, _⟩; cases h)
                      go_wp2_with fail
                      exact end31 P8 rfl (q := ⟨none, 0, [], none, 0, [], none, 0, []⟩) (ok := false) rfl (by rw [HD0.out]; rfl) (by rw [HD0.out]; rfl) (.inr rfl) B8.out _ rfl rfl rfl
      · have fk : decide ((0 : Int) < (k : Int)) = false := decide_eq_false (by omega)
        clear cb
        go_wp2_with fail
        have HFF := Lib.hid (show q.L.map (·.fn) = (rFns tkC 38 nf s3).1 by rw [HF.out])
        have HFB := Lib.hid (show (rFns tkC 38 nf s3).2 = st by rw [HF.out])
        obtain ⟨sA, hsA⟩ : ∃ sA, sA = st := ⟨_, rfl⟩
        generalize hFF : (rFns tkC 38 nf s3).1 = FF at HFF
        obtain ⟨wo1, rfl⟩ : ∃ wo1 : World, wo1 = wr := ⟨_, rfl⟩
        subst hsA
        have HFFE := Lib.hid hFF
        clear hFF
        go_loopw [7] (fun i wr => ∃ (k : Nat) (st : St) (q : PrMem), i = .int .i64 k ∧ q.S.length + k ≤ ns ∧ (rStrs tkC ns sA).1 = q.S ++ (rStrs tkC k st).1 ∧ (rStrs tkC ns sA).2 = (rStrs tkC k st).2 ∧ Hid (RdAt wr g st) ∧ Hid (DecSt w wr g (g + 1) 104 q) ∧ q.L.map (·.fn) = FF ∧ q.L.length ≤ 255 ∧ q.M = []) (fun i _ => (intOf i).toNat)
        case atStart => exact ⟨ns, sA, q, rfl, by rw [hk1]; simp, by rw [hk1]; rfl, rfl, HR, HD, HFF.out, by omega, hk2⟩
        case round =>
          obtain ⟨k, st, q, rfl, hk, he1, he2, HR, HD, hkeep⟩ := hrel
          obtain ⟨hk1, hk2, hk3⟩ := hkeep
          have HE1 := Lib.hid he1
          have HE2 := Lib.hid he2
          have cb := HR.out.cell
          have hgw := HR.out.lt
          have q0c := HD.out.Q.cell 1
          clear he1 he2
          by_cases hgo : st.2 = false ∧ 0 < k
          · obtain ⟨hbad, hk0⟩ := hgo
            rw [hbad] at cb
            obtain ⟨k, rfl⟩ : ∃ j, k = j + 1 := ⟨k - 1, by omega⟩
            have fk : decide ((0 : Int) < ((k + 1 : Nat) : Int)) = true := decide_eq_true (by omega)
            have HBAD := Lib.hid (show ¬ st.2 = true by rw [hbad]; decide)
            clear hbad
            have HTr := Lib.hid (HT.out.next HD.out.low)
            obtain ⟨sn, hsn⟩ : ∃ sn : Nat, nV tkC 1 st = sn := ⟨(nV tkC 1 st).toNat, by have := nV_range 1 st (by decide); omega⟩
            have hsn8 : sn < 256 := by have := nV_range 1 st (by decide); omega
            have HRC := Lib.hid (show rStrs tkC (k + 1) st = ((tkC sn (nS tkC 1 st)).1 :: (rStrs tkC k (tkC sn (nS tkC 1 st)).2).1, (rStrs tkC k (tkC sn (nS tkC 1 st)).2).2) by rw [rStrs, if_neg HBAD.out]; simp only [hsn, Int.toNat_natCast])
            have W1 : IntKind.i64.wrap (((k + 1 : Nat) : Int) - 1) = (k : Int) := (IntWalk.i64_in _ (by omega)).trans (by omega)
            go_wp2_with fail
            go_region_law (first
            | ((refine step_call (by rfl) 55 #[.tmp 53, .const (.int .i64 1)] #[101, 3] (by rfl) Tryd.f55 Tryd.func55 (by kernel_rfl) (by kernel_rfl) #[.pointer (some ⟨g, 0, none⟩), .int .i64 (1 : Nat)] (by rfl) (c55 g 1 st wr.drew HR.out (by decide)) ?_; rintro e w5 ⟨rfl, r5, g5⟩; refine ⟨_, rfl, ?_⟩; rw [hsn]; have D5 := HD.out.drew.read g5 (RdAt.blk r5); have z0 := D5.Q.cell 1))
            | ((refine step_call (by rfl) 57 #[.tmp 52, .tmp 54] #[101, 3] (by rfl) Tryd.f57 Tryd.func57 (by kernel_rfl) (by kernel_rfl) #[.pointer (some ⟨g, 0, none⟩), .int .i64 sn] (by rfl) (c57 g sn (nS tkC 1 st) w5 r5 (by omega)) ?_; rintro e w6 ⟨xA, xc, rfl, hxc, hxr, r6, g6⟩; refine ⟨_, rfl, ?_⟩; have D6 := D5.read g6 (RdAt.blk r6); have z1 := D6.Q.cell 1; have z2 := (D6.alloc (.cells #[strV (tkC sn (nS tkC 1 st)).1] 9)).Q.cell 1; have hcv := run_convN (c := xc) (tkC_len sn (nS tkC 1 st)) hxr))
            | ((refine step_append_any (w6.alloc (.cells #[strV (tkC sn (nS tkC 1 st)).1] 9)) (by rfl) (.tmp 51) (.tmp 57) 39 (by rfl) (g + 1) 9 i9 _ 1 16 Tryd.underlying39 fi9 hz90 hz91 hz92 rfl (by omega) (.slice q.AS q.S.length q.cS) q.S.length (q.S.map strV) (by rfl) (D6.oS.alloc _) (w6.heap.size + 1) (some ⟨w6.heap.size, 0, none⟩) 1 1 [strV (tkC sn (nS tkC 1 st)).1] (by rfl) (reads_one (Blk.new w6 9 #[strV (tkC sn (nS tkC 1 st)).1])) (by simp [Value.oneCell']) (by unfold maxLen; omega) (by omega) (by rw [World.size_alloc]; have := D6.bp; have := D6.Q.lt; omega) ?_; intro v1 w7 hown1 hgrow hat; obtain ⟨a1, c1, rfl⟩ := own_form hown1; have Q7 := blk_row (D6.Q.alloc (.cells #[strV (tkC sn (nS tkC 1 st)).1] 9)) (D6.oS.alloc (.cells #[strV (tkC sn (nS tkC 1 st)).1] 9)) hgrow (by decide); have s0 := Q7.cell 1; have f0 := Q7.frozen 1)))
            all_goals
              have D8 := Lib.hid ((D6.alloc (.cells #[strV (tkC sn (nS tkC 1 st)).1] 9)).pushS (by decide) (x := (tkC sn (nS tkC 1 st)).1) hgrow hown1)
              have R8 := Lib.hid (((r6.alloc (.cells #[strV (tkC sn (nS tkC 1 st)).1] 9)).grown hgrow (fun j e => by have := ((D6.oS).lt j e).1; omega)).grown (grown_set w7 (g + 1) 1 (.slice a1 (q.S.length + 1) c1)) (fun j e => by have := Option.some.inj e; have := HD.out.bp; omega))
              go_wp2_with fail
              go_roundw
              case rel =>
                refine ⟨k, (tkC sn (nS tkC 1 st)).2, ⟨q.AF, q.cF, q.L, a1, c1, q.S ++ [(tkC sn (nS tkC 1 st)).1], q.AM, q.cM, q.M⟩, by first | rfl | go_num, by simp; omega, ?_, ?_, R8, D8, hk1, hk2, hk3⟩
                · rw [HE1.out, HRC.out, List.append_assoc]; rfl
                · rw [HE2.out, HRC.out]
              case measure => simp [intOf]
          · have HGO := Lib.hid (show rStrs tkC k st = ([], st) by
              cases k with
              | zero => rfl
              | succ k =>
                rw [rStrs, if_pos (by
                  cases hb : st.2
                  · exact absurd ⟨hb, Nat.succ_pos _⟩ hgo
                  · rfl)])
            have HF := Lib.hid (show rStrs tkC ns sA = (q.S, st) by rw [← Prod.eta (rStrs tkC ns sA), HE1.out, HE2.out, HGO.out, List.append_nil])
            clear q0c
            have HGOH := Lib.hid hgo
            clear hgo HGO HE1 HE2
            have hCASE : (0 < k ∧ st.2 = true) ∨ ¬ 0 < k := by
              by_cases hk0 : 0 < k
              · left
                refine ⟨hk0, ?_⟩
                cases hb : st.2
                · exact absurd ⟨hb, hk0⟩ HGOH.out
                · rfl
              · exact .inr hk0
            rcases hCASE with ⟨hk0, hbad⟩ | hk0
            · have fk : decide ((0 : Int) < (k : Int)) = true := decide_eq_true (by omega)
              rw [hbad] at cb
              have HBD := Lib.hid hbad
              clear hbad
              go_wp2_with fail
              have HSS := Lib.hid (show q.S = (rStrs tkC ns sA).1 by rw [HF.out])
              have HSB := Lib.hid (show (rStrs tkC ns sA).2 = st by rw [HF.out])
              obtain ⟨sB, hsB⟩ : ∃ sB, sB = st := ⟨_, rfl⟩
              generalize hSS : (rStrs tkC ns sA).1 = SS at HSS
              obtain ⟨wo2, rfl⟩ : ∃ wo2 : World, wo2 = wr := ⟨_, rfl⟩
              subst hsB
              have HSSE := Lib.hid hSS
              clear hSS
              go_loopw [8] (fun i wr => ∃ (k : Nat) (st : St) (q : PrMem), i = .int .i64 k ∧ q.M.length + k ≤ nm ∧ (rFms tkC nm sB).1 = (q.M.map (·.fm)) ++ (rFms tkC k st).1 ∧ (rFms tkC nm sB).2 = (rFms tkC k st).2 ∧ Hid (RdAt wr g st) ∧ Hid (DecSt w wr g (g + 1) 104 q) ∧ q.L.map (·.fn) = FF ∧ q.L.length ≤ 255 ∧ q.S = SS ∧ q.S.length ≤ 255) (fun i _ => (intOf i).toNat)
              case atStart => exact ⟨nm, sB, q, rfl, by rw [hk3]; simp, by rw [hk3]; rfl, rfl, HR, HD, hk1, hk2, HSS.out, by omega⟩
              case round =>
                obtain ⟨k, st, q, rfl, hk, he1, he2, HR, HD, hkeep⟩ := hrel
                obtain ⟨hk1, hk2, hk3, hk4⟩ := hkeep
                have HK1 := Lib.hid hk1
                have HK3 := Lib.hid hk3
                clear hk1 hk3
                have HE1 := Lib.hid he1
                have HE2 := Lib.hid he2
                have cb := HR.out.cell
                have hgw := HR.out.lt
                have q0c := HD.out.Q.cell 2
                clear he1 he2
                by_cases hgo : st.2 = false ∧ 0 < k
                · obtain ⟨hbad, hk0⟩ := hgo
                  rw [hbad] at cb
                  obtain ⟨k, rfl⟩ : ∃ j, k = j + 1 := ⟨k - 1, by omega⟩
                  have fk : decide ((0 : Int) < ((k + 1 : Nat) : Int)) = true := decide_eq_true (by omega)
                  have HBAD := Lib.hid (show ¬ st.2 = true by rw [hbad]; decide)
                  clear hbad
                  have HTr := Lib.hid (HT.out.next HD.out.low)
                  have HRC := Lib.hid (show rFms tkC (k + 1) st = ((rFm tkC st).1 :: (rFms tkC k (rFm tkC st).2).1, (rFms tkC k (rFm tkC st).2).2) by rw [rFms, if_neg HBAD.out])
                  have W1 : IntKind.i64.wrap (((k + 1 : Nat) : Int) - 1) = (k : Int) := (IntWalk.i64_in _ (by omega)).trans (by omega)
                  go_wp2_with fail
                  go_region_law (first
                  | ((refine step_call (by rfl) 58 #[.tmp 73] #[101] (by rfl) Tryd.f58 Tryd.func58 (by kernel_rfl) (by kernel_rfl) #[.pointer (some ⟨g, 0, none⟩)] (by rfl) (c58 g st wr.drew HR.out) ?_; rintro e w6 ⟨x, rfl, hx, hxo, r6, g6⟩; refine ⟨_, rfl, ?_⟩; have D6 := HD.out.drew.read g6 (RdAt.blk r6); have z0 := D6.Q.cell 2; have z1 := (D6.alloc (.cells #[.int .i64 x.fm.kind, .int .i64 x.fm.a, .int .i64 x.fm.b, .slice x.ad x.fm.cons.length x.cap] 63)).Q.cell 2; have HX := Lib.hid hx; clear hx))
                  | ((refine step_append_any (w6.alloc (.cells #[.int .i64 x.fm.kind, .int .i64 x.fm.a, .int .i64 x.fm.b, .slice x.ad x.fm.cons.length x.cap] 63)) (by rfl) (.tmp 72) (.tmp 75) 40 (by rfl) (g + 1) 63 i63 _ 4 48 Tryd.underlying40 fi63 gz60 gz61 gz62 rfl (by omega) (.slice q.AM q.M.length q.cM) q.M.length (q.M.flatMap Fmv.cells) (by rfl) (D6.oM.alloc _) (w6.heap.size + 1) (some ⟨w6.heap.size, 0, none⟩) 1 1 [.int .i64 x.fm.kind, .int .i64 x.fm.a, .int .i64 x.fm.b, .slice x.ad x.fm.cons.length x.cap] (by rfl) (reads_row4 (Blk.new w6 63 #[.int .i64 x.fm.kind, .int .i64 x.fm.a, .int .i64 x.fm.b, .slice x.ad x.fm.cons.length x.cap])) (by simp [Value.oneCell']) (by unfold maxLen; omega) (by omega) (by rw [World.size_alloc]; have := D6.bp; have := D6.Q.lt; omega) ?_; intro v1 w7 hown1 hgrow hat; obtain ⟨a1, c1, rfl⟩ := own_form hown1; have Q7 := blk_row (D6.Q.alloc (.cells #[.int .i64 x.fm.kind, .int .i64 x.fm.a, .int .i64 x.fm.b, .slice x.ad x.fm.cons.length x.cap] 63)) (D6.oM.alloc (.cells #[.int .i64 x.fm.kind, .int .i64 x.fm.a, .int .i64 x.fm.b, .slice x.ad x.fm.cons.length x.cap] 63)) hgrow (by decide); have s0 := Q7.cell 2; have f0 := Q7.frozen 2)))
                  all_goals
                    have D8 := Lib.hid ((D6.alloc (.cells #[.int .i64 x.fm.kind, .int .i64 x.fm.a, .int .i64 x.fm.b, .slice x.ad x.fm.cons.length x.cap] 63)).pushM (by decide) (x := x) ⟨own_mono (hxo.1.alloc (.cells #[.int .i64 x.fm.kind, .int .i64 x.fm.a, .int .i64 x.fm.b, .slice x.ad x.fm.cons.length x.cap] 63)) (by rw [World.size_drew]; have := HD.out.bp; have := HD.out.Q.lt; omega), hxo.2⟩ hgrow hown1)
                    have R8 := Lib.hid (((r6.alloc (.cells #[.int .i64 x.fm.kind, .int .i64 x.fm.a, .int .i64 x.fm.b, .slice x.ad x.fm.cons.length x.cap] 63)).grown hgrow (fun j e => by have := ((D6.oM).lt j e).1; omega)).grown (grown_set w7 (g + 1) 2 (.slice a1 (q.M.length + 1) c1)) (fun j e => by have := Option.some.inj e; have := HD.out.bp; omega))
                    go_wp2_with fail
                    go_roundw
                    case rel =>
                      refine ⟨k, (rFm tkC st).2, ⟨q.AF, q.cF, q.L, q.AS, q.cS, q.S, a1, c1, q.M ++ [x]⟩, by first | rfl | go_num, by simp; omega, ?_, ?_, R8, D8, HK1.out, hk2, HK3.out, hk4⟩
                      · rw [HE1.out, HRC.out, List.map_append, List.append_assoc, ← HX.out]; rfl
                      · rw [HE2.out, HRC.out]
                    case measure => simp [intOf]
                · have HGO := Lib.hid (show rFms tkC k st = ([], st) by
                    cases k with
                    | zero => rfl
                    | succ k =>
                      rw [rFms, if_pos (by
                        cases hb : st.2
                        · exact absurd ⟨hb, Nat.succ_pos _⟩ hgo
                        · rfl)])
                  have HF := Lib.hid (show rFms tkC nm sB = ((q.M.map (·.fm)), st) by rw [← Prod.eta (rFms tkC nm sB), HE1.out, HE2.out, HGO.out, List.append_nil])
                  clear q0c
                  have y0 := HD.out.Q.cell 0
                  have y1 := HD.out.Q.cell 1
                  have y2 := HD.out.Q.cell 2
                  have HGOH := Lib.hid hgo
                  clear hgo HGO HE1 HE2
                  have hCASE : (0 < k ∧ st.2 = true) ∨ ¬ 0 < k := by
                    by_cases hk0 : 0 < k
                    · left
                      refine ⟨hk0, ?_⟩
                      cases hb : st.2
                      · exact absurd ⟨hb, hk0⟩ HGOH.out
                      · rfl
                    · exact .inr hk0
                  rcases hCASE with ⟨hk0, hbad⟩ | hk0
                  · have fk : decide ((0 : Int) < (k : Int)) = true := decide_eq_true (by omega)
                    rw [hbad] at cb
                    have HBD := Lib.hid hbad
                    clear hbad
                    go_wp2_with fail
                    have hL2 : q.L.length ≤ 65536 := by omega
                    have hS2 : q.S.length ≤ 65536 := by have := hk4; omega
                    have hM2 : q.M.length ≤ 65536 := by omega
                    have HPQ := Lib.hid (show rPr tkC 38 (b, false) = (q.pr, st) by
                      rw [HPR.out, HFB.out, HSB.out, HF.out]
                      unfold PrMem.pr
                      rw [HK1.out, HK3.out, ← HFFE.out, ← HSSE.out])
                    have HOK := Lib.hid (HD.out.ok hL2 hS2 hM2)
                    refine (c28 q wr (HT.out.next HD.out.low) HOK.out).mono ?_
                    rintro e w8 ⟨v8, rfl, ho8, b8⟩
                    obtain ⟨a8, c8, rfl⟩ := own_form ho8
                    have P8 := HD.out.P.next b8
                    have Q8 := HD.out.Q.next b8
                    have B8 := Lib.hid (HD.out.low.trans (b8.mono HD.out.low.size))
                    have R8 : ∃ A' c', Blk w8 g 104 #[.slice A' st.1.length c', .bool st.2] := by
                      obtain ⟨A', c', hbk, _⟩ := HR.out
                      exact ⟨A', c', hbk.next b8⟩
                    obtain ⟨A', c', R8⟩ := R8
                    have rc := R8.cell 1
                    have p0 := P8.cell 0
                    have p1 := P8.cell 1
                    have p2 := P8.cell 2
                    have pf0 := P8.frozen 0
                    have pf1 := P8.frozen 1
                    have pf2 := P8.frozen 2
                    have x0 := Q8.cell 0
                    have x1 := Q8.cell 1
                    have x2 := Q8.cell 2
                    have HRO := Lib.hid (Reads.of_own ho8)
                    have HRB8 := Lib.hid (HRB.out.below B8.out)
                    have HDEC := Lib.hid (show dec b = if st.2 = false ∧ gPr q.pr = true ∧ ePr q.pr = b then some q.pr else none by unfold dec; rw [HPQ.out])
                    have B88 := Lib.hid b8
                    clear b8 ho8 y0 y1 y2
                    cases hst : st.2
                    · have HST := Lib.hid hst
                      rw [hst] at rc
                      clear hst
                      cases hgp : gPr q.pr
                      · have HGP := Lib.hid hgp
                        clear hgp
                        have HD0 := Lib.hid (show dec b = none by rw [HDEC.out, if_neg]; rw [HGP.out]; rintro ⟨_, h, _⟩; cases h)
                        go_wp2_with fail
                        exact end31 P8 rfl (q := ⟨none, 0, [], none, 0, [], none, 0, []⟩) (ok := false) rfl (by rw [HD0.out]; rfl) (by rw [HD0.out]; rfl) (.inr rfl) B8.out _ rfl rfl rfl
                      · have HGP := Lib.hid hgp
                        have HGE := Lib.hid (show gEnc q.pr = ePr q.pr by unfold gEnc; rw [hgp]; rfl)
                        clear hgp
                        go_wp2_with fail
                        refine (c59 (gEnc q.pr) b a8 A c8 c _ _ w8 HRO.out HRB8.out).mono ?_
                        rintro e w9 ⟨rfl, rfl⟩
                        by_cases heq : gEnc q.pr = b
                        · have hbe : (gEnc q.pr == b) = true := by rw [heq]; exact beq_self_eq_true b
                          have HD1 := Lib.hid (show dec b = some q.pr by rw [HDEC.out, if_pos ⟨HST.out, HGP.out, HGE.out.symm.trans heq⟩])
                          clear heq
                          rw [hbe]
                          go_wp2_with fail
                          exact end31 P8 rfl (q := q) (ok := true) rfl (by rw [HD1.out]; rfl) (by rw [HD1.out]; rfl) (.inl ⟨wr, g, g + 1, 104, HD.out, B88.out, hL2, hS2, hM2⟩) B8.out _ rfl rfl rfl
                        · have hbe : (gEnc q.pr == b) = false := beq_eq_false_iff_ne.2 heq
                          have HD1 := Lib.hid (show dec b = none by rw [HDEC.out, if_neg]; rintro ⟨_, _, h⟩; exact heq (HGE.out.trans h))
                          clear heq
                          rw [hbe]
                          go_wp2_with fail
                          exact end31 P8 rfl (q := ⟨none, 0, [], none, 0, [], none, 0, []⟩) (ok := false) rfl (by rw [HD1.out]; rfl) (by rw [HD1.out]; rfl) (.inr rfl) B8.out _ rfl rfl rfl
                    · have HST := Lib.hid hst
                      rw [hst] at rc
                      clear hst
                      have HD0 := Lib.hid (show dec b = none by rw [HDEC.out, if_neg]; rw [HST.out]; rintro ⟨h, _⟩; cases h)
                      go_wp2_with fail
                      exact end31 P8 rfl (q := ⟨none, 0, [], none, 0, [], none, 0, []⟩) (ok := false) rfl (by rw [HD0.out]; rfl) (by rw [HD0.out]; rfl) (.inr rfl) B8.out _ rfl rfl rfl
                  · have fk : decide ((0 : Int) < (k : Int)) = false := decide_eq_false (by omega)
                    clear cb
                    go_wp2_with fail
                    have hL2 : q.L.length ≤ 65536 := by omega
                    have hS2 : q.S.length ≤ 65536 := by have := hk4; omega
                    have hM2 : q.M.length ≤ 65536 := by omega
                    have HPQ := Lib.hid (show rPr tkC 38 (b, false) = (q.pr, st) by
                      rw [HPR.out, HFB.out, HSB.out, HF.out]
                      unfold PrMem.pr
                      rw [HK1.out, HK3.out, ← HFFE.out, ← HSSE.out])
                    have HOK := Lib.hid (HD.out.ok hL2 hS2 hM2)
                    refine (c28 q wr (HT.out.next HD.out.low) HOK.out).mono ?_
                    rintro e w8 ⟨v8, rfl, ho8, b8⟩
                    obtain ⟨a8, c8, rfl⟩ := own_form ho8
                    have P8 := HD.out.P.next b8
                    have Q8 := HD.out.Q.next b8
                    have B8 := Lib.hid (HD.out.low.trans (b8.mono HD.out.low.size))
                    have R8 : ∃ A' c', Blk w8 g 104 #[.slice A' st.1.length c', .bool st.2] := by
                      obtain ⟨A', c', hbk, _⟩ := HR.out
                      exact ⟨A', c', hbk.next b8⟩
                    obtain ⟨A', c', R8⟩ := R8
                    have rc := R8.cell 1
                    have p0 := P8.cell 0
                    have p1 := P8.cell 1
                    have p2 := P8.cell 2
                    have pf0 := P8.frozen 0
                    have pf1 := P8.frozen 1
                    have pf2 := P8.frozen 2
                    have x0 := Q8.cell 0
                    have x1 := Q8.cell 1
                    have x2 := Q8.cell 2
                    have HRO := Lib.hid (Reads.of_own ho8)
                    have HRB8 := Lib.hid (HRB.out.below B8.out)
                    have HDEC := Lib.hid (show dec b = if st.2 = false ∧ gPr q.pr = true ∧ ePr q.pr = b then some q.pr else none by unfold dec; rw [HPQ.out])
                    have B88 := Lib.hid b8
                    clear b8 ho8 y0 y1 y2
                    cases hst : st.2
                    · have HST := Lib.hid hst
                      rw [hst] at rc
                      clear hst
                      cases hgp : gPr q.pr
                      · have HGP := Lib.hid hgp
                        clear hgp
                        have HD0 := Lib.hid (show dec b = none by rw [HDEC.out, if_neg]; rw [HGP.out]; rintro ⟨_, h, _⟩; cases h)
                        go_wp2_with fail
                        exact end31 P8 rfl (q := ⟨none, 0, [], none, 0, [], none, 0, []⟩) (ok := false) rfl (by rw [HD0.out]; rfl) (by rw [HD0.out]; rfl) (.inr rfl) B8.out _ rfl rfl rfl
                      · have HGP := Lib.hid hgp
                        have HGE := Lib.hid (show gEnc q.pr = ePr q.pr by unfold gEnc; rw [hgp]; rfl)
                        clear hgp
                        go_wp2_with fail
                        refine (c59 (gEnc q.pr) b a8 A c8 c _ _ w8 HRO.out HRB8.out).mono ?_
                        rintro e w9 ⟨rfl, rfl⟩
                        by_cases heq : gEnc q.pr = b
                        · have hbe : (gEnc q.pr == b) = true := by rw [heq]; exact beq_self_eq_true b
                          have HD1 := Lib.hid (show dec b = some q.pr by rw [HDEC.out, if_pos ⟨HST.out, HGP.out, HGE.out.symm.trans heq⟩])
                          clear heq
                          rw [hbe]
                          go_wp2_with fail
                          exact end31 P8 rfl (q := q) (ok := true) rfl (by rw [HD1.out]; rfl) (by rw [HD1.out]; rfl) (.inl ⟨wr, g, g + 1, 104, HD.out, B88.out, hL2, hS2, hM2⟩) B8.out _ rfl rfl rfl
                        · have hbe : (gEnc q.pr == b) = false := beq_eq_false_iff_ne.2 heq
                          have HD1 := Lib.hid (show dec b = none by rw [HDEC.out, if_neg]; rintro ⟨_, _, h⟩; exact heq (HGE.out.trans h))
                          clear heq
                          rw [hbe]
                          go_wp2_with fail
                          exact end31 P8 rfl (q := ⟨none, 0, [], none, 0, [], none, 0, []⟩) (ok := false) rfl (by rw [HD1.out]; rfl) (by rw [HD1.out]; rfl) (.inr rfl) B8.out _ rfl rfl rfl
                    · have HST := Lib.hid hst
                      rw [hst] at rc
                      clear hst
                      have HD0 := Lib.hid (show dec b = none by rw [HDEC.out, if_neg]; rw [HST.out]; rintro ⟨h, _⟩; cases h)
                      go_wp2_with fail
                      exact end31 P8 rfl (q := ⟨none, 0, [], none, 0, [], none, 0, []⟩) (ok := false) rfl (by rw [HD0.out]; rfl) (by rw [HD0.out]; rfl) (.inr rfl) B8.out _ rfl rfl rfl
            · have fk : decide ((0 : Int) < (k : Int)) = false := decide_eq_false (by omega)
              clear cb
              go_wp2_with fail
              have HSS := Lib.hid (show q.S = (rStrs tkC ns sA).1 by rw [HF.out])
              have HSB := Lib.hid (show (rStrs tkC ns sA).2 = st by rw [HF.out])
              obtain ⟨sB, hsB⟩ : ∃ sB, sB = st := ⟨_, rfl⟩
              generalize hSS : (rStrs tkC ns sA).1 = SS at HSS
              obtain ⟨wo2, rfl⟩ : ∃ wo2 : World, wo2 = wr := ⟨_, rfl⟩
              subst hsB
              have HSSE := Lib.hid hSS
              clear hSS
              go_loopw [8] (fun i wr => ∃ (k : Nat) (st : St) (q : PrMem), i = .int .i64 k ∧ q.M.length + k ≤ nm ∧ (rFms tkC nm sB).1 = (q.M.map (·.fm)) ++ (rFms tkC k st).1 ∧ (rFms tkC nm sB).2 = (rFms tkC k st).2 ∧ Hid (RdAt wr g st) ∧ Hid (DecSt w wr g (g + 1) 104 q) ∧ q.L.map (·.fn) = FF ∧ q.L.length ≤ 255 ∧ q.S = SS ∧ q.S.length ≤ 255) (fun i _ => (intOf i).toNat)
              case atStart => exact ⟨nm, sB, q, rfl, by rw [hk3]; simp, by rw [hk3]; rfl, rfl, HR, HD, hk1, hk2, HSS.out, by omega⟩
              case round =>
                obtain ⟨k, st, q, rfl, hk, he1, he2, HR, HD, hkeep⟩ := hrel
                obtain ⟨hk1, hk2, hk3, hk4⟩ := hkeep
                have HK1 := Lib.hid hk1
                have HK3 := Lib.hid hk3
                clear hk1 hk3
                have HE1 := Lib.hid he1
                have HE2 := Lib.hid he2
                have cb := HR.out.cell
                have hgw := HR.out.lt
                have q0c := HD.out.Q.cell 2
                clear he1 he2
                by_cases hgo : st.2 = false ∧ 0 < k
                · obtain ⟨hbad, hk0⟩ := hgo
                  rw [hbad] at cb
                  obtain ⟨k, rfl⟩ : ∃ j, k = j + 1 := ⟨k - 1, by omega⟩
                  have fk : decide ((0 : Int) < ((k + 1 : Nat) : Int)) = true := decide_eq_true (by omega)
                  have HBAD := Lib.hid (show ¬ st.2 = true by rw [hbad]; decide)
                  clear hbad
                  have HTr := Lib.hid (HT.out.next HD.out.low)
                  have HRC := Lib.hid (show rFms tkC (k + 1) st = ((rFm tkC st).1 :: (rFms tkC k (rFm tkC st).2).1, (rFms tkC k (rFm tkC st).2).2) by rw [rFms, if_neg HBAD.out])
                  have W1 : IntKind.i64.wrap (((k + 1 : Nat) : Int) - 1) = (k : Int) := (IntWalk.i64_in _ (by omega)).trans (by omega)
                  go_wp2_with fail
                  go_region_law (first
                  | ((refine step_call (by rfl) 58 #[.tmp 73] #[101] (by rfl) Tryd.f58 Tryd.func58 (by kernel_rfl) (by kernel_rfl) #[.pointer (some ⟨g, 0, none⟩)] (by rfl) (c58 g st wr.drew HR.out) ?_; rintro e w6 ⟨x, rfl, hx, hxo, r6, g6⟩; refine ⟨_, rfl, ?_⟩; have D6 := HD.out.drew.read g6 (RdAt.blk r6); have z0 := D6.Q.cell 2; have z1 := (D6.alloc (.cells #[.int .i64 x.fm.kind, .int .i64 x.fm.a, .int .i64 x.fm.b, .slice x.ad x.fm.cons.length x.cap] 63)).Q.cell 2; have HX := Lib.hid hx; clear hx))
                  | ((refine step_append_any (w6.alloc (.cells #[.int .i64 x.fm.kind, .int .i64 x.fm.a, .int .i64 x.fm.b, .slice x.ad x.fm.cons.length x.cap] 63)) (by rfl) (.tmp 72) (.tmp 75) 40 (by rfl) (g + 1) 63 i63 _ 4 48 Tryd.underlying40 fi63 gz60 gz61 gz62 rfl (by omega) (.slice q.AM q.M.length q.cM) q.M.length (q.M.flatMap Fmv.cells) (by rfl) (D6.oM.alloc _) (w6.heap.size + 1) (some ⟨w6.heap.size, 0, none⟩) 1 1 [.int .i64 x.fm.kind, .int .i64 x.fm.a, .int .i64 x.fm.b, .slice x.ad x.fm.cons.length x.cap] (by rfl) (reads_row4 (Blk.new w6 63 #[.int .i64 x.fm.kind, .int .i64 x.fm.a, .int .i64 x.fm.b, .slice x.ad x.fm.cons.length x.cap])) (by simp [Value.oneCell']) (by unfold maxLen; omega) (by omega) (by rw [World.size_alloc]; have := D6.bp; have := D6.Q.lt; omega) ?_; intro v1 w7 hown1 hgrow hat; obtain ⟨a1, c1, rfl⟩ := own_form hown1; have Q7 := blk_row (D6.Q.alloc (.cells #[.int .i64 x.fm.kind, .int .i64 x.fm.a, .int .i64 x.fm.b, .slice x.ad x.fm.cons.length x.cap] 63)) (D6.oM.alloc (.cells #[.int .i64 x.fm.kind, .int .i64 x.fm.a, .int .i64 x.fm.b, .slice x.ad x.fm.cons.length x.cap] 63)) hgrow (by decide); have s0 := Q7.cell 2; have f0 := Q7.frozen 2)))
                  all_goals
                    have D8 := Lib.hid ((D6.alloc (.cells #[.int .i64 x.fm.kind, .int .i64 x.fm.a, .int .i64 x.fm.b, .slice x.ad x.fm.cons.length x.cap] 63)).pushM (by decide) (x := x) ⟨own_mono (hxo.1.alloc (.cells #[.int .i64 x.fm.kind, .int .i64 x.fm.a, .int .i64 x.fm.b, .slice x.ad x.fm.cons.length x.cap] 63)) (by rw [World.size_drew]; have := HD.out.bp; have := HD.out.Q.lt; omega), hxo.2⟩ hgrow hown1)
                    have R8 := Lib.hid (((r6.alloc (.cells #[.int .i64 x.fm.kind, .int .i64 x.fm.a, .int .i64 x.fm.b, .slice x.ad x.fm.cons.length x.cap] 63)).grown hgrow (fun j e => by have := ((D6.oM).lt j e).1; omega)).grown (grown_set w7 (g + 1) 2 (.slice a1 (q.M.length + 1) c1)) (fun j e => by have := Option.some.inj e; have := HD.out.bp; omega))
                    go_wp2_with fail
                    go_roundw
                    case rel =>
                      refine ⟨k, (rFm tkC st).2, ⟨q.AF, q.cF, q.L, q.AS, q.cS, q.S, a1, c1, q.M ++ [x]⟩, by first | rfl | go_num, by simp; omega, ?_, ?_, R8, D8, HK1.out, hk2, HK3.out, hk4⟩
                      · rw [HE1.out, HRC.out, List.map_append, List.append_assoc, ← HX.out]; rfl
                      · rw [HE2.out, HRC.out]
                    case measure => simp [intOf]
                · have HGO := Lib.hid (show rFms tkC k st = ([], st) by
                    cases k with
                    | zero => rfl
                    | succ k =>
                      rw [rFms, if_pos (by
                        cases hb : st.2
                        · exact absurd ⟨hb, Nat.succ_pos _⟩ hgo
                        · rfl)])
                  have HF := Lib.hid (show rFms tkC nm sB = ((q.M.map (·.fm)), st) by rw [← Prod.eta (rFms tkC nm sB), HE1.out, HE2.out, HGO.out, List.append_nil])
                  clear q0c
                  have y0 := HD.out.Q.cell 0
                  have y1 := HD.out.Q.cell 1
                  have y2 := HD.out.Q.cell 2
                  have HGOH := Lib.hid hgo
                  clear hgo HGO HE1 HE2
                  have hCASE : (0 < k ∧ st.2 = true) ∨ ¬ 0 < k := by
                    by_cases hk0 : 0 < k
                    · left
                      refine ⟨hk0, ?_⟩
                      cases hb : st.2
                      · exact absurd ⟨hb, hk0⟩ HGOH.out
                      · rfl
                    · exact .inr hk0
                  rcases hCASE with ⟨hk0, hbad⟩ | hk0
                  · have fk : decide ((0 : Int) < (k : Int)) = true := decide_eq_true (by omega)
                    rw [hbad] at cb
                    have HBD := Lib.hid hbad
                    clear hbad
                    go_wp2_with fail
                    have hL2 : q.L.length ≤ 65536 := by omega
                    have hS2 : q.S.length ≤ 65536 := by have := hk4; omega
                    have hM2 : q.M.length ≤ 65536 := by omega
                    have HPQ := Lib.hid (show rPr tkC 38 (b, false) = (q.pr, st) by
                      rw [HPR.out, HFB.out, HSB.out, HF.out]
                      unfold PrMem.pr
                      rw [HK1.out, HK3.out, ← HFFE.out, ← HSSE.out])
                    have HOK := Lib.hid (HD.out.ok hL2 hS2 hM2)
                    refine (c28 q wr (HT.out.next HD.out.low) HOK.out).mono ?_
                    rintro e w8 ⟨v8, rfl, ho8, b8⟩
                    obtain ⟨a8, c8, rfl⟩ := own_form ho8
                    have P8 := HD.out.P.next b8
                    have Q8 := HD.out.Q.next b8
                    have B8 := Lib.hid (HD.out.low.trans (b8.mono HD.out.low.size))
                    have R8 : ∃ A' c', Blk w8 g 104 #[.slice A' st.1.length c', .bool st.2] := by
                      obtain ⟨A', c', hbk, _⟩ := HR.out
                      exact ⟨A', c', hbk.next b8⟩
                    obtain ⟨A', c', R8⟩ := R8
                    have rc := R8.cell 1
                    have p0 := P8.cell 0
                    have p1 := P8.cell 1
                    have p2 := P8.cell 2
                    have pf0 := P8.frozen 0
                    have pf1 := P8.frozen 1
                    have pf2 := P8.frozen 2
                    have x0 := Q8.cell 0
                    have x1 := Q8.cell 1
                    have x2 := Q8.cell 2
                    have HRO := Lib.hid (Reads.of_own ho8)
                    have HRB8 := Lib.hid (HRB.out.below B8.out)
                    have HDEC := Lib.hid (show dec b = if st.2 = false ∧ gPr q.pr = true ∧ ePr q.pr = b then some q.pr else none by unfold dec; rw [HPQ.out])
                    have B88 := Lib.hid b8
                    clear b8 ho8 y0 y1 y2
                    cases hst : st.2
                    · have HST := Lib.hid hst
                      rw [hst] at rc
                      clear hst
                      cases hgp : gPr q.pr
                      · have HGP := Lib.hid hgp
                        clear hgp
                        have HD0 := Lib.hid (show dec b = none by rw [HDEC.out, if_neg]; rw [HGP.out]; rintro ⟨_, h, _⟩; cases h)
                        go_wp2_with fail
                        exact end31 P8 rfl (q := ⟨none, 0, [], none, 0, [], none, 0, []⟩) (ok := false) rfl (by rw [HD0.out]; rfl) (by rw [HD0.out]; rfl) (.inr rfl) B8.out _ rfl rfl rfl
                      · have HGP := Lib.hid hgp
                        have HGE := Lib.hid (show gEnc q.pr = ePr q.pr by unfold gEnc; rw [hgp]; rfl)
                        clear hgp
                        go_wp2_with fail
                        refine (c59 (gEnc q.pr) b a8 A c8 c _ _ w8 HRO.out HRB8.out).mono ?_
                        rintro e w9 ⟨rfl, rfl⟩
                        by_cases heq : gEnc q.pr = b
                        · have hbe : (gEnc q.pr == b) = true := by rw [heq]; exact beq_self_eq_true b
                          have HD1 := Lib.hid (show dec b = some q.pr by rw [HDEC.out, if_pos ⟨HST.out, HGP.out, HGE.out.symm.trans heq⟩])
                          clear heq
                          rw [hbe]
                          go_wp2_with fail
                          exact end31 P8 rfl (q := q) (ok := true) rfl (by rw [HD1.out]; rfl) (by rw [HD1.out]; rfl) (.inl ⟨wr, g, g + 1, 104, HD.out, B88.out, hL2, hS2, hM2⟩) B8.out _ rfl rfl rfl
                        · have hbe : (gEnc q.pr == b) = false := beq_eq_false_iff_ne.2 heq
                          have HD1 := Lib.hid (show dec b = none by rw [HDEC.out, if_neg]; rintro ⟨_, _, h⟩; exact heq (HGE.out.trans h))
                          clear heq
                          rw [hbe]
                          go_wp2_with fail
                          exact end31 P8 rfl (q := ⟨none, 0, [], none, 0, [], none, 0, []⟩) (ok := false) rfl (by rw [HD1.out]; rfl) (by rw [HD1.out]; rfl) (.inr rfl) B8.out _ rfl rfl rfl
                    · have HST := Lib.hid hst
                      rw [hst] at rc
                      clear hst
                      have HD0 := Lib.hid (show dec b = none by rw [HDEC.out, if_neg]; rw [HST.out]; rintro ⟨h, _⟩; cases h)
                      go_wp2_with fail
                      exact end31 P8 rfl (q := ⟨none, 0, [], none, 0, [], none, 0, []⟩) (ok := false) rfl (by rw [HD0.out]; rfl) (by rw [HD0.out]; rfl) (.inr rfl) B8.out _ rfl rfl rfl
                  · have fk : decide ((0 : Int) < (k : Int)) = false := decide_eq_false (by omega)
                    clear cb
                    go_wp2_with fail
                    have hL2 : q.L.length ≤ 65536 := by omega
                    have hS2 : q.S.length ≤ 65536 := by have := hk4; omega
                    have hM2 : q.M.length ≤ 65536 := by omega
                    have HPQ := Lib.hid (show rPr tkC 38 (b, false) = (q.pr, st) by
                      rw [HPR.out, HFB.out, HSB.out, HF.out]
                      unfold PrMem.pr
                      rw [HK1.out, HK3.out, ← HFFE.out, ← HSSE.out])
                    have HOK := Lib.hid (HD.out.ok hL2 hS2 hM2)
                    refine (c28 q wr (HT.out.next HD.out.low) HOK.out).mono ?_
                    rintro e w8 ⟨v8, rfl, ho8, b8⟩
                    obtain ⟨a8, c8, rfl⟩ := own_form ho8
                    have P8 := HD.out.P.next b8
                    have Q8 := HD.out.Q.next b8
                    have B8 := Lib.hid (HD.out.low.trans (b8.mono HD.out.low.size))
                    have R8 : ∃ A' c', Blk w8 g 104 #[.slice A' st.1.length c', .bool st.2] := by
                      obtain ⟨A', c', hbk, _⟩ := HR.out
                      exact ⟨A', c', hbk.next b8⟩
                    obtain ⟨A', c', R8⟩ := R8
                    have rc := R8.cell 1
                    have p0 := P8.cell 0
                    have p1 := P8.cell 1
                    have p2 := P8.cell 2
                    have pf0 := P8.frozen 0
                    have pf1 := P8.frozen 1
                    have pf2 := P8.frozen 2
                    have x0 := Q8.cell 0
                    have x1 := Q8.cell 1
                    have x2 := Q8.cell 2
                    have HRO := Lib.hid (Reads.of_own ho8)
                    have HRB8 := Lib.hid (HRB.out.below B8.out)
                    have HDEC := Lib.hid (show dec b = if st.2 = false ∧ gPr q.pr = true ∧ ePr q.pr = b then some q.pr else none by unfold dec; rw [HPQ.out])
                    have B88 := Lib.hid b8
                    clear b8 ho8 y0 y1 y2
                    cases hst : st.2
                    · have HST := Lib.hid hst
                      rw [hst] at rc
                      clear hst
                      cases hgp : gPr q.pr
                      · have HGP := Lib.hid hgp
                        clear hgp
                        have HD0 := Lib.hid (show dec b = none by rw [HDEC.out, if_neg]; rw [HGP.out]; rintro ⟨_, h, _⟩; cases h)
                        go_wp2_with fail
                        exact end31 P8 rfl (q := ⟨none, 0, [], none, 0, [], none, 0, []⟩) (ok := false) rfl (by rw [HD0.out]; rfl) (by rw [HD0.out]; rfl) (.inr rfl) B8.out _ rfl rfl rfl
                      · have HGP := Lib.hid hgp
                        have HGE := Lib.hid (show gEnc q.pr = ePr q.pr by unfold gEnc; rw [hgp]; rfl)
                        clear hgp
                        go_wp2_with fail
                        refine (c59 (gEnc q.pr) b a8 A c8 c _ _ w8 HRO.out HRB8.out).mono ?_
                        rintro e w9 ⟨rfl, rfl⟩
                        by_cases heq : gEnc q.pr = b
                        · have hbe : (gEnc q.pr == b) = true := by rw [heq]; exact beq_self_eq_true b
                          have HD1 := Lib.hid (show dec b = some q.pr by rw [HDEC.out, if_pos ⟨HST.out, HGP.out, HGE.out.symm.trans heq⟩])
                          clear heq
                          rw [hbe]
                          go_wp2_with fail
                          exact end31 P8 rfl (q := q) (ok := true) rfl (by rw [HD1.out]; rfl) (by rw [HD1.out]; rfl) (.inl ⟨wr, g, g + 1, 104, HD.out, B88.out, hL2, hS2, hM2⟩) B8.out _ rfl rfl rfl
                        · have hbe : (gEnc q.pr == b) = false := beq_eq_false_iff_ne.2 heq
                          have HD1 := Lib.hid (show dec b = none by rw [HDEC.out, if_neg]; rintro ⟨_, _, h⟩; exact heq (HGE.out.trans h))
                          clear heq
                          rw [hbe]
                          go_wp2_with fail
                          exact end31 P8 rfl (q := ⟨none, 0, [], none, 0, [], none, 0, []⟩) (ok := false) rfl (by rw [HD1.out]; rfl) (by rw [HD1.out]; rfl) (.inr rfl) B8.out _ rfl rfl rfl
                    · have HST := Lib.hid hst
                      rw [hst] at rc
                      clear hst
                      have HD0 := Lib.hid (show dec b = none by rw [HDEC.out, if_neg]; rw [HST.out]; rintro ⟨h, _⟩; cases h)
                      go_wp2_with fail
                      exact end31 P8 rfl (q := ⟨none, 0, [], none, 0, [], none, 0, []⟩) (ok := false) rfl (by rw [HD0.out]; rfl) (by rw [HD0.out]; rfl) (.inr rfl) B8.out _ rfl rfl rfl
end Go.Proofs.YtiphicejaljhiaaDoor
