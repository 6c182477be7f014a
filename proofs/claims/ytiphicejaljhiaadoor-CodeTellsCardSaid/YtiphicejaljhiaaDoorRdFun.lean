/- The reader of a function. -/
import Derived.Test.YtiphicejaljhiaaDoorRdForm
import Derived.Test.YtiphicejaljhiaaDoorTab
namespace Go.Proofs.YtiphicejaljhiaaDoor
open Go.ChangeShapes Go.WideShapes Go.ChangeAt Go.RowKit
theorem tab_grown {w w' : World} {g : Nat} (h : CodeTab w) (hg : w.grownBy w' (some g)) (h2 : 2 < g) : CodeTab w' := by
  obtain ⟨⟨a0, t0, a1⟩, ⟨b0, t1, b1⟩, ⟨c0, t2, c1⟩⟩ := h
  have hs := hg.size
  exact ⟨⟨by omega, t0, (hg.block 0 a0 (fun e => by have := Option.some.inj e; omega)).trans a1⟩, ⟨by omega, t1, (hg.block 1 b0 (fun e => by have := Option.some.inj e; omega)).trans b1⟩, ⟨by omega, t2, (hg.block 2 c0 (fun e => by have := Option.some.inj e; omega)).trans c1⟩⟩
theorem ins_one (l : List Ins) : ∀ u ∈ l.flatMap insCells, u.oneCell' = true := by
  intro u hu
  obtain ⟨i, _, hi⟩ := List.mem_flatMap.1 hu
  simp only [insCells, List.mem_cons, List.not_mem_nil, or_false] at hi
  rcases hi with rfl | rfl | rfl <;> rfl
theorem end56 {w W : World} {g : Nat} {s st : St} {lo fr : Int} {acc : List Ins} {A : Option Addr} {c : Nat} {cs : Array Value} (hfn : rFn tkC 38 s = (⟨lo, fr, acc⟩, st)) (hP : Blk W w.heap.size 60 cs) (hcs : cs.size = 3)
    (HO : W.ownsRow (w.heap.size + 1) 23 3 (.slice A acc.length c) acc.length (acc.flatMap insCells)) (HR : RdAt W g st) (HG : w.grownBy W (some g)) (hgw : g < w.heap.size) (hl : acc.length ≤ 65536) (a : Act)
    (h1 : a.tmps.getD 2 undef = .pointer (some ⟨w.heap.size, 0, none⟩)) (h2 : a.defers = []) :
    bodyPost Tryd.prog Tryd.f56 (fun e w' => ∃ x : Fnv, e = .returned (.agg #[.int .i64 x.fn.locals, .int .i64 x.fn.free, .slice x.ad x.fn.code.length x.cap]) ∧ x.fn = (rFn tkC 38 s).1 ∧
      (w'.ownsRow w.heap.size 23 3 (.slice x.ad x.fn.code.length x.cap) x.fn.code.length (x.fn.code.flatMap insCells) ∧ x.fn.code.length ≤ 65536) ∧ RdAt w' g (rFn tkC 38 s).2 ∧ w.grownBy w' (some g)) .ret a (((W.setCell ⟨w.heap.size, 0, none⟩ (.int .i64 lo)).setCell ⟨w.heap.size, 1, none⟩ (.int .i64 fr)).setCell ⟨w.heap.size, 2, none⟩ (.slice A acc.length c)) := by
  have B4 : Blk (((W.setCell ⟨w.heap.size, 0, none⟩ (.int .i64 lo)).setCell ⟨w.heap.size, 1, none⟩ (.int .i64 fr)).setCell ⟨w.heap.size, 2, none⟩ (.slice A acc.length c)) w.heap.size 60 #[.int .i64 lo, .int .i64 fr, .slice A acc.length c] := by
    have h := ((hP.set_ 0 (.int .i64 lo)).set_ 1 (.int .i64 fr)).set_ 2 (.slice A acc.length c)
    obtain ⟨l⟩ := cs
    match l, hcs with
    | [x, y, z], _ => exact h
  have GW : W.grownBy (((W.setCell ⟨w.heap.size, 0, none⟩ (.int .i64 lo)).setCell ⟨w.heap.size, 1, none⟩ (.int .i64 fr)).setCell ⟨w.heap.size, 2, none⟩ (.slice A acc.length c)) (some w.heap.size) := grown_then (grown_then (grown_set _ _ 0 _) (grown_set _ _ 1 _)) (grown_set _ _ 2 _)
  refine bodyPost_ret (results_cell_row rfl _ _ _ 60 _ (0, 0) _ h1 B4 Tryd.underlying60 rfl (by kernel_rfl)) h2 ⟨⟨⟨lo, fr, acc⟩, A, c⟩, rfl, ?_, ⟨?_, ?_⟩, ?_, ?_⟩
  · rw [hfn]
  · exact own_mono (own_keep HO GW (Nat.lt_succ_self _)) (Nat.le_succ _)
  · exact hl
  · rw [hfn]
    exact HR.grown GW (fun j e => by have := Option.some.inj e; omega)
  · exact grown_own HG GW (fun j e => by have := Option.some.inj e; omega)
set_option maxRecDepth 100000 in
set_option maxHeartbeats 4000000 in
theorem c56 (g : Nat) (s : St) (w : World) (ht : CodeTab w) (h2g : 2 < g) (hw : RdAt w g s) :
    Calls Tryd.prog 56 #[.pointer (some ⟨g, 0, none⟩)] w fun e w' => ∃ x : Fnv, e = .returned (.agg #[.int .i64 x.fn.locals, .int .i64 x.fn.free, .slice x.ad x.fn.code.length x.cap]) ∧ x.fn = (rFn tkC 38 s).1 ∧
      (w'.ownsRow w.heap.size 23 3 (.slice x.ad x.fn.code.length x.cap) x.fn.code.length (x.fn.code.flatMap insCells) ∧ x.fn.code.length ≤ 65536) ∧ RdAt w' g (rFn tkC 38 s).2 ∧ w.grownBy w' (some g) := by
  obtain ⟨i0, hi0, hz0, hz1, hz2⟩ := info_parts ins_info
  have HT := Lib.hid ht
  have hgw := hw.lt
  have HW := Lib.hid (hw.alloc (.cells #[.int .i64 0, .int .i64 0, .slice none 0 0] 60))
  have P0 := Blk.new w 60 #[.int .i64 0, .int .i64 0, .slice none 0 0]
  have G0 := Lib.hid (grown_alloc (World.grownBy.refl w (some g)) (.cells #[.int .i64 0, .int .i64 0, .slice none 0 0] 60))
  clear hw ht
  go_enter Tryd.func56, Tryd.ntmps56
  go_wp2_with fail
  refine (c55 g 1 s _ HW.out (by decide)).mono ?_
  rintro e w1 ⟨rfl, r1, g1⟩
  have R1 := Lib.hid r1
  have G1 := Lib.hid (grown_then G0.out g1)
  have P1 := rdKeep P0 g1 (by omega)
  clear r1 g1 P0
  go_wp2_with fail
  refine (c55 g 1 _ _ R1.out (by decide)).mono ?_
  rintro e w3 ⟨rfl, r3, g3⟩
  have G3 := Lib.hid (grown_then G1.out g3)
  have P3 := rdKeep P1 g3 (by omega)
  have hsz := G3.out.size
  have hsz' : w.heap.size < w3.heap.size := Nat.lt_of_lt_of_le P3.lt (Nat.le_refl _)
  generalize hkd : nV tkC 1 s = lo
  generalize hs1 : nS tkC 1 s = s1 at r3
  generalize hfa : nV tkC 1 s1 = fr
  generalize hs2 : nS tkC 1 s1 = s3 at r3
  have HN := Lib.hid (show rFn tkC 38 s = (⟨lo, fr, (rCode tkC 38 (nV tkC 2 s3).toNat (nS tkC 2 s3)).1⟩, (rCode tkC 38 (nV tkC 2 s3).toNat (nS tkC 2 s3)).2) by
    unfold rFn
    simp only [hkd, hs1, hfa, hs2])
  clear hkd hs1 hfa hs2 g3 P1
  have R3 := Lib.hid (r3.alloc (.cells #[.int .i64 lo, .int .i64 fr, .slice none 0 0] 60))
  have G4 := Lib.hid (grown_alloc G3.out (.cells #[.int .i64 lo, .int .i64 fr, .slice none 0 0] 60))
  have P4 := P3.alloc (.cells #[.int .i64 lo, .int .i64 fr, .slice none 0 0] 60)
  have Q4 := Blk.new w3 60 #[.int .i64 lo, .int .i64 fr, .slice none 0 0]
  clear r3 P3
  go_wp2_with fail
  refine (c55 g 2 s3 _ R3.out (by decide)).mono ?_
  rintro e w5 ⟨rfl, r5, g5⟩
  have G5 := Lib.hid (grown_then G4.out g5)
  have P5 := rdKeep P4 g5 (by omega)
  have Q5 := rdKeep Q4 g5 (by omega)
  have hnr := nV_range 2 s3 (by decide)
  generalize nV tkC 2 s3 = m0 at HN hnr
  generalize nS tkC 2 s3 = s4 at HN r5
  obtain ⟨m, rfl⟩ : ∃ m : Nat, m0 = m := ⟨m0.toNat, by omega⟩
  rw [Int.toNat_natCast] at HN
  have hm : m < 65536 := by omega
  have R5 := Lib.hid r5
  clear g5 r5 P4 Q4 hnr
  generalize hb3 : w3.heap.size = b3 at Q5 hsz hsz'
  go_wp2_with fail
  go_loopw [4] (fun i wr => ∃ (k : Nat) (st : St) (acc : List Ins) (A : Option Addr) (c : Nat), i = .int .i64 k ∧ acc.length + k ≤ m ∧ (rCode tkC 38 m s4).1 = acc ++ (rCode tkC 38 k st).1 ∧ (rCode tkC 38 m s4).2 = (rCode tkC 38 k st).2 ∧ Hid (RdAt wr g st) ∧ Hid (wr.ownsRow (w.heap.size + 1) 23 3 (.slice A acc.length c) acc.length (acc.flatMap insCells)) ∧ Hid (w.grownBy wr (some g)) ∧ Blk wr w.heap.size 60 #[.int .i64 0, .int .i64 0, .slice none 0 0] ∧ Blk wr b3 60 #[.int .i64 lo, .int .i64 fr, .slice A acc.length c]) (fun i _ => (intOf i).toNat)
  case atStart => exact ⟨m, s4, [], none, 0, rfl, by simp, rfl, rfl, R5, Lib.hid ⟨rfl, .inl ⟨rfl, rfl⟩⟩, G5, P5, Q5⟩
  case round =>
    obtain ⟨k, st, acc, A, c, rfl, hk, he1, he2, HR, HO, HG, hP, hQ⟩ := hrel
    have HE1 := Lib.hid he1
    have HE2 := Lib.hid he2
    have cb := HR.out.cell
    clear he1 he2
    by_cases hgo : st.2 = false ∧ 0 < k
    · obtain ⟨hbad, hk0⟩ := hgo
      rw [hbad] at cb
      obtain ⟨k, rfl⟩ : ∃ j, k = j + 1 := ⟨k - 1, by omega⟩
      have fk : decide ((0 : Int) < ((k + 1 : Nat) : Int)) = true := decide_eq_true (by omega)
      have HBAD := Lib.hid (show ¬ st.2 = true by rw [hbad]; decide)
      clear hbad
      go_wp2_with fail
      refine (c55 g 1 st _ HR.out (by decide)).mono ?_
      rintro e w6 ⟨rfl, r6, g6⟩
      have HRC := Lib.hid (show rCode tkC 38 (k + 1) st = if (38 : Int) ≤ nV tkC 1 st then ([], ((nS tkC 1 st).1, true)) else
        (⟨nV tkC 1 st, nV tkC (wid (nV tkC 1 st)) (nS tkC 1 st), if sec (nV tkC 1 st) then nV tkC 1 (nS tkC (wid (nV tkC 1 st)) (nS tkC 1 st)) else 0⟩ ::
          (rCode tkC 38 k (if sec (nV tkC 1 st) then nS tkC 1 (nS tkC (wid (nV tkC 1 st)) (nS tkC 1 st)) else nS tkC (wid (nV tkC 1 st)) (nS tkC 1 st))).1,
          (rCode tkC 38 k (if sec (nV tkC 1 st) then nS tkC 1 (nS tkC (wid (nV tkC 1 st)) (nS tkC 1 st)) else nS tkC (wid (nV tkC 1 st)) (nS tkC 1 st))).2) by
        rw [rCode, if_neg HBAD.out])
      have hor := nV_range 1 st (by decide)
      have W1 : IntKind.i64.wrap (((k + 1 : Nat) : Int) - 1) = (k : Int) := (IntWalk.i64_in _ (by omega)).trans (by omega)
      generalize nV tkC 1 st = o at HRC hor
      generalize nS tkC 1 st = t1 at HRC r6
      obtain ⟨on, rfl⟩ : ∃ on : Nat, o = on := ⟨o.toNat, by omega⟩
      have hon0 : (0 : Int) ≤ (on : Int) := by omega
      have G6 := Lib.hid (grown_alloc (grown_then HG.out g6) (.cells #[.int .i64 on, .int .i64 0, .int .i64 0] 23))
      have R6 := Lib.hid (r6.alloc (.cells #[.int .i64 on, .int .i64 0, .int .i64 0] 23))
      have P6 := (rdKeep hP g6 (by omega)).alloc (.cells #[.int .i64 on, .int .i64 0, .int .i64 0] 23)
      have Q6 := (rdKeep hQ g6 (by omega)).alloc (.cells #[.int .i64 on, .int .i64 0, .int .i64 0] 23)
      have O6 := Lib.hid ((own_keep HO.out g6 (by omega)).alloc (.cells #[.int .i64 on, .int .i64 0, .int .i64 0] 23))
      have hol := (own_keep HO.out g6 (by omega)).lt
      have N6 := Blk.new w6 23 #[.int .i64 on, .int .i64 0, .int .i64 0]
      have hw6 : w.heap.size < w6.heap.size := Nat.lt_of_lt_of_le hP.lt g6.size
      clear r6 g6 cb hP hQ hor
      by_cases ho : 38 ≤ on
      · have fo : decide ((38 : Int) ≤ (on : Int)) = true := decide_eq_true (by omega)
        have HR2 := Lib.hid (show rCode tkC 38 (k + 1) st = ([], (t1.1, true)) by rw [HRC.out, if_pos (by omega)])
        have hfr : (w6.alloc (.cells #[.int .i64 on, .int .i64 0, .int .i64 0] 23)).frozen? ⟨g, 1, none⟩ = false := by
          obtain ⟨A', c', hb, _⟩ := R6.out
          exact hb.frozen 1
        have hcl := R6.out.cell
        have R7 := Lib.hid (show RdAt ((w6.alloc (.cells #[.int .i64 on, .int .i64 0, .int .i64 0] 23)).setCell ⟨g, 1, none⟩ (.bool true)) g (t1.1, true) by
          obtain ⟨A', c', hb, hr', hc', hm'⟩ := R6.out
          exact ⟨A', c', hb.set_ 1 (.bool true), hr'.setCell (Nat.le_refl _) _, hc', hm'⟩)
        have G7 := Lib.hid (grown_then G6.out (grown_set (w6.alloc (.cells #[.int .i64 on, .int .i64 0, .int .i64 0] 23)) g 1 (.bool true)))
        have P7 := rdKeep P6 (grown_set _ g 1 (.bool true)) (by omega)
        have Q7 := rdKeep Q6 (grown_set _ g 1 (.bool true)) (by omega)
        have O7 := Lib.hid (own_keep O6.out (grown_set _ g 1 (.bool true)) (by omega))
        have p0 := P7.cell 0
        have p1 := P7.cell 1
        have p2 := P7.cell 2
        have pf0 := P7.frozen 0
        have pf1 := P7.frozen 1
        have pf2 := P7.frozen 2
        have q0 := Q7.cell 0
        have q1 := Q7.cell 1
        have q2 := Q7.cell 2
        go_wp2_with fail
        refine end56 ?_ P7 rfl O7.out R7.out G7.out hgw (by omega) _ rfl rfl
        rw [HN.out, HE1.out, HE2.out, HR2.out, List.append_nil]
      · have fo : decide ((38 : Int) ≤ (on : Int)) = false := decide_eq_false (by omega)
        have hon : on < 38 := by omega
        have hon' : (on : Int) < 38 := by omega
        have HR2 := Lib.hid (HRC.out.trans (if_neg (by omega)))
        have HT6 := Lib.hid (tab_grown HT.out G6.out h2g)
        have x0 := HT6.out.wide on hon
        have hwid : wid (on : Int) ≤ 8 := wid_le _
        go_wp2_with fail
        refine (c55 g (wid (on : Int)) t1 _ R6.out hwid).mono ?_
        rintro e w7 ⟨rfl, r7, g7⟩
        generalize nV tkC (wid (on : Int)) t1 = a7 at HR2
        generalize nS tkC (wid (on : Int)) t1 = t2 at HR2 r7
        have N7 := rdKeep N6 g7 (by omega)
        have n1 := N7.cell 1
        have nf1 := N7.frozen 1
        have N8 := N7.set_ 1 (.int .i64 a7)
        have g8 := grown_set w7 w6.heap.size 1 (.int .i64 a7)
        have G8 := Lib.hid (grown_own (grown_then G6.out g7) g8 (fun j e => by have := Option.some.inj e; omega))
        have R8 := Lib.hid (r7.grown g8 (fun j e => by have := Option.some.inj e; omega))
        have P8 := rdKeep (rdKeep P6 g7 (by omega)) g8 (by omega)
        have Q8 := rdKeep (rdKeep Q6 g7 (by omega)) g8 (by have := Q6.ne_ (g' := w6.heap.size) N6 (by decide); omega)
        have O8 := Lib.hid ((own_keep O6.out g7 (by omega)).kept g8 (.inr (fun e => by have := (hol _ e).2; omega)))
        have HT8 := Lib.hid (tab_grown HT.out G8.out h2g)
        have x1 := HT8.out.second on hon
        have hw7 : w6.heap.size < w7.heap.size := N7.lt
        clear r7 g7 g8 x0 N6 P6 Q6
        cases hsec : sec (on : Int)
        · rw [hsec] at HR2 x1
          have HR3 := Lib.hid (show rCode tkC 38 (k + 1) st = (⟨on, a7, 0⟩ :: (rCode tkC 38 k t2).1, (rCode tkC 38 k t2).2) from HR2.out)
          have n0 := N8.cell 0
          have n1 := N8.cell 1
          have n2 := N8.cell 2
          have q2 := Q8.cell 2
          have Q7 := Q8.alloc (.cells #[.int .i64 on, .int .i64 a7, .int .i64 0] 23)
          go_wp2_with (at_builtin; refine wpList_append_any _ rfl (.tmp 48) (.tmp 50) _ rfl (w.heap.size + 1) 23 i0 _ 3 24 Tryd.underlying58 hi0 hz0 hz1 hz2 rfl (by omega) (.slice A acc.length c) acc.length (acc.flatMap insCells) rfl (O8.out.alloc _) ((w7.setCell ⟨w6.heap.size, 1, none⟩ (.int .i64 a7)).heap.size + 1) (some ⟨(w7.setCell ⟨w6.heap.size, 1, none⟩ (.int .i64 a7)).heap.size, 0, none⟩) 1 1 [.int .i64 on, .int .i64 a7, .int .i64 0] (by simp [Act.eval]) (reads_row3 (Blk.new (w7.setCell ⟨w6.heap.size, 1, none⟩ (.int .i64 a7)) 23 #[.int .i64 on, .int .i64 a7, .int .i64 0])) (by simp [Value.oneCell']) (by unfold maxLen; omega) (by omega) (by rw [World.size_alloc]; have := G8.out.size; have := P8.lt; omega) ?_; intro v1 w1 hown1 hgrow hat; obtain ⟨a1, c1, rfl⟩ := own_form hown1; have hne : (Value.slice A acc.length c).ownBlock ≠ some b3 := own_blk_ne (O8.out.alloc (.cells #[.int .i64 on, .int .i64 a7, .int .i64 0] 23)) Q7 (by decide); have Q9 := Q7.grown hgrow (fun e => hne e.symm); have s3 := Q9.cell 2; have t3f := Q9.frozen 2)
          have hrow : ∀ j, (Value.slice A acc.length c).ownBlock = some j → w.heap.size + 1 ≤ j := fun j e => (hol j e).1
          have hne' : (Value.slice a1 (acc.length + 1) c1).ownBlock ≠ some b3 := own_blk_ne hown1 Q9 (by decide)
          have P7 := (P8.alloc (.cells #[.int .i64 on, .int .i64 a7, .int .i64 0] 23)).grown hgrow (fun e => own_blk_ne (O8.out.alloc (.cells #[.int .i64 on, .int .i64 a7, .int .i64 0] 23)) (P8.alloc (.cells #[.int .i64 on, .int .i64 a7, .int .i64 0] 23)) (by decide) e.symm)
          have PZ := P7.far (p := ⟨b3, 2, none⟩) (by simp; omega) (.slice a1 (acc.length + 1) c1)
          have QZ := Q9.set_ 2 (.slice a1 (acc.length + 1) c1)
          have RZ := Lib.hid (((R8.out.alloc (.cells #[.int .i64 on, .int .i64 a7, .int .i64 0] 23)).grown hgrow (fun j e => by have := hrow j e; omega)).grown (grown_set _ b3 2 (.slice a1 (acc.length + 1) c1)) (fun j e => by have := Option.some.inj e; omega))
          have GZ := Lib.hid (grown_store (grown_own (grown_alloc G8.out (.cells #[.int .i64 on, .int .i64 a7, .int .i64 0] 23)) hgrow (fun j e => by have := hrow j e; omega)) (g := b3) (i := 2) (by omega) (.slice a1 (acc.length + 1) c1))
          have OZ := Lib.hid (show ((w1.setCell ⟨b3, 2, none⟩ (.slice a1 (acc.length + 1) c1)).ownsRow (w.heap.size + 1) 23 3 (.slice a1 (acc ++ [(⟨on, a7, 0⟩ : Ins)]).length c1) (acc ++ [(⟨on, a7, 0⟩ : Ins)]).length ((acc ++ [(⟨on, a7, 0⟩ : Ins)]).flatMap insCells)) by
            rw [List.length_append, List.flatMap_append]
            exact hown1.kept (grown_set w1 b3 2 _) (.inr hne'))
          clear s3 t3f q2 Q7 Q9 P7 n0 n1 n2
          go_wp2_with fail
          go_roundw
          case rel =>
            refine ⟨k, t2, acc ++ [(⟨on, a7, 0⟩ : Ins)], a1, c1, by first | rfl | go_num, by simp; omega, ?_, ?_, RZ, OZ, GZ, PZ, ?_⟩
            · rw [HE1.out, HR3.out, List.append_assoc]; rfl
            · rw [HE2.out, HR3.out]
            · rw [List.length_append]; exact QZ
          case measure => simp [intOf]
        · rw [hsec] at HR2 x1
          have n0 := N8.cell 0
          go_wp2_with fail
          refine (c55 g 1 t2 _ R8.out (by decide)).mono ?_
          rintro e w9 ⟨rfl, r9, g9⟩
          have HR3 := Lib.hid (show rCode tkC 38 (k + 1) st = (⟨on, a7, nV tkC 1 t2⟩ :: (rCode tkC 38 k (nS tkC 1 t2)).1, (rCode tkC 38 k (nS tkC 1 t2)).2) from HR2.out)
          generalize nV tkC 1 t2 = b9 at HR3
          generalize nS tkC 1 t2 = t3 at HR3 r9
          have N9 := rdKeep N8 g9 (by omega)
          have m2 := N9.cell 2
          have mf2 := N9.frozen 2
          have NA := N9.set_ 2 (.int .i64 b9)
          have ga := grown_set w9 w6.heap.size 2 (.int .i64 b9)
          have GA := Lib.hid (grown_own (grown_then G8.out g9) ga (fun j e => by have := Option.some.inj e; omega))
          have RA := Lib.hid (r9.grown ga (fun j e => by have := Option.some.inj e; omega))
          have PA := rdKeep (rdKeep P8 g9 (by omega)) ga (by omega)
          have QA := rdKeep (rdKeep Q8 g9 (by omega)) ga (by have := (rdKeep Q8 g9 (by omega)).ne_ (g' := w6.heap.size) N9 (by decide); omega)
          have OA := Lib.hid ((own_keep O8.out g9 (by omega)).kept ga (.inr (fun e => by have := (hol _ e).2; omega)))
          clear n0 x1
          have n0 := NA.cell 0
          have n1 := NA.cell 1
          have n2 := NA.cell 2
          have q2 := QA.cell 2
          have Q7 := QA.alloc (.cells #[.int .i64 on, .int .i64 a7, .int .i64 b9] 23)
          go_wp2_with (at_builtin; refine wpList_append_any _ rfl (.tmp 48) (.tmp 50) _ rfl (w.heap.size + 1) 23 i0 _ 3 24 Tryd.underlying58 hi0 hz0 hz1 hz2 rfl (by omega) (.slice A acc.length c) acc.length (acc.flatMap insCells) rfl (OA.out.alloc _) ((w9.setCell ⟨w6.heap.size, 2, none⟩ (.int .i64 b9)).heap.size + 1) (some ⟨(w9.setCell ⟨w6.heap.size, 2, none⟩ (.int .i64 b9)).heap.size, 0, none⟩) 1 1 [.int .i64 on, .int .i64 a7, .int .i64 b9] (by simp [Act.eval]) (reads_row3 (Blk.new (w9.setCell ⟨w6.heap.size, 2, none⟩ (.int .i64 b9)) 23 #[.int .i64 on, .int .i64 a7, .int .i64 b9])) (by simp [Value.oneCell']) (by unfold maxLen; omega) (by omega) (by rw [World.size_alloc]; have := GA.out.size; have := PA.lt; omega) ?_; intro v1 w1 hown1 hgrow hat; obtain ⟨a1, c1, rfl⟩ := own_form hown1; have hne : (Value.slice A acc.length c).ownBlock ≠ some b3 := own_blk_ne (OA.out.alloc (.cells #[.int .i64 on, .int .i64 a7, .int .i64 b9] 23)) Q7 (by decide); have Q9 := Q7.grown hgrow (fun e => hne e.symm); have s3 := Q9.cell 2; have t3f := Q9.frozen 2)
          have hrow : ∀ j, (Value.slice A acc.length c).ownBlock = some j → w.heap.size + 1 ≤ j := fun j e => (hol j e).1
          have hne' : (Value.slice a1 (acc.length + 1) c1).ownBlock ≠ some b3 := own_blk_ne hown1 Q9 (by decide)
          have P7 := (PA.alloc (.cells #[.int .i64 on, .int .i64 a7, .int .i64 b9] 23)).grown hgrow (fun e => own_blk_ne (OA.out.alloc (.cells #[.int .i64 on, .int .i64 a7, .int .i64 b9] 23)) (PA.alloc (.cells #[.int .i64 on, .int .i64 a7, .int .i64 b9] 23)) (by decide) e.symm)
          have PZ := P7.far (p := ⟨b3, 2, none⟩) (by simp; omega) (.slice a1 (acc.length + 1) c1)
          have QZ := Q9.set_ 2 (.slice a1 (acc.length + 1) c1)
          have RZ := Lib.hid (((RA.out.alloc (.cells #[.int .i64 on, .int .i64 a7, .int .i64 b9] 23)).grown hgrow (fun j e => by have := hrow j e; omega)).grown (grown_set _ b3 2 (.slice a1 (acc.length + 1) c1)) (fun j e => by have := Option.some.inj e; omega))
          have GZ := Lib.hid (grown_store (grown_own (grown_alloc GA.out (.cells #[.int .i64 on, .int .i64 a7, .int .i64 b9] 23)) hgrow (fun j e => by have := hrow j e; omega)) (g := b3) (i := 2) (by omega) (.slice a1 (acc.length + 1) c1))
          have OZ := Lib.hid (show ((w1.setCell ⟨b3, 2, none⟩ (.slice a1 (acc.length + 1) c1)).ownsRow (w.heap.size + 1) 23 3 (.slice a1 (acc ++ [(⟨on, a7, b9⟩ : Ins)]).length c1) (acc ++ [(⟨on, a7, b9⟩ : Ins)]).length ((acc ++ [(⟨on, a7, b9⟩ : Ins)]).flatMap insCells)) by
            rw [List.length_append, List.flatMap_append]
            exact hown1.kept (grown_set w1 b3 2 _) (.inr hne'))
          clear s3 t3f q2 Q7 Q9 P7 n0 n1 n2
          go_wp2_with fail
          go_roundw
          case rel =>
            refine ⟨k, t3, acc ++ [(⟨on, a7, b9⟩ : Ins)], a1, c1, by first | rfl | go_num, by simp; omega, ?_, ?_, RZ, OZ, GZ, PZ, ?_⟩
            · rw [HE1.out, HR3.out, List.append_assoc]; rfl
            · rw [HE2.out, HR3.out]
            · rw [List.length_append]; exact QZ
          case measure => simp [intOf]
    · have HGO := Lib.hid (show rCode tkC 38 k st = ([], st) by
        cases k with
        | zero => rfl
        | succ k =>
          rw [rCode, if_pos (by
            cases hb : st.2
            · exact absurd ⟨hb, Nat.succ_pos _⟩ hgo
            · rfl)])
      have q0 := hQ.cell 0
      have q1 := hQ.cell 1
      have q2 := hQ.cell 2
      have p0 := hP.cell 0
      have p1 := hP.cell 1
      have p2 := hP.cell 2
      have pf0 := hP.frozen 0
      have pf1 := hP.frozen 1
      have pf2 := hP.frozen 2
      have HF := Lib.hid (show rFn tkC 38 s = (⟨lo, fr, acc⟩, st) by rw [HN.out, HE1.out, HE2.out, HGO.out, List.append_nil])
      by_cases hk0 : 0 < k
      · have fk : decide ((0 : Int) < (k : Int)) = true := decide_eq_true (by omega)
        have hbad : st.2 = true := by
          cases hb : st.2
          · exact absurd ⟨hb, hk0⟩ hgo
          · rfl
        rw [hbad] at cb
        clear hbad hgo
        go_wp2_with fail
        exact end56 HF.out hP rfl HO.out HR.out HG.out hgw (by omega) _ rfl rfl
      · have fk : decide ((0 : Int) < (k : Int)) = false := decide_eq_false (by omega)
        clear hgo cb
        go_wp2_with fail
        exact end56 HF.out hP rfl HO.out HR.out HG.out hgw (by omega) _ rfl rfl
end Go.Proofs.YtiphicejaljhiaaDoor
