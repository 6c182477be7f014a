/- verify.States: the states of a function's instructions. -/
import Derived.Test.YtiphicejaljhiaaDoorRight
import Derived.Test.YtiphicejaljhiaaDoorGood
namespace Go.Proofs.YtiphicejaljhiaaDoor
open Go.ChangeShapes Go.WideShapes Go.ChangeAt Go.RowKit
def gStates (p : Pr) (f : Int) : Option (List Sta) :=
  if f < 0 ∨ (p.funcs.length : Int) ≤ f ∨ gPr p = false then none else vStates p (p.funcs.getD f.toNat ⟨0, 0, []⟩)
theorem pair_info : (Tryd.prog.info? 79).map (fun i => (i.zero, i.size, i.bytes)) = some (some (.agg #[.int .i64 0, .int .i64 0]), 2, 16) := by kernel_rfl
def SsPost (w : World) (r : Option (List Sta)) (e : Ending) (W' : World) : Prop :=
  ∃ A c, e = .returned (.tuple #[.slice A (r.getD []).length c, .bool r.isSome]) ∧ Reads W' W'.heap.size 2 A (r.getD []).length ((r.getD []).flatMap stCells) ∧ Below w.heap.size w W'
theorem SsPost.no {w W' : World} {r : Option (List Sta)} {e : Ending} (hr : r = none) (he : e = .returned (.tuple #[.slice none 0 0, .bool false])) (hb : Below w.heap.size w W') : SsPost w r e W' := by
  subst hr
  exact ⟨none, 0, he, Reads.none_, hb⟩
theorem SsPost.yes {w W' : World} {r : Option (List Sta)} {L : List Sta} {e : Ending} {A : Option Addr} {n c : Nat} (hr : r = some L) (hn : n = L.length) (he : e = .returned (.tuple #[.slice A n c, .bool true])) (h : Reads W' W'.heap.size 2 A n (L.flatMap stCells)) (hb : Below w.heap.size w W') : SsPost w r e W' := by
  subst hr
  subst hn
  exact ⟨A, c, he, h, hb⟩
theorem flat_take (k : Nat) {L : List Sta} (h : k < L.length) : (L.take (k + 1)).flatMap stCells = (L.take k).flatMap stCells ++ stCells (L.getD k unk) := by
  rw [List.take_add_one, List.flatMap_append, getD_at h]
  simp
set_option maxRecDepth 100000 in
set_option maxHeartbeats 2000000 in
theorem c37 (q : PrMem) (f : Int) (w : World) (ht : VTab w) (hq : PrOk w w.heap.size q) :
    Calls Tryd.prog 37 #[q.val, .int .i64 f] w (SsPost w (gStates q.pr f)) := by
  obtain ⟨ti, hi0, hz0, hz1, hz2⟩ := info_parts pair_info
  have lF := hq.lF
  unfold maxLen at lF
  have b1 := below_new w (.cells #[.slice q.AF q.L.length q.cF, .slice q.AS q.S.length q.cS, .slice q.AM q.M.length q.cM] 42)
  have P1 := Blk.new w 42 #[.slice q.AF q.L.length q.cF, .slice q.AS q.S.length q.cS, .slice q.AM q.M.length q.cM]
  have HQ1 := Lib.hid (hq.next b1)
  have HT1 := Lib.hid (ht.next b1)
  have B1 := Lib.hid b1
  have c33' := Lib.hid (c33 q _ HT1.out.op HQ1.out)
  have c67' := Lib.hid (fun k x hx w2 (b2 : Below w.heap.size w w2) => c67 q k x hx w2 (ht.next b2) (hq.next b2))
  generalize hpr : q.pr = p at c33' c67'
  have HLEN := Lib.hid (show p.funcs.length = q.L.length by rw [← hpr]; exact List.length_map ..)
  have HPR := Lib.hid hpr
  clear hpr b1 hq ht
  simp only [PrMem.val] at c33' c67' ⊢
  by_cases h1 : f < 0
  · have HN := Lib.hid (show gStates p f = none by unfold gStates; rw [if_pos (.inl h1)])
    have f1 : decide (f < 0) = true := decide_eq_true h1
    clear h1
    go_enter Tryd.func37, Tryd.ntmps37
    go_wp2_with fail
    go_ret2
    exact SsPost.no HN.out (by simp) B1.out
  have f1 : decide (f < 0) = false := decide_eq_false h1
  by_cases h2 : (q.L.length : Int) ≤ f
  · have HN := Lib.hid (show gStates p f = none by unfold gStates; rw [if_pos (.inr (.inl (by rw [HLEN.out]; exact h2)))])
    have f2 : decide ((q.L.length : Int) ≤ f) = true := decide_eq_true h2
    have p0 := P1.cell 0
    clear h1 h2
    go_enter Tryd.func37, Tryd.ntmps37
    go_wp2_with fail
    go_ret2
    exact SsPost.no HN.out (by simp) B1.out
  have f2 : decide ((q.L.length : Int) ≤ f) = false := decide_eq_false h2
  obtain ⟨k, rfl⟩ : ∃ k : Nat, f = k := ⟨f.toNat, by omega⟩
  have hk : k < q.L.length := by omega
  clear h1 h2
  have p0 := P1.cell 0
  have p1 := P1.cell 1
  have p2 := P1.cell 2
  go_enter Tryd.func37, Tryd.ntmps37
  go_wp2_with fail
  refine c33'.out.mono ?_
  rintro e w2 ⟨rfl, b2⟩
  have B2 := Lib.hid (next_ B1.out b2)
  have P2 := P1.next b2
  clear b2 P1 p0 p1 p2
  cases hg : gPr p
  · have HN := Lib.hid (show gStates p k = none by unfold gStates; rw [if_pos (.inr (.inr hg))])
    clear hg
    go_wp2_with fail
    go_ret2
    exact SsPost.no HN.out (by simp) B2.out
  have HG := Lib.hid hg
  clear hg
  have p0 := P2.cell 0
  have p1 := P2.cell 1
  have p2 := P2.cell 2
  obtain ⟨x, hx⟩ : ∃ x, q.L[k]? = some x := ⟨q.L[k], List.getElem?_eq_getElem hk⟩
  have HST := Lib.hid (show gStates p k = vStates p x.fn by
    unfold gStates
    rw [if_neg (by rw [HLEN.out, HG.out]; intro h; rcases h with h | h | h; omega; omega; cases h)]
    rw [← HPR.out]
    show vStates _ ((q.L.map (·.fn)).getD ((k : Int)).toNat ⟨0, 0, []⟩) = _
    rw [Int.toNat_natCast, List.getD_eq_getElem?_getD, List.getElem?_map, hx]
    rfl)
  have HX := Lib.hid hx
  clear hx
  go_wp2_with fail
  refine (c67'.out k x HX.out w2 B2.out HG.out).mono ?_
  rintro e w3 ⟨w0, g, lv, dv, L, D, rfl, hv, hL, b3, hgl⟩
  have HV := Lib.hid hv
  have HL := Lib.hid hL
  have B3 := Lib.hid (next_ B2.out b3)
  obtain ⟨lA, lc, rfl⟩ := own_form hv.hl
  have n6 := hv.c6
  clear hv hL b3 p0 p1 p2 P2 c67' c33'
  generalize hr : vStates p x.fn = r at HST HL
  have HR := Lib.hid hr
  clear hr
  cases r with
  | none =>
    rw [Option.isSome_none]
    go_wp2_with fail
    go_ret2
    exact SsPost.no HST.out (by simp) B3.out
  | some R =>
    rw [Option.isSome_some]
    obtain rfl := HL.out R rfl
    clear HL
    have hll : L.length ≤ 600 := by
      obtain ⟨g1, g2, g3⟩ := gPr_code HG.out (f := x.fn) (by rw [← HPR.out]; exact List.mem_map.2 ⟨x, List.mem_of_getElem? HX.out, rfl⟩)
      have h5 := (vStates_inv g1 HR.out).len
      omega
    go_wp2_with fail
    go_loopw [8, 38] (fun o i wr => ∃ (k : Nat) (A : Option Addr) (c : Nat), k ≤ L.length ∧ i = .int .i64 k ∧ o = .slice A k c ∧ Hid (wr.ownsRow w3.heap.size 79 2 (.slice A k c) k ((L.take k).flatMap stCells)) ∧ Hid (Below w3.heap.size w3 wr)) (fun _ i _ => L.length - (intOf i).toNat)
    case atStart => exact ⟨0, none, 0, by omega, rfl, rfl, Lib.hid (World.ownsRow_nil _ _ _ _), Lib.hid (Below.refl _ _)⟩
    case round =>
      obtain ⟨j, A, c, hj, rfl, rfl, HO, HB⟩ := hrel
      have hwz := HB.out.size
      by_cases hlt : j < L.length
      · have hl : (j : Int) < (L.length : Int) := by omega
        obtain ⟨al, e, alb, hcs⟩ := Reads.rowAt (f := stCells) (m := 2) (fun _ => rfl) ((Reads.of_own HV.out.hl).below HB.out) (by decide) (getD_at hlt)
        subst e
        have hft := flat_take j hlt
        generalize L.getD j unk = s at hcs hft
        obtain ⟨s1, s2⟩ := s
        have HFT := Lib.hid hft
        have HCS := Lib.hid hcs
        clear hft hcs
        have hO := ((HO.out.alloc (.cells #[.int .i64 s1, .int .i64 s2] 122)).alloc (.cells #[.int .i64 s1, .int .i64 s2] 79))
        have hN := Blk.new (wr.alloc (.cells #[.int .i64 s1, .int .i64 s2] 122)) 79 #[.int .i64 s1, .int .i64 s2]
        rw [World.size_alloc] at hN
        have HOO := Lib.hid hO
        have HN := Lib.hid hN
        have HB1 := Lib.hid ((HB.out.alloc hwz (.cells #[.int .i64 s1, .int .i64 s2] 122)).alloc (by rw [World.size_alloc]; omega) (.cells #[.int .i64 s1, .int .i64 s2] 79))
        clear hO hN
        have hbytes : (j + 1) * 16 ≤ 140737488355328 := by omega
        go_wp2_with (first
          | (refine wpList_load_at rfl 122 (.tmp 40) rfl (al.add (j * 2)) rfl [.int .i64 s1, .int .i64 s2] _ HCS.out Tryd.underlying122 rfl (by kernel_rfl) ?_)
          | (at_builtin; refine wpList_append_any _ rfl (.tmp 42) (.tmp 44) 66 rfl w3.heap.size 79 ti _ 2 16 Tryd.underlying66 hi0 hz0 hz1 hz2 rfl (by omega) (.slice A j c) j ((L.take j).flatMap stCells) rfl HOO.out (wr.heap.size + 1 + 1) (some ⟨wr.heap.size + 1, 0, none⟩) 1 1 [.int .i64 s1, .int .i64 s2] rfl (reads_blkN HN.out rfl) (by simp [Value.oneCell']) (by unfold maxLen; omega) hbytes (by simp; omega) ?_; intro v5 w5 hown5 hgrow5 hat5; obtain ⟨a5, c5, rfl⟩ := own_form hown5))
        have B5 := Lib.hid (HB1.out.grown hgrow5 (by simp; omega) (fun j e => (HOO.out.lt j e).1))
        have O5 := Lib.hid (show w5.ownsRow w3.heap.size 79 2 (.slice a5 (j + 1) c5) (j + 1) ((L.take (j + 1)).flatMap stCells) by rw [HFT.out]; exact hown5)
        clear hown5 hgrow5 hat5
        go_wp2_with fail
        go_roundw
        case rel => exact ⟨j + 1, a5, c5, by omega, by go_num, rfl, O5, B5⟩
        case measure => simp [intOf]; omega
      · have hl : ¬ (j : Int) < (L.length : Int) := by omega
        obtain rfl : j = L.length := by omega
        have HR5 := Lib.hid (show Reads wr wr.heap.size 2 A L.length (L.flatMap stCells) by
          have h := Reads.of_own HO.out
          rw [List.take_of_length_le (Nat.le_refl _)] at h
          exact h)
        have BB := Lib.hid (B3.out.trans (HB.out.mono B3.out.size))
        go_wp2_with fail
        go_ret2
        exact SsPost.yes (A := A) (c := c) HST.out rfl (by simp) HR5.out BB.out
end Go.Proofs.YtiphicejaljhiaaDoor
