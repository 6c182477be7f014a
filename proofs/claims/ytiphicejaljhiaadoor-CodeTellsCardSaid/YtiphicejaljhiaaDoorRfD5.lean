/- stockpotref07.Decode: the code of a function. -/
import Derived.Test.YtiphicejaljhiaaDoorRfP
import Derived.Test.YtiphicejaljhiaaDoorRfEnc
import Derived.Deep.CutRange
import Derived.Deep.CutBlock
import Derived.Deep.RegionHeld3
import Derived.Test.YtiphicejaljhiaaDoorRLast
import Derived.Test.YtiphicejaljhiaaDoorDec
import Derived.Test.YtiphicejaljhiaaDoorRGood
import Derived.Test.YtiphicejaljhiaaDoorRfEnc2
import Derived.Test.YtiphicejaljhiaaDoorOwn
namespace Go.Proofs.YtiphicejaljhiaaDoor
open Go.ChangeShapes Go.WideShapes Go.ChangeAt Go.RowKit
set_option linter.unusedSimpArgs false
set_option linter.unusedVariables false
noncomputable def block32 (n : Nat) : Code := ((Tryd.f32.body).bind (blockOfE n)).getD .skip
/-- A record whose last field is being read: its block fb, and the field's row, of the reading's own. -/
structure CdSt (w W : World) (g fb : Nat) (lo fr : Int) (st : St) (A : Option Addr) (c : Nat) (acc : List Ins) : Prop where
  rd : RfAt W g st
  gr : w.grownBy W (some g)
  gw : g < w.heap.size
  fw : w.heap.size ≤ fb
  F : Blk W fb 60 #[.int .i64 lo, .int .i64 fr, .slice A acc.length c]
  own : W.ownsRow w.heap.size 23 3 (.slice A acc.length c) acc.length (acc.flatMap insCells)
section
variable {w W W' W1 : World} {g fb : Nat} {lo fr : Int} {st st' : St} {A : Option Addr} {c : Nat} {acc : List Ins}
theorem CdSt.read (h : CdSt w W g fb lo fr st A c acc) (hg : W.grownBy W' (some g)) (ht : RfAt W' g st') : CdSt w W' g fb lo fr st' A c acc :=
  ⟨ht, grown_then h.gr hg, h.gw, h.fw, rdKeep h.F hg (by have := h.gw; have := h.fw; omega), own_keep h.own hg h.gw⟩
theorem CdSt.alloc (h : CdSt w W g fb lo fr st A c acc) (o : Obj) : CdSt w (W.alloc o) g fb lo fr st A c acc := ⟨h.rd.alloc o, grown_alloc h.gr o, h.gw, h.fw, h.F.alloc o, h.own.alloc o⟩
theorem CdSt.setX (h : CdSt w W g fb lo fr st A c acc) {xb i : Nat} {cs : Array Value} (hX : Blk W xb 23 cs) (hx : w.heap.size ≤ xb) (hlt : ∀ k, (Value.slice A acc.length c).ownBlock = some k → k < xb) (v : Value) : CdSt w (W.setCell ⟨xb, i, none⟩ v) g fb lo fr st A c acc :=
  ⟨h.rd.grown (grown_set W xb i v) (fun j e => by have := Option.some.inj e; have := h.gw; omega), grown_store h.gr hx v, h.gw, h.fw, h.F.far (p := ⟨xb, i, none⟩) (by have := h.F.ne_ (g' := xb) hX (by decide); simp; omega) v, h.own.kept (grown_set W xb i v) (.inr (fun e => by have := hlt _ e; omega))⟩
theorem CdSt.push (h : CdSt w W g fb lo fr st A c acc) {x : Ins} {A1 : Option Addr} {c1 : Nat} (hg : W.grownBy W1 (Value.slice A acc.length c).ownBlock) (ho : W1.ownsRow w.heap.size 23 3 (.slice A1 (acc.length + 1) c1) (acc.length + 1) (acc.flatMap insCells ++ insCells x)) :
    CdSt w (W1.setCell ⟨fb, 2, none⟩ (.slice A1 (acc.length + 1) c1)) g fb lo fr st A1 c1 (acc ++ [x]) := by
  have F1 := blk_row h.F h.own hg (by decide)
  have hrow : ∀ k, (Value.slice A acc.length c).ownBlock = some k → w.heap.size ≤ k := fun k e => (h.own.lt k e).1
  have hgw := h.gw
  have hfw := h.fw
  refine ⟨(h.rd.grown hg (fun j e => by have := hrow j e; omega)).grown (grown_set W1 fb 2 _) (fun j e => by have := Option.some.inj e; omega), grown_store (grown_own h.gr hg (fun j e => hrow j e)) hfw _, hgw, hfw, ?_, ?_⟩
  · rw [List.length_append]
    exact F1.set_ 2 _
  · rw [List.length_append, List.flatMap_append]
    exact ho.kept (grown_set W1 fb 2 _) (.inr (own_blk_ne ho F1 (by decide)))
end
set_option maxRecDepth 100000 in
set_option maxHeartbeats 4000000 in
theorem d_code {u0 u1 u2 u4 u5 u6 u7 u8 u12 u13 u14 u15 u16 u17 u18 u19 u20 u21 u22 u23 u24 u25 u26 u27 u28 u29 u30 u31 u32 u33 u34 u35 u36 u37 u38 u39 u40 u41 u42 u43 u44 u45 u46 u47 u48 u49 u50 u51 u52 u53 u54 u55 u56 u57 u58 u59 u60 u61 u62 u63 u64 u65 u66 u67 u68 u69 u70 u71 u72 u73 u74 u75 u76 u77 u78 u79 u80 u81 u82 u83 u84 u85 u86 u87 u88 u89 u90 u91 u92 u93 u94 u95 u96 u97 u98 u99 u100 u101 u102 u103 u104 u105 u106 u107 u108 u109 u110 u111 u112 u113 u114 u115 u116 u117 u118 u119 u120 u121 u122 u123 u124 u125 u126 u127 u128 u129 u130 u131 u132 u133 u134 u135 u136 u137 u138 u139 u140 u141 u142 u143 u144 u145 u146 u147 u148 u149 u150 u151 u152 u153 u154 u155 u156 u157 u158 u159 u160 u161 u162 u163 u164 u165 u166 u167 u168 u169 u170 u171 u172 u173 u174 u175 u176 u177 u178 u179 u180 u181 u182 u183 u184 u185 : Value} {Q : Exit → Act → World → Prop} (w W : World) (g fb m : Nat) (s0 : St) (lo fr : Int)
    (hS : CdSt w W g fb lo fr s0 none 0 []) (hm : m < 65536)
    (hend : ∀ v11 v12 v48 v49 v50 v51 v52 v53 v54 v55 v56 v57 v58 v59 v60 v61 v62 v63 v64 v65 v66 v67 v68 v69 v70 v71 v72 v73 v74 v75 v76 v77 v78 v79 v80 W' acc A c st, rCode tkR 256 m s0 = (acc, st) → CdSt w W' g fb lo fr st A c acc → acc.length ≤ 65536 → Q .normal ⟨#[u0, u1, u2, .pointer (some ⟨g, 0, none⟩), u4, u5, u6, u7, u8, .pointer (some ⟨fb, 0, none⟩), .int .i64 m, v11, v12, u13, u14, u15, u16, u17, u18, u19, u20, u21, u22, u23, u24, u25, u26, u27, u28, u29, u30, u31, u32, u33, u34, u35, u36, u37, u38, u39, u40, u41, u42, u43, u44, u45, u46, u47, v48, v49, v50, v51, v52, v53, v54, v55, v56, v57, v58, v59, v60, v61, v62, v63, v64, v65, v66, v67, v68, v69, v70, v71, v72, v73, v74, v75, v76, v77, v78, v79, v80, u81, u82, u83, u84, u85, u86, u87, u88, u89, u90, u91, u92, u93, u94, u95, u96, u97, u98, u99, u100, u101, u102, u103, u104, u105, u106, u107, u108, u109, u110, u111, u112, u113, u114, u115, u116, u117, u118, u119, u120, u121, u122, u123, u124, u125, u126, u127, u128, u129, u130, u131, u132, u133, u134, u135, u136, u137, u138, u139, u140, u141, u142, u143, u144, u145, u146, u147, u148, u149, u150, u151, u152, u153, u154, u155, u156, u157, u158, u159, u160, u161, u162, u163, u164, u165, u166, u167, u168, u169, u170, u171, u172, u173, u174, u175, u176, u177, u178, u179, u180, u181, u182, u183, u184, u185], []⟩ W') :
    Code.wp Tryd.prog (block32 2) Q ⟨#[u0, u1, u2, .pointer (some ⟨g, 0, none⟩), u4, u5, u6, u7, u8, .pointer (some ⟨fb, 0, none⟩), .int .i64 m, .int .i64 0, u12, u13, u14, u15, u16, u17, u18, u19, u20, u21, u22, u23, u24, u25, u26, u27, u28, u29, u30, u31, u32, u33, u34, u35, u36, u37, u38, u39, u40, u41, u42, u43, u44, u45, u46, u47, u48, u49, u50, u51, u52, u53, u54, u55, u56, u57, u58, u59, u60, u61, u62, u63, u64, u65, u66, u67, u68, u69, u70, u71, u72, u73, u74, u75, u76, u77, u78, u79, u80, u81, u82, u83, u84, u85, u86, u87, u88, u89, u90, u91, u92, u93, u94, u95, u96, u97, u98, u99, u100, u101, u102, u103, u104, u105, u106, u107, u108, u109, u110, u111, u112, u113, u114, u115, u116, u117, u118, u119, u120, u121, u122, u123, u124, u125, u126, u127, u128, u129, u130, u131, u132, u133, u134, u135, u136, u137, u138, u139, u140, u141, u142, u143, u144, u145, u146, u147, u148, u149, u150, u151, u152, u153, u154, u155, u156, u157, u158, u159, u160, u161, u162, u163, u164, u165, u166, u167, u168, u169, u170, u171, u172, u173, u174, u175, u176, u177, u178, u179, u180, u181, u182, u183, u184, u185], []⟩ W := by
  obtain ⟨i0, hi0, hz0, hz1, hz2⟩ := info_parts ins_info
  have HS := Lib.hid hS
  have HEND := Lib.hid hend
  clear hS hend
  conv => arg 2; whnf
  go_wp2_with fail
  go_loopw [11] (fun i wr => ∃ (k r : Nat) (st : St) (acc : List Ins) (A : Option Addr) (c : Nat), i = .int .i64 k ∧ k + r = m ∧ Hid (acc.length = k) ∧ Hid (rCode tkR 256 m s0 = (acc ++ (rCode tkR 256 r st).1, (rCode tkR 256 r st).2)) ∧ Hid (CdSt w wr g fb lo fr st A c acc)) (fun i _ => m - (intOf i).toNat)
  case atStart => exact ⟨0, m, s0, [], none, 0, rfl, by omega, Lib.hid rfl, Lib.hid rfl, HS⟩
  clear HS
  case round =>
    obtain ⟨k, r, st, acc, A, c, rfl, hkr, HAK, HE1, HC⟩ := hrel
    have cb := HC.out.rd.cell
    by_cases hgo : st.2 = false ∧ 0 < r
    · obtain ⟨hbad, hr0⟩ := hgo
      rw [hbad] at cb
      obtain ⟨r, rfl⟩ : ∃ j, r = j + 1 := ⟨r - 1, by omega⟩
      have fk : decide ((k : Int) < (m : Int)) = true := decide_eq_true (by omega)
      have hl : (k : Int) < (m : Int) := by omega
      have HBAD := Lib.hid (show ¬ st.2 = true by rw [hbad]; decide)
      clear hbad
      go_wp2_with fail
      refine (c60 g 1 st _ HC.out.rd (by decide)).mono ?_
      rintro e w6 ⟨rfl, r6, g6⟩
      have hor := nV_rangeR 1 st (by decide)
      have HRC := Lib.hid (show rCode tkR 256 (r + 1) st =
        (⟨nV tkR 1 st, nV tkR (wid (nV tkR 1 st)) (nS tkR 1 st), if sec (nV tkR 1 st) then nV tkR 1 (nS tkR (wid (nV tkR 1 st)) (nS tkR 1 st)) else 0⟩ ::
          (rCode tkR 256 r (if sec (nV tkR 1 st) then nS tkR 1 (nS tkR (wid (nV tkR 1 st)) (nS tkR 1 st)) else nS tkR (wid (nV tkR 1 st)) (nS tkR 1 st))).1,
          (rCode tkR 256 r (if sec (nV tkR 1 st) then nS tkR 1 (nS tkR (wid (nV tkR 1 st)) (nS tkR 1 st)) else nS tkR (wid (nV tkR 1 st)) (nS tkR 1 st))).2) by
        rw [rCode, if_neg HBAD.out, if_neg (by have h := hor.2; rw [show (256 : Int) ^ 1 = 256 from rfl] at h; omega)])
      generalize nV tkR 1 st = on at HRC hor
      generalize nS tkR 1 st = t1 at HRC r6
      have hol := (own_keep HC.out.own g6 HC.out.gw).lt
      have HC6 := Lib.hid ((HC.out.read g6 r6).alloc (.cells #[.int .i64 on, .int .i64 0, .int .i64 0] 23))
      have X6 := Lib.hid (Blk.new w6 23 #[.int .i64 on, .int .i64 0, .int .i64 0])
      have hxw : w.heap.size ≤ w6.heap.size := (grown_then HC.out.gr g6).size
      have x0 := X6.out.cell 0
      have hgx : g < w6.heap.size := Nat.lt_of_lt_of_le HC.out.gw hxw
      clear cb r6 g6 HC
      generalize hxb : w6.heap.size = xb at X6 x0 hxw hol hgx
      go_wp2_with (first | rw [hxb])
      refine (c52 on _).mono ?_
      rintro e w7 ⟨rfl, rfl⟩
      go_wp2_with fail
      refine (c60 g (wid on) t1 _ HC6.out.rd (wid_le on)).mono ?_
      rintro e w8 ⟨rfl, r8, g8⟩
      generalize nV tkR (wid on) t1 = a7 at HRC
      generalize nS tkR (wid on) t1 = t2 at HRC r8
      have X8 := Lib.hid (rdKeep X6.out g8 (by omega))
      have HC8 := Lib.hid (HC6.out.read g8 r8)
      have x1 := X8.out.cell 1
      have xf1 := X8.out.frozen 1
      have HC9 := Lib.hid (HC8.out.setX (i := 1) X8.out hxw (fun k e => (hol k e).2) (.int .i64 a7))
      have X9 := Lib.hid (X8.out.set_ 1 (.int .i64 a7))
      clear r8 g8 x0 HC6 X6 HC8 X8
      have x0 := X9.out.cell 0
      go_wp2_with fail
      refine (c53 on _).mono ?_
      rintro e w10 ⟨rfl, rfl⟩
      clear x1 xf1
      cases hsec : sec on
      · have HR3 := Lib.hid (show rCode tkR 256 (r + 1) st = (⟨on, a7, 0⟩ :: (rCode tkR 256 r t2).1, (rCode tkR 256 r t2).2) by rw [HRC.out, hsec]; rfl)
        clear hsec HRC
        have n0 := X9.out.cell 0
        have n1 := X9.out.cell 1
        have n2 := X9.out.cell 2
        have q2 := HC9.out.F.cell 2
        have Q7 := HC9.out.F.alloc (.cells #[.int .i64 on, .int .i64 a7, .int .i64 0] 23)
        have EZ := Lib.hid (HC9.out.alloc (.cells #[.int .i64 on, .int .i64 a7, .int .i64 0] 23))
        clear HC9 X9
        go_wp2_with (at_builtin; refine wpList_append_any _ rfl (.tmp 76) (.tmp 78) _ rfl w.heap.size 23 i0 _ 3 24 Tryd.underlying58 hi0 hz0 hz1 hz2 rfl (by omega) (.slice A acc.length c) acc.length (acc.flatMap insCells) rfl EZ.out.own ((w8.setCell ⟨xb, 1, none⟩ (.int .i64 a7)).heap.size + 1) (some ⟨(w8.setCell ⟨xb, 1, none⟩ (.int .i64 a7)).heap.size, 0, none⟩) 1 1 [.int .i64 on, .int .i64 a7, .int .i64 0] (by simp [Act.eval]) (reads_row3 (Blk.new (w8.setCell ⟨xb, 1, none⟩ (.int .i64 a7)) 23 #[.int .i64 on, .int .i64 a7, .int .i64 0])) (by simp [Value.oneCell']) (by unfold maxLen; have := HAK.out; omega) (by have := HAK.out; omega) (by rw [World.size_alloc]; have := EZ.out.gr.size; rw [World.size_alloc] at this; omega) ?_; intro v1 w1 hown1 hgrow hat; obtain ⟨a1, c1, rfl⟩ := own_form hown1; have Q9 := blk_row Q7 EZ.out.own hgrow (by decide); have s3 := Q9.cell 2; have t3f := Q9.frozen 2)
        have EY := Lib.hid (EZ.out.push (x := ⟨on, a7, 0⟩) hgrow hown1)
        clear s3 t3f q2 Q7 Q9 n0 n1 n2 EZ hgrow hown1 hat
        go_wp2_with fail
        go_roundw
        case rel =>
          refine ⟨k + 1, r, _, acc ++ [(⟨on, a7, 0⟩ : Ins)], a1, c1, by first | rfl | go_num, by omega, Lib.hid (by have := HAK.out; simp; omega), ?_, EY⟩
          rw [HE1.out, HR3.out, List.append_assoc]
          exact Lib.hid rfl
        case measure => simp [intOf]; omega

      · have HR3 := Lib.hid (show rCode tkR 256 (r + 1) st = (⟨on, a7, nV tkR 1 t2⟩ :: (rCode tkR 256 r (nS tkR 1 t2)).1, (rCode tkR 256 r (nS tkR 1 t2)).2) by rw [HRC.out, hsec]; rfl)
        clear hsec HRC
        go_wp2_with fail
        refine (c60 g 1 t2 _ HC9.out.rd (by decide)).mono ?_
        rintro e w11 ⟨rfl, r11, g11⟩
        generalize nV tkR 1 t2 = b9 at HR3
        generalize nS tkR 1 t2 = t3 at HR3 r11
        have XA := Lib.hid (rdKeep X9.out g11 (by omega))
        have HCA := Lib.hid (HC9.out.read g11 r11)
        have x2 := XA.out.cell 2
        have xf2 := XA.out.frozen 2
        have HCB := Lib.hid (HCA.out.setX (i := 2) XA.out hxw (fun k e => (hol k e).2) (.int .i64 b9))
        have XB := Lib.hid (XA.out.set_ 2 (.int .i64 b9))
        clear r11 g11 x0 HC9 X9 HCA XA
        have n0 := XB.out.cell 0
        have n1 := XB.out.cell 1
        have n2 := XB.out.cell 2
        have q2 := HCB.out.F.cell 2
        have Q7 := HCB.out.F.alloc (.cells #[.int .i64 on, .int .i64 a7, .int .i64 b9] 23)
        have EZ := Lib.hid (HCB.out.alloc (.cells #[.int .i64 on, .int .i64 a7, .int .i64 b9] 23))
        clear HCB XB
        go_wp2_with (at_builtin; refine wpList_append_any _ rfl (.tmp 76) (.tmp 78) _ rfl w.heap.size 23 i0 _ 3 24 Tryd.underlying58 hi0 hz0 hz1 hz2 rfl (by omega) (.slice A acc.length c) acc.length (acc.flatMap insCells) rfl EZ.out.own ((w11.setCell ⟨xb, 2, none⟩ (.int .i64 b9)).heap.size + 1) (some ⟨(w11.setCell ⟨xb, 2, none⟩ (.int .i64 b9)).heap.size, 0, none⟩) 1 1 [.int .i64 on, .int .i64 a7, .int .i64 b9] (by simp [Act.eval]) (reads_row3 (Blk.new (w11.setCell ⟨xb, 2, none⟩ (.int .i64 b9)) 23 #[.int .i64 on, .int .i64 a7, .int .i64 b9])) (by simp [Value.oneCell']) (by unfold maxLen; have := HAK.out; omega) (by have := HAK.out; omega) (by rw [World.size_alloc]; have := EZ.out.gr.size; rw [World.size_alloc] at this; omega) ?_; intro v1 w1 hown1 hgrow hat; obtain ⟨a1, c1, rfl⟩ := own_form hown1; have Q9 := blk_row Q7 EZ.out.own hgrow (by decide); have s3 := Q9.cell 2; have t3f := Q9.frozen 2)
        have EY := Lib.hid (EZ.out.push (x := ⟨on, a7, b9⟩) hgrow hown1)
        clear s3 t3f q2 Q7 Q9 n0 n1 n2 EZ hgrow hown1 hat
        go_wp2_with fail
        go_roundw
        case rel =>
          refine ⟨k + 1, r, _, acc ++ [(⟨on, a7, b9⟩ : Ins)], a1, c1, by first | rfl | go_num, by omega, Lib.hid (by have := HAK.out; simp; omega), ?_, EY⟩
          rw [HE1.out, HR3.out, List.append_assoc]
          exact Lib.hid rfl
        case measure => simp [intOf]; omega

    · have HGO := Lib.hid (show rCode tkR 256 r st = ([], st) by
        cases r with
        | zero => rfl
        | succ k =>
          rw [rCode, if_pos (by
            cases hb : st.2
            · exact absurd ⟨hb, Nat.succ_pos _⟩ hgo
            · rfl)])
      have HF := Lib.hid (show rCode tkR 256 m s0 = (acc, st) by rw [HE1.out, HGO.out, List.append_nil])
      by_cases hk0 : 0 < r
      · have fk : decide ((k : Int) < (m : Int)) = true := decide_eq_true (by omega)
        have hl : (k : Int) < (m : Int) := by omega
        have hbad : st.2 = true := by
          cases hb : st.2
          · exact absurd ⟨hb, hk0⟩ hgo
          · rfl
        rw [hbad] at cb
        clear hbad hgo
        go_wp2_with fail
        exact HEND.out _ _ _ _ _ _ _ _ _ _ _ _ _ _ _ _ _ _ _ _ _ _ _ _ _ _ _ _ _ _ _ _ _ _ _ _ acc A c st HF.out HC.out (by have := HAK.out; omega)
      · have fk : decide ((k : Int) < (m : Int)) = false := decide_eq_false (by omega)
        have hl : ¬ (k : Int) < (m : Int) := by omega
        clear hgo cb
        go_wp2_with fail
        exact HEND.out _ _ _ _ _ _ _ _ _ _ _ _ _ _ _ _ _ _ _ _ _ _ _ _ _ _ _ _ _ _ _ _ _ _ _ _ acc A c st HF.out HC.out (by have := HAK.out; omega)
end Go.Proofs.YtiphicejaljhiaaDoor
namespace Go.Proofs.YtiphicejaljhiaaDoor
open Go.ChangeShapes Go.WideShapes Go.ChangeAt Go.RowKit
set_option linter.unusedSimpArgs false
set_option linter.unusedVariables false
set_option maxRecDepth 100000 in
set_option maxHeartbeats 4000000 in
theorem d_funcs {u0 u1 u2 u5 u6 u9 u10 u11 u12 u13 u14 u15 u16 u17 u18 u19 u20 u21 u22 u23 u24 u25 u26 u27 u28 u29 u30 u31 u32 u33 u34 u35 u36 u37 u38 u39 u40 u41 u42 u43 u44 u45 u46 u47 u48 u49 u50 u51 u52 u53 u54 u55 u56 u57 u58 u59 u60 u61 u62 u63 u64 u65 u66 u67 u68 u69 u70 u71 u72 u73 u74 u75 u76 u77 u78 u79 u80 u81 u82 u83 u84 u85 u86 u87 u88 u89 u90 u91 u92 u93 u94 u95 u96 u97 u98 u99 u100 u101 u102 u103 u104 u105 u106 u107 u108 u109 u110 u111 u112 u113 u114 u115 u116 u117 u118 u119 u120 u121 u122 u123 u124 u125 u126 u127 u128 u129 u130 u131 u132 u133 u134 u135 u136 u137 u138 u139 u140 u141 u142 u143 u144 u145 u146 u147 u148 u149 u150 u151 u152 u153 u154 u155 u156 u157 u158 u159 u160 u161 u162 u163 u164 u165 u166 u167 u168 u169 u170 u171 u172 u173 u174 u175 u176 u177 u178 u179 u180 u181 u182 u183 u184 u185 : Value} {Q : Exit → Act → World → Prop} (w W : World) (g pb n : Nat) (s0 : St) (AS AM : Option Addr) (cS cM : Nat) (S : List (List UInt8)) (M : List Fmv)
    (hD : DecR w W g pb s0 ⟨none, 0, [], AS, cS, S, AM, cM, M⟩) (hn : n < 256)
    (hend : ∀ v8 v9 v10 v11 v12 v29 v30 v31 v32 v33 v34 v35 v36 v37 v38 v39 v40 v41 v42 v43 v44 v45 v46 v47 v48 v49 v50 v51 v52 v53 v54 v55 v56 v57 v58 v59 v60 v61 v62 v63 v64 v65 v66 v67 v68 v69 v70 v71 v72 v73 v74 v75 v76 v77 v78 v79 v80 v81 v82 v83 v84 v85 v86 W' L AF cF st, rFns tkR 256 n s0 = (L.map (·.fn), st) → DecR w W' g pb st ⟨AF, cF, L, AS, cS, S, AM, cM, M⟩ → L.length ≤ 255 → Q .normal ⟨#[u0, u1, u2, .pointer (some ⟨g, 0, none⟩), .int .i64 n, u5, u6, .pointer (some ⟨pb, 0, none⟩), v8, v9, v10, v11, v12, u13, u14, u15, u16, u17, u18, u19, u20, u21, u22, u23, u24, u25, u26, u27, u28, v29, v30, v31, v32, v33, v34, v35, v36, v37, v38, v39, v40, v41, v42, v43, v44, v45, v46, v47, v48, v49, v50, v51, v52, v53, v54, v55, v56, v57, v58, v59, v60, v61, v62, v63, v64, v65, v66, v67, v68, v69, v70, v71, v72, v73, v74, v75, v76, v77, v78, v79, v80, v81, v82, v83, v84, v85, v86, u87, u88, u89, u90, u91, u92, u93, u94, u95, u96, u97, u98, u99, u100, u101, u102, u103, u104, u105, u106, u107, u108, u109, u110, u111, u112, u113, u114, u115, u116, u117, u118, u119, u120, u121, u122, u123, u124, u125, u126, u127, u128, u129, u130, u131, u132, u133, u134, u135, u136, u137, u138, u139, u140, u141, u142, u143, u144, u145, u146, u147, u148, u149, u150, u151, u152, u153, u154, u155, u156, u157, u158, u159, u160, u161, u162, u163, u164, u165, u166, u167, u168, u169, u170, u171, u172, u173, u174, u175, u176, u177, u178, u179, u180, u181, u182, u183, u184, u185], []⟩ W') :
    Code.wp Tryd.prog (block32 0) Q ⟨#[u0, u1, u2, .pointer (some ⟨g, 0, none⟩), .int .i64 n, u5, u6, .pointer (some ⟨pb, 0, none⟩), .int .i64 0, u9, u10, u11, u12, u13, u14, u15, u16, u17, u18, u19, u20, u21, u22, u23, u24, u25, u26, u27, u28, u29, u30, u31, u32, u33, u34, u35, u36, u37, u38, u39, u40, u41, u42, u43, u44, u45, u46, u47, u48, u49, u50, u51, u52, u53, u54, u55, u56, u57, u58, u59, u60, u61, u62, u63, u64, u65, u66, u67, u68, u69, u70, u71, u72, u73, u74, u75, u76, u77, u78, u79, u80, u81, u82, u83, u84, u85, u86, u87, u88, u89, u90, u91, u92, u93, u94, u95, u96, u97, u98, u99, u100, u101, u102, u103, u104, u105, u106, u107, u108, u109, u110, u111, u112, u113, u114, u115, u116, u117, u118, u119, u120, u121, u122, u123, u124, u125, u126, u127, u128, u129, u130, u131, u132, u133, u134, u135, u136, u137, u138, u139, u140, u141, u142, u143, u144, u145, u146, u147, u148, u149, u150, u151, u152, u153, u154, u155, u156, u157, u158, u159, u160, u161, u162, u163, u164, u165, u166, u167, u168, u169, u170, u171, u172, u173, u174, u175, u176, u177, u178, u179, u180, u181, u182, u183, u184, u185], []⟩ W := by
  obtain ⟨i60, fi60, fz60, fz61, fz62⟩ := info_parts fn_info
  have HD0 := Lib.hid hD
  have HEND := Lib.hid hend
  clear hD hend
  conv => arg 2; whnf
  go_wp2_with fail
  go_loopw [8] (fun i wr => ∃ (k r : Nat) (st : St) (AF : Option Addr) (cF : Nat) (L : List Fnv), i = .int .i64 k ∧ k + r = n ∧ Hid (L.length = k) ∧ Hid (rFns tkR 256 n s0 = (L.map (·.fn) ++ (rFns tkR 256 r st).1, (rFns tkR 256 r st).2)) ∧ Hid (DecR w wr g pb st ⟨AF, cF, L, AS, cS, S, AM, cM, M⟩)) (fun i _ => n - (intOf i).toNat)
  case atStart => exact ⟨0, n, s0, none, 0, [], rfl, by omega, Lib.hid rfl, Lib.hid rfl, HD0⟩
  clear HD0
  case round =>
    obtain ⟨k, r, st, AF, cF, L, rfl, hkr, HAK, HE1, HC⟩ := hrel
    have cb := HC.out.rd.cell
    by_cases hgo : st.2 = false ∧ 0 < r
    · obtain ⟨hbad, hr0⟩ := hgo
      rw [hbad] at cb
      obtain ⟨r, rfl⟩ : ∃ j, r = j + 1 := ⟨r - 1, by omega⟩
      have fk : decide ((k : Int) < (n : Int)) = true := decide_eq_true (by omega)
      have hl : (k : Int) < (n : Int) := by omega
      have HBAD := Lib.hid (show ¬ st.2 = true by rw [hbad]; decide)
      clear hbad
      have HRC := Lib.hid (show rFns tkR 256 (r + 1) st = ((rFn tkR 256 st).1 :: (rFns tkR 256 r (rFn tkR 256 st).2).1, (rFns tkR 256 r (rFn tkR 256 st).2).2) by rw [rFns, if_neg HBAD.out])
      have HRF := Lib.hid (show rFn tkR 256 st = (⟨nV tkR 1 st, nV tkR 1 (nS tkR 1 st), (rCode tkR 256 (nV tkR 2 (nS tkR 1 (nS tkR 1 st))).toNat (nS tkR 2 (nS tkR 1 (nS tkR 1 st)))).1⟩, (rCode tkR 256 (nV tkR 2 (nS tkR 1 (nS tkR 1 st))).toNat (nS tkR 2 (nS tkR 1 (nS tkR 1 st)))).2) from rfl)
      go_wp2_with fail
      refine (c60 g 1 st _ HC.out.rd (by decide)).mono ?_
      rintro e w6 ⟨rfl, r6, g6⟩
      generalize nV tkR 1 st = lo at HRF
      generalize nS tkR 1 st = t1 at HRF r6
      have HC6 := Lib.hid (HC.out.read g6 r6)
      clear r6 g6 HC cb
      go_wp2_with fail
      refine (c60 g 1 t1 _ HC6.out.rd (by decide)).mono ?_
      rintro e w7 ⟨rfl, r7, g7⟩
      generalize nV tkR 1 t1 = fr at HRF
      generalize nS tkR 1 t1 = t2 at HRF r7
      have HC7 := Lib.hid (HC6.out.read g7 r7)
      clear r7 g7 HC6
      have HC8 := Lib.hid (HC7.out.alloc (.cells #[.int .i64 lo, .int .i64 fr, .slice none 0 0] 60))
      go_wp2_with fail
      refine (c60 g 2 t2 _ HC8.out.rd (by decide)).mono ?_
      rintro e w9 ⟨rfl, r9, g9⟩
      have hm2 := nV_rangeR 2 t2 (by decide)
      generalize nV tkR 2 t2 = m0 at HRF hm2
      generalize nS tkR 2 t2 = t3 at HRF r9
      obtain ⟨m, rfl⟩ : ∃ m : Nat, m0 = m := ⟨m0.toNat, by omega⟩
      have hm : m < 65536 := by have h := hm2.2; rw [show (256 : Int) ^ 2 = 65536 from rfl] at h; omega
      simp only [Int.toNat_natCast] at HRF
      have HCD := Lib.hid (show CdSt w7 w9 g w7.heap.size lo fr t3 none 0 [] from ⟨r9, grown_then (grown_of_below (below_new w7 _) _) g9, HC7.out.rd.lt, Nat.le_refl _, rdKeep (Blk.new w7 60 _) g9 (Nat.ne_of_gt HC7.out.rd.lt), World.ownsRow_nil _ _ _ _⟩)
      clear r9 g9 HC8 hm2
      go_upto_block 2 with fail
      refine d_code w7 w9 g w7.heap.size m t3 lo fr HCD.out hm ?_
      intro v11 v12 v48 v49 v50 v51 v52 v53 v54 v55 v56 v57 v58 v59 v60 v61 v62 v63 v64 v65 v66 v67 v68 v69 v70 v71 v72 v73 v74 v75 v76 v77 v78 v79 v80 w10 acc A c st' hrc hcd hal
      have D10 := Lib.hid (HC7.out.read hcd.gr hcd.rd)
      have HRN := Lib.hid (show rFns tkR 256 (r + 1) st = (⟨lo, fr, acc⟩ :: (rFns tkR 256 r st').1, (rFns tkR 256 r st').2) by rw [HRC.out, HRF.out, hrc])
      have HFO := Lib.hid (show FnOwn w10 (g + 1) ⟨⟨lo, fr, acc⟩, A, c⟩ from ⟨own_mono hcd.own HC7.out.rd.lt, hal⟩)
      have n0 := hcd.F.cell 0
      have n1 := hcd.F.cell 1
      have n2 := hcd.F.cell 2
      have q2 := D10.out.Q.cell 0
      clear hrc hcd HRC HRF HCD HC7 hal
      have Q7 := D10.out.Q.alloc (.cells #[.int .i64 lo, .int .i64 fr, .slice A acc.length c] 60)
      have EZ := Lib.hid (D10.out.alloc (.cells #[.int .i64 lo, .int .i64 fr, .slice A acc.length c] 60))
      have HFZ := Lib.hid (show FnOwn (w10.alloc (.cells #[.int .i64 lo, .int .i64 fr, .slice A acc.length c] 60)) (g + 1) ⟨⟨lo, fr, acc⟩, A, c⟩ from ⟨HFO.out.1.alloc _, HFO.out.2⟩)
      clear D10 HFO
      go_wp2_with (at_builtin; refine wpList_append_any _ rfl (.tmp 82) (.tmp 84) _ rfl (g + 1) 60 i60 _ 3 40 Tryd.underlying38 fi60 fz60 fz61 fz62 rfl (by omega) (.slice AF L.length cF) L.length (L.flatMap Fnv.cells) rfl EZ.out.oF (w10.heap.size + 1) (some ⟨w10.heap.size, 0, none⟩) 1 1 [.int .i64 lo, .int .i64 fr, .slice A acc.length c] (by simp [Act.eval]) (reads_row3 (Blk.new w10 60 #[.int .i64 lo, .int .i64 fr, .slice A acc.length c])) (by simp [Value.oneCell']) (by unfold maxLen; have := HAK.out; omega) (by have := HAK.out; omega) EZ.out.rd.lt ?_; intro v1 w1 hown1 hgrow hat; obtain ⟨a1, c1, rfl⟩ := own_form hown1; have Q9 := blk_row Q7 EZ.out.oF hgrow (by decide); have s3 := Q9.cell 0; have t3f := Q9.frozen 0)
      have EY := Lib.hid (EZ.out.pushF (x := ⟨⟨lo, fr, acc⟩, A, c⟩) HFZ.out hgrow hown1)
      clear s3 t3f q2 Q7 Q9 n0 n1 n2 EZ hgrow hown1 hat HFZ
      go_wp2_with fail
      go_roundw
      case rel =>
        refine ⟨k + 1, r, st', a1, c1, L ++ [⟨⟨lo, fr, acc⟩, A, c⟩], by first | rfl | go_num, by omega, Lib.hid (by have := HAK.out; simp; omega), ?_, EY⟩
        rw [HE1.out, HRN.out, List.map_append, List.append_assoc]
        exact Lib.hid rfl
      case measure => simp [intOf]; omega
    · have HGO := Lib.hid (show rFns tkR 256 r st = ([], st) by
        cases r with
        | zero => rfl
        | succ k =>
          rw [rFns, if_pos (by
            cases hb : st.2
            · exact absurd ⟨hb, Nat.succ_pos _⟩ hgo
            · rfl)])
      have HF := Lib.hid (show rFns tkR 256 n s0 = (L.map (·.fn), st) by rw [HE1.out, HGO.out, List.append_nil])
      by_cases hk0 : 0 < r
      · have fk : decide ((k : Int) < (n : Int)) = true := decide_eq_true (by omega)
        have hl : (k : Int) < (n : Int) := by omega
        have hbad : st.2 = true := by
          cases hb : st.2
          · exact absurd ⟨hb, hk0⟩ hgo
          · rfl
        rw [hbad] at cb
        clear hbad hgo
        go_wp2_with fail
        exact HEND.out _ _ _ _ _ _ _ _ _ _ _ _ _ _ _ _ _ _ _ _ _ _ _ _ _ _ _ _ _ _ _ _ _ _ _ _ _ _ _ _ _ _ _ _ _ _ _ _ _ _ _ _ _ _ _ _ _ _ _ _ _ _ _ _ L AF cF st HF.out HC.out (by have := HAK.out; omega)
      · have fk : decide ((k : Int) < (n : Int)) = false := decide_eq_false (by omega)
        have hl : ¬ (k : Int) < (n : Int) := by omega
        clear hgo cb
        go_wp2_with fail
        exact HEND.out _ _ _ _ _ _ _ _ _ _ _ _ _ _ _ _ _ _ _ _ _ _ _ _ _ _ _ _ _ _ _ _ _ _ _ _ _ _ _ _ _ _ _ _ _ _ _ _ _ _ _ _ _ _ _ _ _ _ _ _ _ _ _ _ L AF cF st HF.out HC.out (by have := HAK.out; omega)
end Go.Proofs.YtiphicejaljhiaaDoor
namespace Go.Proofs.YtiphicejaljhiaaDoor
open Go.ChangeShapes Go.WideShapes Go.ChangeAt Go.RowKit
set_option linter.unusedSimpArgs false
set_option linter.unusedVariables false
/-- A record whose last field is being read: its block fb, and the field's row, of the reading's own. -/
structure CnSt (w W : World) (g fb : Nat) (kd fa fz : Int) (st : St) (A : Option Addr) (c : Nat) (acc : List Int) : Prop where
  rd : RfAt W g st
  gr : w.grownBy W (some g)
  gw : g < w.heap.size
  fw : w.heap.size ≤ fb
  F : Blk W fb 63 #[.int .i64 kd, .int .i64 fa, .int .i64 fz, .slice A acc.length c]
  own : W.ownsRow w.heap.size 3 1 (.slice A acc.length c) acc.length (acc.map (Value.int .i64))
section
variable {w W W' W1 : World} {g fb : Nat} {kd fa fz : Int} {st st' : St} {A : Option Addr} {c : Nat} {acc : List Int}
theorem CnSt.read (h : CnSt w W g fb kd fa fz st A c acc) (hg : W.grownBy W' (some g)) (ht : RfAt W' g st') : CnSt w W' g fb kd fa fz st' A c acc :=
  ⟨ht, grown_then h.gr hg, h.gw, h.fw, rdKeep h.F hg (by have := h.gw; have := h.fw; omega), own_keep h.own hg h.gw⟩
theorem CnSt.alloc (h : CnSt w W g fb kd fa fz st A c acc) (o : Obj) : CnSt w (W.alloc o) g fb kd fa fz st A c acc := ⟨h.rd.alloc o, grown_alloc h.gr o, h.gw, h.fw, h.F.alloc o, h.own.alloc o⟩
theorem CnSt.setX (h : CnSt w W g fb kd fa fz st A c acc) {xb i : Nat} {cs : Array Value} (hX : Blk W xb 23 cs) (hx : w.heap.size ≤ xb) (hlt : ∀ k, (Value.slice A acc.length c).ownBlock = some k → k < xb) (v : Value) : CnSt w (W.setCell ⟨xb, i, none⟩ v) g fb kd fa fz st A c acc :=
  ⟨h.rd.grown (grown_set W xb i v) (fun j e => by have := Option.some.inj e; have := h.gw; omega), grown_store h.gr hx v, h.gw, h.fw, h.F.far (p := ⟨xb, i, none⟩) (by have := h.F.ne_ (g' := xb) hX (by decide); simp; omega) v, h.own.kept (grown_set W xb i v) (.inr (fun e => by have := hlt _ e; omega))⟩
theorem CnSt.push (h : CnSt w W g fb kd fa fz st A c acc) {x : Int} {A1 : Option Addr} {c1 : Nat} (hg : W.grownBy W1 (Value.slice A acc.length c).ownBlock) (ho : W1.ownsRow w.heap.size 3 1 (.slice A1 (acc.length + 1) c1) (acc.length + 1) (acc.map (Value.int .i64) ++ [Value.int .i64 x])) :
    CnSt w (W1.setCell ⟨fb, 3, none⟩ (.slice A1 (acc.length + 1) c1)) g fb kd fa fz st A1 c1 (acc ++ [x]) := by
  have F1 := blk_row h.F h.own hg (by decide)
  have hrow : ∀ k, (Value.slice A acc.length c).ownBlock = some k → w.heap.size ≤ k := fun k e => (h.own.lt k e).1
  have hgw := h.gw
  have hfw := h.fw
  refine ⟨(h.rd.grown hg (fun j e => by have := hrow j e; omega)).grown (grown_set W1 fb 3 _) (fun j e => by have := Option.some.inj e; omega), grown_store (grown_own h.gr hg (fun j e => hrow j e)) hfw _, hgw, hfw, ?_, ?_⟩
  · rw [List.length_append]
    exact F1.set_ 3 _
  · rw [List.length_append, List.map_append]
    exact ho.kept (grown_set W1 fb 3 _) (.inr (own_blk_ne ho F1 (by decide)))
end
set_option maxRecDepth 100000 in
set_option maxHeartbeats 4000000 in
theorem d_cons {u0 u1 u2 u4 u5 u6 u7 u8 u9 u10 u11 u12 u13 u14 u18 u19 u20 u21 u22 u23 u24 u25 u26 u27 u28 u29 u30 u31 u32 u33 u34 u35 u36 u37 u38 u39 u40 u41 u42 u43 u44 u45 u46 u47 u48 u49 u50 u51 u52 u53 u54 u55 u56 u57 u58 u59 u60 u61 u62 u63 u64 u65 u66 u67 u68 u69 u70 u71 u72 u73 u74 u75 u76 u77 u78 u79 u80 u81 u82 u83 u84 u85 u86 u87 u88 u89 u90 u91 u92 u93 u94 u95 u96 u97 u98 u99 u100 u101 u102 u103 u104 u105 u106 u107 u108 u109 u110 u111 u112 u113 u114 u115 u116 u117 u118 u119 u120 u121 u122 u123 u124 u125 u126 u127 u128 u129 u130 u131 u132 u133 u134 u135 u136 u137 u138 u139 u140 u141 u142 u143 u144 u145 u146 u147 u148 u149 u150 u151 u152 u153 u154 u155 u156 u157 u158 u159 u160 u161 u162 u163 u164 u165 u166 u167 u168 u169 u170 u171 u172 u173 u174 u175 u176 u177 u178 u179 u180 u181 u182 u183 u184 u185 : Value} {Q : Exit → Act → World → Prop} (w W : World) (g fb m : Nat) (s0 : St) (kd fa fz : Int)
    (hS : CnSt w W g fb kd fa fz s0 none 0 []) (hm : m < 256)
    (hend : ∀ v17 v18 v130 v131 v132 v133 v134 v135 v136 v137 v138 v139 v140 v141 v142 v143 v144 v145 v146 v147 v148 v149 v150 v151 W' acc A c st, rCons tkR m s0 = (acc, st) → CnSt w W' g fb kd fa fz st A c acc → acc.length ≤ 65536 → Q .normal ⟨#[u0, u1, u2, .pointer (some ⟨g, 0, none⟩), u4, u5, u6, u7, u8, u9, u10, u11, u12, u13, u14, .pointer (some ⟨fb, 0, none⟩), .int .i64 m, v17, v18, u19, u20, u21, u22, u23, u24, u25, u26, u27, u28, u29, u30, u31, u32, u33, u34, u35, u36, u37, u38, u39, u40, u41, u42, u43, u44, u45, u46, u47, u48, u49, u50, u51, u52, u53, u54, u55, u56, u57, u58, u59, u60, u61, u62, u63, u64, u65, u66, u67, u68, u69, u70, u71, u72, u73, u74, u75, u76, u77, u78, u79, u80, u81, u82, u83, u84, u85, u86, u87, u88, u89, u90, u91, u92, u93, u94, u95, u96, u97, u98, u99, u100, u101, u102, u103, u104, u105, u106, u107, u108, u109, u110, u111, u112, u113, u114, u115, u116, u117, u118, u119, u120, u121, u122, u123, u124, u125, u126, u127, u128, u129, v130, v131, v132, v133, v134, v135, v136, v137, v138, v139, v140, v141, v142, v143, v144, v145, v146, v147, v148, v149, v150, v151, u152, u153, u154, u155, u156, u157, u158, u159, u160, u161, u162, u163, u164, u165, u166, u167, u168, u169, u170, u171, u172, u173, u174, u175, u176, u177, u178, u179, u180, u181, u182, u183, u184, u185], []⟩ W') :
    Code.wp Tryd.prog (block32 8) Q ⟨#[u0, u1, u2, .pointer (some ⟨g, 0, none⟩), u4, u5, u6, u7, u8, u9, u10, u11, u12, u13, u14, .pointer (some ⟨fb, 0, none⟩), .int .i64 m, .int .i64 0, u18, u19, u20, u21, u22, u23, u24, u25, u26, u27, u28, u29, u30, u31, u32, u33, u34, u35, u36, u37, u38, u39, u40, u41, u42, u43, u44, u45, u46, u47, u48, u49, u50, u51, u52, u53, u54, u55, u56, u57, u58, u59, u60, u61, u62, u63, u64, u65, u66, u67, u68, u69, u70, u71, u72, u73, u74, u75, u76, u77, u78, u79, u80, u81, u82, u83, u84, u85, u86, u87, u88, u89, u90, u91, u92, u93, u94, u95, u96, u97, u98, u99, u100, u101, u102, u103, u104, u105, u106, u107, u108, u109, u110, u111, u112, u113, u114, u115, u116, u117, u118, u119, u120, u121, u122, u123, u124, u125, u126, u127, u128, u129, u130, u131, u132, u133, u134, u135, u136, u137, u138, u139, u140, u141, u142, u143, u144, u145, u146, u147, u148, u149, u150, u151, u152, u153, u154, u155, u156, u157, u158, u159, u160, u161, u162, u163, u164, u165, u166, u167, u168, u169, u170, u171, u172, u173, u174, u175, u176, u177, u178, u179, u180, u181, u182, u183, u184, u185], []⟩ W := by
  obtain ⟨i3, hi3, hz3, hz4, hz5⟩ := info_parts i64_info
  have HS := Lib.hid hS
  have HEND := Lib.hid hend
  clear hS hend
  conv => arg 2; whnf
  go_wp2_with fail
  go_loopw [17] (fun i wr => ∃ (k r : Nat) (st : St) (acc : List Int) (A : Option Addr) (c : Nat), i = .int .i64 k ∧ k + r = m ∧ Hid (acc.length = k) ∧ Hid (rCons tkR m s0 = (acc ++ (rCons tkR r st).1, (rCons tkR r st).2)) ∧ Hid (CnSt w wr g fb kd fa fz st A c acc)) (fun i _ => m - (intOf i).toNat)
  case atStart => exact ⟨0, m, s0, [], none, 0, rfl, by omega, Lib.hid rfl, Lib.hid rfl, HS⟩
  clear HS
  case round =>
    obtain ⟨k, r, st, acc, A, c, rfl, hkr, HAK, HE1, HC⟩ := hrel
    have cb := HC.out.rd.cell
    by_cases hgo : st.2 = false ∧ 0 < r
    · obtain ⟨hbad, hr0⟩ := hgo
      rw [hbad] at cb
      obtain ⟨r, rfl⟩ : ∃ j, r = j + 1 := ⟨r - 1, by omega⟩
      have fk : decide ((k : Int) < (m : Int)) = true := decide_eq_true (by omega)
      have hl : (k : Int) < (m : Int) := by omega
      have HBAD := Lib.hid (show ¬ st.2 = true by rw [hbad]; decide)
      clear hbad
      have HRC := Lib.hid (show rCons tkR (r + 1) st = ((if nV tkR 1 st = 255 then -1 else nV tkR 1 st) :: (rCons tkR r (nS tkR 1 st)).1, (rCons tkR r (nS tkR 1 st)).2) by rw [rCons, if_neg HBAD.out])
      go_wp2_with fail
      refine (c60 g 1 st _ HC.out.rd (by decide)).mono ?_
      rintro e w6 ⟨rfl, r6, g6⟩
      generalize nV tkR 1 st = cv at HRC
      generalize nS tkR 1 st = t1 at HRC r6
      have HC6 := Lib.hid (HC.out.read g6 r6)
      clear r6 g6 HC cb
      by_cases hcv : cv = 255
      · have HR3 := Lib.hid (show rCons tkR (r + 1) st = ((-1) :: (rCons tkR r t1).1, (rCons tkR r t1).2) by rw [HRC.out, if_pos hcv])
        subst hcv
        clear HRC
        have q2 := HC6.out.F.cell 3
        have Q7 := HC6.out.F.alloc (.cells #[.int .i64 (-1)] 3)
        have EZ := Lib.hid (HC6.out.alloc (.cells #[.int .i64 (-1)] 3))
        clear HC6
        go_wp2_with (at_builtin; refine wpList_append_any _ rfl (.tmp 147) (.tmp 149) _ rfl w.heap.size 3 i3 _ 1 8 Tryd.underlying61 hi3 hz3 hz4 hz5 rfl (by omega) (.slice A acc.length c) acc.length (acc.map (Value.int .i64)) rfl EZ.out.own (w6.heap.size + 1) (some ⟨w6.heap.size, 0, none⟩) 1 1 [.int .i64 (-1)] (by simp [Act.eval]) (reads_one (Blk.new w6 3 #[.int .i64 (-1)])) (by simp [Value.oneCell']) (by unfold maxLen; have := HAK.out; omega) (by have := HAK.out; omega) EZ.out.gr.size ?_; intro v1 w1 hown1 hgrow hat; obtain ⟨a1, c1, rfl⟩ := own_form hown1; have Q9 := blk_row Q7 EZ.out.own hgrow (by decide); have s3 := Q9.cell 3; have t3f := Q9.frozen 3)
        have EY := Lib.hid (EZ.out.push (x := (-1)) hgrow hown1)
        clear s3 t3f q2 Q7 Q9 EZ hgrow hown1 hat
        go_wp2_with fail
        go_roundw
        case rel =>
          refine ⟨k + 1, r, _, acc ++ [((-1) : Int)], a1, c1, by first | rfl | go_num, by omega, Lib.hid (by have := HAK.out; simp; omega), ?_, EY⟩
          rw [HE1.out, HR3.out, List.append_assoc]
          exact Lib.hid rfl
        case measure => simp [intOf]; omega
      · have HR3 := Lib.hid (show rCons tkR (r + 1) st = (cv :: (rCons tkR r t1).1, (rCons tkR r t1).2) by rw [HRC.out, if_neg hcv])
        clear HRC
        have q2 := HC6.out.F.cell 3
        have Q7 := HC6.out.F.alloc (.cells #[.int .i64 cv] 3)
        have EZ := Lib.hid (HC6.out.alloc (.cells #[.int .i64 cv] 3))
        clear HC6
        go_wp2_with (at_builtin; refine wpList_append_any _ rfl (.tmp 147) (.tmp 149) _ rfl w.heap.size 3 i3 _ 1 8 Tryd.underlying61 hi3 hz3 hz4 hz5 rfl (by omega) (.slice A acc.length c) acc.length (acc.map (Value.int .i64)) rfl EZ.out.own (w6.heap.size + 1) (some ⟨w6.heap.size, 0, none⟩) 1 1 [.int .i64 cv] (by simp [Act.eval]) (reads_one (Blk.new w6 3 #[.int .i64 cv])) (by simp [Value.oneCell']) (by unfold maxLen; have := HAK.out; omega) (by have := HAK.out; omega) EZ.out.gr.size ?_; intro v1 w1 hown1 hgrow hat; obtain ⟨a1, c1, rfl⟩ := own_form hown1; have Q9 := blk_row Q7 EZ.out.own hgrow (by decide); have s3 := Q9.cell 3; have t3f := Q9.frozen 3)
        have EY := Lib.hid (EZ.out.push (x := cv) hgrow hown1)
        clear s3 t3f q2 Q7 Q9 EZ hgrow hown1 hat
        go_wp2_with fail
        go_roundw
        case rel =>
          refine ⟨k + 1, r, _, acc ++ [(cv : Int)], a1, c1, by first | rfl | go_num, by omega, Lib.hid (by have := HAK.out; simp; omega), ?_, EY⟩
          rw [HE1.out, HR3.out, List.append_assoc]
          exact Lib.hid rfl
        case measure => simp [intOf]; omega
    · have HGO := Lib.hid (show rCons tkR r st = ([], st) by
        cases r with
        | zero => rfl
        | succ k =>
          rw [rCons, if_pos (by
            cases hb : st.2
            · exact absurd ⟨hb, Nat.succ_pos _⟩ hgo
            · rfl)])
      have HF := Lib.hid (show rCons tkR m s0 = (acc, st) by rw [HE1.out, HGO.out, List.append_nil])
      by_cases hk0 : 0 < r
      · have fk : decide ((k : Int) < (m : Int)) = true := decide_eq_true (by omega)
        have hl : (k : Int) < (m : Int) := by omega
        have hbad : st.2 = true := by
          cases hb : st.2
          · exact absurd ⟨hb, hk0⟩ hgo
          · rfl
        rw [hbad] at cb
        clear hbad hgo
        go_wp2_with fail
        exact HEND.out _ _ _ _ _ _ _ _ _ _ _ _ _ _ _ _ _ _ _ _ _ _ _ _ _ acc A c st HF.out HC.out (by have := HAK.out; omega)
      · have fk : decide ((k : Int) < (m : Int)) = false := decide_eq_false (by omega)
        have hl : ¬ (k : Int) < (m : Int) := by omega
        clear hgo cb
        go_wp2_with fail
        exact HEND.out _ _ _ _ _ _ _ _ _ _ _ _ _ _ _ _ _ _ _ _ _ _ _ _ _ acc A c st HF.out HC.out (by have := HAK.out; omega)
set_option maxRecDepth 100000 in
set_option maxHeartbeats 4000000 in
theorem d_forms {u0 u1 u2 u4 u5 u8 u9 u10 u11 u12 u13 u15 u16 u17 u18 u19 u20 u21 u22 u23 u24 u25 u26 u27 u28 u29 u30 u31 u32 u33 u34 u35 u36 u37 u38 u39 u40 u41 u42 u43 u44 u45 u46 u47 u48 u49 u50 u51 u52 u53 u54 u55 u56 u57 u58 u59 u60 u61 u62 u63 u64 u65 u66 u67 u68 u69 u70 u71 u72 u73 u74 u75 u76 u77 u78 u79 u80 u81 u82 u83 u84 u85 u86 u87 u88 u89 u90 u91 u92 u93 u94 u95 u96 u97 u98 u99 u100 u101 u102 u103 u104 u105 u106 u107 u108 u109 u110 u111 u112 u113 u114 u115 u116 u117 u118 u119 u120 u121 u122 u123 u124 u125 u126 u127 u128 u129 u130 u131 u132 u133 u134 u135 u136 u137 u138 u139 u140 u141 u142 u143 u144 u145 u146 u147 u148 u149 u150 u151 u152 u153 u154 u155 u156 u157 u158 u159 u160 u161 u162 u163 u164 u165 u166 u167 u168 u169 u170 u171 u172 u173 u174 u175 u176 u177 u178 u179 u180 u181 u182 u183 u184 u185 : Value} {Q : Exit → Act → World → Prop} (w W : World) (g pb n : Nat) (s0 : St) (AF AS : Option Addr) (cF cS : Nat) (L : List Fnv) (S : List (List UInt8))
    (hD : DecR w W g pb s0 ⟨AF, cF, L, AS, cS, S, none, 0, []⟩) (hn : n < 256)
    (hend : ∀ v14 v15 v16 v17 v18 v109 v110 v111 v112 v113 v114 v115 v116 v117 v118 v119 v120 v121 v122 v123 v124 v125 v126 v127 v128 v129 v130 v131 v132 v133 v134 v135 v136 v137 v138 v139 v140 v141 v142 v143 v144 v145 v146 v147 v148 v149 v150 v151 v152 v153 v154 v155 v156 v157 W' M AM cM st, rFms tkR n s0 = (M.map (·.fm), st) → DecR w W' g pb st ⟨AF, cF, L, AS, cS, S, AM, cM, M⟩ → M.length ≤ 255 → Q .normal ⟨#[u0, u1, u2, .pointer (some ⟨g, 0, none⟩), u4, u5, .int .i64 n, .pointer (some ⟨pb, 0, none⟩), u8, u9, u10, u11, u12, u13, v14, v15, v16, v17, v18, u19, u20, u21, u22, u23, u24, u25, u26, u27, u28, u29, u30, u31, u32, u33, u34, u35, u36, u37, u38, u39, u40, u41, u42, u43, u44, u45, u46, u47, u48, u49, u50, u51, u52, u53, u54, u55, u56, u57, u58, u59, u60, u61, u62, u63, u64, u65, u66, u67, u68, u69, u70, u71, u72, u73, u74, u75, u76, u77, u78, u79, u80, u81, u82, u83, u84, u85, u86, u87, u88, u89, u90, u91, u92, u93, u94, u95, u96, u97, u98, u99, u100, u101, u102, u103, u104, u105, u106, u107, u108, v109, v110, v111, v112, v113, v114, v115, v116, v117, v118, v119, v120, v121, v122, v123, v124, v125, v126, v127, v128, v129, v130, v131, v132, v133, v134, v135, v136, v137, v138, v139, v140, v141, v142, v143, v144, v145, v146, v147, v148, v149, v150, v151, v152, v153, v154, v155, v156, v157, u158, u159, u160, u161, u162, u163, u164, u165, u166, u167, u168, u169, u170, u171, u172, u173, u174, u175, u176, u177, u178, u179, u180, u181, u182, u183, u184, u185], []⟩ W') :
    Code.wp Tryd.prog (block32 6) Q ⟨#[u0, u1, u2, .pointer (some ⟨g, 0, none⟩), u4, u5, .int .i64 n, .pointer (some ⟨pb, 0, none⟩), u8, u9, u10, u11, u12, u13, .int .i64 0, u15, u16, u17, u18, u19, u20, u21, u22, u23, u24, u25, u26, u27, u28, u29, u30, u31, u32, u33, u34, u35, u36, u37, u38, u39, u40, u41, u42, u43, u44, u45, u46, u47, u48, u49, u50, u51, u52, u53, u54, u55, u56, u57, u58, u59, u60, u61, u62, u63, u64, u65, u66, u67, u68, u69, u70, u71, u72, u73, u74, u75, u76, u77, u78, u79, u80, u81, u82, u83, u84, u85, u86, u87, u88, u89, u90, u91, u92, u93, u94, u95, u96, u97, u98, u99, u100, u101, u102, u103, u104, u105, u106, u107, u108, u109, u110, u111, u112, u113, u114, u115, u116, u117, u118, u119, u120, u121, u122, u123, u124, u125, u126, u127, u128, u129, u130, u131, u132, u133, u134, u135, u136, u137, u138, u139, u140, u141, u142, u143, u144, u145, u146, u147, u148, u149, u150, u151, u152, u153, u154, u155, u156, u157, u158, u159, u160, u161, u162, u163, u164, u165, u166, u167, u168, u169, u170, u171, u172, u173, u174, u175, u176, u177, u178, u179, u180, u181, u182, u183, u184, u185], []⟩ W := by
  obtain ⟨i63, fi63, gz60, gz61, gz62⟩ := info_parts fm_info
  have HD0 := Lib.hid hD
  have HEND := Lib.hid hend
  clear hD hend
  conv => arg 2; whnf
  go_wp2_with fail
  go_loopw [14] (fun i wr => ∃ (k r : Nat) (st : St) (AM : Option Addr) (cM : Nat) (M : List Fmv), i = .int .i64 k ∧ k + r = n ∧ Hid (M.length = k) ∧ Hid (rFms tkR n s0 = (M.map (·.fm) ++ (rFms tkR r st).1, (rFms tkR r st).2)) ∧ Hid (DecR w wr g pb st ⟨AF, cF, L, AS, cS, S, AM, cM, M⟩)) (fun i _ => n - (intOf i).toNat)
  case atStart => exact ⟨0, n, s0, none, 0, [], rfl, by omega, Lib.hid rfl, Lib.hid rfl, HD0⟩
  clear HD0
  case round =>
    obtain ⟨k, r, st, AM, cM, M, rfl, hkr, HAK, HE1, HC⟩ := hrel
    have cb := HC.out.rd.cell
    by_cases hgo : st.2 = false ∧ 0 < r
    · obtain ⟨hbad, hr0⟩ := hgo
      rw [hbad] at cb
      obtain ⟨r, rfl⟩ : ∃ j, r = j + 1 := ⟨r - 1, by omega⟩
      have fk : decide ((k : Int) < (n : Int)) = true := decide_eq_true (by omega)
      have hl : (k : Int) < (n : Int) := by omega
      have HBAD := Lib.hid (show ¬ st.2 = true by rw [hbad]; decide)
      clear hbad
      have HRC := Lib.hid (show rFms tkR (r + 1) st = ((rFm tkR st).1 :: (rFms tkR r (rFm tkR st).2).1, (rFms tkR r (rFm tkR st).2).2) by rw [rFms, if_neg HBAD.out])
      have HRF := Lib.hid (show rFm tkR st = (⟨nV tkR 1 st, nV tkR 1 (nS tkR 1 st), nV tkR 1 (nS tkR 1 (nS tkR 1 st)), (rCons tkR (nV tkR 1 (nS tkR 1 (nS tkR 1 (nS tkR 1 st)))).toNat (nS tkR 1 (nS tkR 1 (nS tkR 1 (nS tkR 1 st))))).1⟩, (rCons tkR (nV tkR 1 (nS tkR 1 (nS tkR 1 (nS tkR 1 st)))).toNat (nS tkR 1 (nS tkR 1 (nS tkR 1 (nS tkR 1 st))))).2) from rfl)
      go_wp2_with fail
      refine (c60 g 1 st _ HC.out.rd (by decide)).mono ?_
      rintro e w6 ⟨rfl, r6, g6⟩
      generalize nV tkR 1 st = kd at HRF
      generalize nS tkR 1 st = t1 at HRF r6
      have HC6 := Lib.hid (HC.out.read g6 r6)
      clear r6 g6 HC cb
      go_wp2_with fail
      refine (c60 g 1 t1 _ HC6.out.rd (by decide)).mono ?_
      rintro e w7 ⟨rfl, r7, g7⟩
      generalize nV tkR 1 t1 = fa at HRF
      generalize nS tkR 1 t1 = t2 at HRF r7
      have HC7 := Lib.hid (HC6.out.read g7 r7)
      clear r7 g7 HC6
      go_wp2_with fail
      refine (c60 g 1 t2 _ HC7.out.rd (by decide)).mono ?_
      rintro e w8 ⟨rfl, r8, g8⟩
      generalize nV tkR 1 t2 = fz at HRF
      generalize nS tkR 1 t2 = t3 at HRF r8
      have HC8 := Lib.hid (HC7.out.read g8 r8)
      clear r8 g8 HC7
      have HCA := Lib.hid (HC8.out.alloc (.cells #[.int .i64 kd, .int .i64 fa, .int .i64 fz, .slice none 0 0] 63))
      go_wp2_with fail
      refine (c60 g 1 t3 _ HCA.out.rd (by decide)).mono ?_
      rintro e w9 ⟨rfl, r9, g9⟩
      have hm2 := nV_rangeR 1 t3 (by decide)
      generalize nV tkR 1 t3 = m0 at HRF hm2
      generalize nS tkR 1 t3 = t4 at HRF r9
      obtain ⟨m, rfl⟩ : ∃ m : Nat, m0 = m := ⟨m0.toNat, by omega⟩
      have hm : m < 256 := by have h := hm2.2; rw [show (256 : Int) ^ 1 = 256 from rfl] at h; omega
      simp only [Int.toNat_natCast] at HRF
      have HCD := Lib.hid (show CnSt w8 w9 g w8.heap.size kd fa fz t4 none 0 [] from ⟨r9, grown_then (grown_of_below (below_new w8 _) _) g9, HC8.out.rd.lt, Nat.le_refl _, rdKeep (Blk.new w8 63 _) g9 (Nat.ne_of_gt HC8.out.rd.lt), World.ownsRow_nil _ _ _ _⟩)
      clear r9 g9 HCA hm2
      go_upto_block 8 with fail
      refine d_cons w8 w9 g w8.heap.size m t4 kd fa fz HCD.out hm ?_
      intro v17 v18 v130 v131 v132 v133 v134 v135 v136 v137 v138 v139 v140 v141 v142 v143 v144 v145 v146 v147 v148 v149 v150 v151 w10 acc A c st' hrc hcd hal
      have D10 := Lib.hid (HC8.out.read hcd.gr hcd.rd)
      have HRN := Lib.hid (show rFms tkR (r + 1) st = (⟨kd, fa, fz, acc⟩ :: (rFms tkR r st').1, (rFms tkR r st').2) by rw [HRC.out, HRF.out, hrc])
      have HFO := Lib.hid (show FmOwn w10 (g + 1) ⟨⟨kd, fa, fz, acc⟩, A, c⟩ from ⟨own_mono hcd.own HC8.out.rd.lt, hal⟩)
      have n0 := hcd.F.cell 0
      have n1 := hcd.F.cell 1
      have n2 := hcd.F.cell 2
      have n3 := hcd.F.cell 3
      have q2 := D10.out.Q.cell 2
      clear hrc hcd HRC HRF HCD HC8 hal
      have Q7 := D10.out.Q.alloc (.cells #[.int .i64 kd, .int .i64 fa, .int .i64 fz, .slice A acc.length c] 63)
      have EZ := Lib.hid (D10.out.alloc (.cells #[.int .i64 kd, .int .i64 fa, .int .i64 fz, .slice A acc.length c] 63))
      have HFZ := Lib.hid (show FmOwn (w10.alloc (.cells #[.int .i64 kd, .int .i64 fa, .int .i64 fz, .slice A acc.length c] 63)) (g + 1) ⟨⟨kd, fa, fz, acc⟩, A, c⟩ from ⟨HFO.out.1.alloc _, HFO.out.2⟩)
      clear D10 HFO
      go_wp2_with (at_builtin; refine wpList_append_any _ rfl (.tmp 153) (.tmp 155) _ rfl (g + 1) 63 i63 _ 4 48 Tryd.underlying40 fi63 gz60 gz61 gz62 rfl (by omega) (.slice AM M.length cM) M.length (M.flatMap Fmv.cells) rfl EZ.out.oM (w10.heap.size + 1) (some ⟨w10.heap.size, 0, none⟩) 1 1 [.int .i64 kd, .int .i64 fa, .int .i64 fz, .slice A acc.length c] (by simp [Act.eval]) (reads_row4 (Blk.new w10 63 #[.int .i64 kd, .int .i64 fa, .int .i64 fz, .slice A acc.length c])) (by simp [Value.oneCell']) (by unfold maxLen; have := HAK.out; omega) (by have := HAK.out; omega) EZ.out.rd.lt ?_; intro v1 w1 hown1 hgrow hat; obtain ⟨a1, c1, rfl⟩ := own_form hown1; have Q9 := blk_row Q7 EZ.out.oM hgrow (by decide); have s3 := Q9.cell 2; have t3f := Q9.frozen 2)
      have EY := Lib.hid (EZ.out.pushM (x := ⟨⟨kd, fa, fz, acc⟩, A, c⟩) HFZ.out hgrow hown1)
      clear s3 t3f q2 Q7 Q9 n0 n1 n2 n3 EZ hgrow hown1 hat HFZ
      go_wp2_with fail
      go_roundw
      case rel =>
        refine ⟨k + 1, r, st', a1, c1, M ++ [⟨⟨kd, fa, fz, acc⟩, A, c⟩], by first | rfl | go_num, by omega, Lib.hid (by have := HAK.out; simp; omega), ?_, EY⟩
        rw [HE1.out, HRN.out, List.map_append, List.append_assoc]
        exact Lib.hid rfl
      case measure => simp [intOf]; omega
    · have HGO := Lib.hid (show rFms tkR r st = ([], st) by
        cases r with
        | zero => rfl
        | succ k =>
          rw [rFms, if_pos (by
            cases hb : st.2
            · exact absurd ⟨hb, Nat.succ_pos _⟩ hgo
            · rfl)])
      have HF := Lib.hid (show rFms tkR n s0 = (M.map (·.fm), st) by rw [HE1.out, HGO.out, List.append_nil])
      by_cases hk0 : 0 < r
      · have fk : decide ((k : Int) < (n : Int)) = true := decide_eq_true (by omega)
        have hl : (k : Int) < (n : Int) := by omega
        have hbad : st.2 = true := by
          cases hb : st.2
          · exact absurd ⟨hb, hk0⟩ hgo
          · rfl
        rw [hbad] at cb
        clear hbad hgo
        go_wp2_with fail
        exact HEND.out _ _ _ _ _ _ _ _ _ _ _ _ _ _ _ _ _ _ _ _ _ _ _ _ _ _ _ _ _ _ _ _ _ _ _ _ _ _ _ _ _ _ _ _ _ _ _ _ _ _ _ _ _ _ _ M AM cM st HF.out HC.out (by have := HAK.out; omega)
      · have fk : decide ((k : Int) < (n : Int)) = false := decide_eq_false (by omega)
        have hl : ¬ (k : Int) < (n : Int) := by omega
        clear hgo cb
        go_wp2_with fail
        exact HEND.out _ _ _ _ _ _ _ _ _ _ _ _ _ _ _ _ _ _ _ _ _ _ _ _ _ _ _ _ _ _ _ _ _ _ _ _ _ _ _ _ _ _ _ _ _ _ _ _ _ _ _ _ _ _ _ M AM cM st HF.out HC.out (by have := HAK.out; omega)
end Go.Proofs.YtiphicejaljhiaaDoor
namespace Go.Proofs.YtiphicejaljhiaaDoor
open Go.ChangeShapes Go.WideShapes Go.ChangeAt Go.RowKit
set_option linter.unusedSimpArgs false
set_option linter.unusedVariables false
set_option maxRecDepth 100000 in
set_option maxHeartbeats 4000000 in
theorem d_texts {u0 u1 u2 u4 u6 u8 u9 u10 u11 u12 u14 u15 u16 u17 u18 u19 u20 u21 u22 u23 u24 u25 u26 u27 u28 u29 u30 u31 u32 u33 u34 u35 u36 u37 u38 u39 u40 u41 u42 u43 u44 u45 u46 u47 u48 u49 u50 u51 u52 u53 u54 u55 u56 u57 u58 u59 u60 u61 u62 u63 u64 u65 u66 u67 u68 u69 u70 u71 u72 u73 u74 u75 u76 u77 u78 u79 u80 u81 u82 u83 u84 u85 u86 u87 u88 u89 u90 u91 u92 u93 u94 u95 u96 u97 u98 u99 u100 u101 u102 u103 u104 u105 u106 u107 u108 u109 u110 u111 u112 u113 u114 u115 u116 u117 u118 u119 u120 u121 u122 u123 u124 u125 u126 u127 u128 u129 u130 u131 u132 u133 u134 u135 u136 u137 u138 u139 u140 u141 u142 u143 u144 u145 u146 u147 u148 u149 u150 u151 u152 u153 u154 u155 u156 u157 u158 u159 u160 u161 u162 u163 u164 u165 u166 u167 u168 u169 u170 u171 u172 u173 u174 u175 u176 u177 u178 u179 u180 u181 u182 u183 u184 u185 : Value} {Q : Exit → Act → World → Prop} (w W : World) (g pb n : Nat) (s0 : St) (AF AM : Option Addr) (cF cM : Nat) (L : List Fnv) (M : List Fmv)
    (hD : DecR w W g pb s0 ⟨AF, cF, L, none, 0, [], AM, cM, M⟩) (hn : n < 256) (hQ : ∀ c (a : Act) d v w', Q (.panic c) (a.put d v) w' → Q (.panic c) a w')
    (hend : ∀ v13 v87 v88 v89 v90 v91 v92 v93 v94 v95 v96 v97 v98 v99 v100 v101 v102 v103 v104 v105 v106 v107 v108 W' S AS cS st, rStrs tkR n s0 = (S, st) → DecR w W' g pb st ⟨AF, cF, L, AS, cS, S, AM, cM, M⟩ → S.length ≤ 255 → Q .normal ⟨#[u0, u1, u2, .pointer (some ⟨g, 0, none⟩), u4, .int .i64 n, u6, .pointer (some ⟨pb, 0, none⟩), u8, u9, u10, u11, u12, v13, u14, u15, u16, u17, u18, u19, u20, u21, u22, u23, u24, u25, u26, u27, u28, u29, u30, u31, u32, u33, u34, u35, u36, u37, u38, u39, u40, u41, u42, u43, u44, u45, u46, u47, u48, u49, u50, u51, u52, u53, u54, u55, u56, u57, u58, u59, u60, u61, u62, u63, u64, u65, u66, u67, u68, u69, u70, u71, u72, u73, u74, u75, u76, u77, u78, u79, u80, u81, u82, u83, u84, u85, u86, v87, v88, v89, v90, v91, v92, v93, v94, v95, v96, v97, v98, v99, v100, v101, v102, v103, v104, v105, v106, v107, v108, u109, u110, u111, u112, u113, u114, u115, u116, u117, u118, u119, u120, u121, u122, u123, u124, u125, u126, u127, u128, u129, u130, u131, u132, u133, u134, u135, u136, u137, u138, u139, u140, u141, u142, u143, u144, u145, u146, u147, u148, u149, u150, u151, u152, u153, u154, u155, u156, u157, u158, u159, u160, u161, u162, u163, u164, u165, u166, u167, u168, u169, u170, u171, u172, u173, u174, u175, u176, u177, u178, u179, u180, u181, u182, u183, u184, u185], []⟩ W') :
    Code.wp Tryd.prog (block32 4) Q ⟨#[u0, u1, u2, .pointer (some ⟨g, 0, none⟩), u4, .int .i64 n, u6, .pointer (some ⟨pb, 0, none⟩), u8, u9, u10, u11, u12, .int .i64 0, u14, u15, u16, u17, u18, u19, u20, u21, u22, u23, u24, u25, u26, u27, u28, u29, u30, u31, u32, u33, u34, u35, u36, u37, u38, u39, u40, u41, u42, u43, u44, u45, u46, u47, u48, u49, u50, u51, u52, u53, u54, u55, u56, u57, u58, u59, u60, u61, u62, u63, u64, u65, u66, u67, u68, u69, u70, u71, u72, u73, u74, u75, u76, u77, u78, u79, u80, u81, u82, u83, u84, u85, u86, u87, u88, u89, u90, u91, u92, u93, u94, u95, u96, u97, u98, u99, u100, u101, u102, u103, u104, u105, u106, u107, u108, u109, u110, u111, u112, u113, u114, u115, u116, u117, u118, u119, u120, u121, u122, u123, u124, u125, u126, u127, u128, u129, u130, u131, u132, u133, u134, u135, u136, u137, u138, u139, u140, u141, u142, u143, u144, u145, u146, u147, u148, u149, u150, u151, u152, u153, u154, u155, u156, u157, u158, u159, u160, u161, u162, u163, u164, u165, u166, u167, u168, u169, u170, u171, u172, u173, u174, u175, u176, u177, u178, u179, u180, u181, u182, u183, u184, u185], []⟩ W := by
  obtain ⟨i9, fi9, hz90, hz91, hz92⟩ := info_parts str_info
  have HD0 := Lib.hid hD
  have HQ := Lib.hid hQ
  have HEND := Lib.hid hend
  clear hD hend hQ
  conv => arg 2; whnf
  go_wp2_with fail
  go_loopw [13] (fun i wr => ∃ (k r : Nat) (st : St) (AS : Option Addr) (cS : Nat) (S : List (List UInt8)), i = .int .i64 k ∧ k + r = n ∧ Hid (S.length = k) ∧ Hid (rStrs tkR n s0 = (S ++ (rStrs tkR r st).1, (rStrs tkR r st).2)) ∧ Hid (DecR w wr g pb st ⟨AF, cF, L, AS, cS, S, AM, cM, M⟩)) (fun i _ => n - (intOf i).toNat)
  case atStart => exact ⟨0, n, s0, none, 0, [], rfl, by omega, Lib.hid rfl, Lib.hid rfl, HD0⟩
  clear HD0
  case round =>
    obtain ⟨k, r, st, AS, cS, S, rfl, hkr, HAK, HE1, HC⟩ := hrel
    have cb := HC.out.rd.cell
    by_cases hgo : st.2 = false ∧ 0 < r
    · obtain ⟨hbad, hr0⟩ := hgo
      rw [hbad] at cb
      obtain ⟨r, rfl⟩ : ∃ j, r = j + 1 := ⟨r - 1, by omega⟩
      have fk : decide ((k : Int) < (n : Int)) = true := decide_eq_true (by omega)
      have hl : (k : Int) < (n : Int) := by omega
      have HBAD := Lib.hid (show ¬ st.2 = true by rw [hbad]; decide)
      clear hbad
      obtain ⟨sn, hsn⟩ : ∃ sn : Nat, nV tkR 1 st = sn := ⟨(nV tkR 1 st).toNat, by have := nV_rangeR 1 st (by decide); omega⟩
      have hsn8 : sn < 256 := by have h := (nV_rangeR 1 st (by decide)).2; rw [show (256 : Int) ^ 1 = 256 from rfl] at h; omega
      have HRC := Lib.hid (show rStrs tkR (r + 1) st = ((tkR sn (nS tkR 1 st)).1 :: (rStrs tkR r (tkR sn (nS tkR 1 st)).2).1, (rStrs tkR r (tkR sn (nS tkR 1 st)).2).2) by rw [rStrs, if_neg HBAD.out]; simp only [hsn, Int.toNat_natCast])
      have q1 := HC.out.Q.cell 1
      have HSN := Lib.hid hsn
      clear hsn
      go_wp2_with fail
      have Dd := Lib.hid HC.out.drew
      clear HC cb
      refine wp_region_last (S := fun V => V.cell? ⟨pb, 1, none⟩ = some (.slice AS S.length cS)) 10 (by kernel_rfl) (by kernel_rfl) (by kernel_rfl) (by kernel_rfl) q1 (fun hHeld => ?_)
      refine wpAnyH_take (i := 0) (oi := ⟨some 99, _, _, _, _, _⟩) (v := ?_) rfl (by kernel_rfl) (by kernel_rfl) (by kernel_rfl) (fun _ _ _ h => HQ.out _ _ _ _ _ h) (Or.inl ⟨by kernel_rfl, ?_⟩) (by assumption) ?_
      rotate_left
      · intro w hSw
        go_simp
        try with_reducible rfl
      try simp only [Act.put, List.setIfInBounds_toArray, List.set_cons_zero, List.set_cons_succ]
      refine wpAnyH_take (i := 1) (oi := ⟨some 100, _, _, _, _, _⟩) (v := ?_) rfl (by kernel_rfl) (by kernel_rfl) (by kernel_rfl) (fun _ _ _ h => HQ.out _ _ _ _ _ h) (Or.inl ⟨by kernel_rfl, ?_⟩) (by assumption) ?_
      rotate_left
      · intro w hSw
        go_simp
        try with_reducible rfl
      try simp only [Act.put, List.setIfInBounds_toArray, List.set_cons_zero, List.set_cons_succ]
      refine wpAnyH_take (i := 2) (oi := ⟨some 101, _, _, _, _, _⟩) (v := ?_) rfl (by kernel_rfl) (by kernel_rfl) (by kernel_rfl) (fun _ _ _ h => HQ.out _ _ _ _ _ h) (Or.inl ⟨by kernel_rfl, ?_⟩) (by assumption) ?_
      rotate_left
      · intro w hSw
        go_simp
        try with_reducible rfl
      try simp only [Act.put, List.setIfInBounds_toArray, List.set_cons_zero, List.set_cons_succ]
      refine wpAnyH_take (i := 3) (oi := ⟨some 102, _, _, _, _, _⟩) (v := ?_) rfl (by kernel_rfl) (by kernel_rfl) (by kernel_rfl) (fun _ _ _ h => HQ.out _ _ _ _ _ h) (Or.inl ⟨by kernel_rfl, ?_⟩) (by assumption) ?_
      rotate_left
      · intro w hSw
        go_simp
        try with_reducible rfl
      try simp only [Act.put, List.setIfInBounds_toArray, List.set_cons_zero, List.set_cons_succ]
      refine wpAnyH_ready (rs := [4]) (by kernel_rfl) (by simp) ?_
      refine AllReadyH.cons (o := ⟨some 103, _, _, _, _, _⟩) rfl (fun K hK => ?_) AllReadyH.nil
      refine step_call (by rfl) 60 #[.tmp 102, .const (.int .i64 1)] #[108, 3] (by rfl) Tryd.f60 Tryd.func60 (by kernel_rfl) (by kernel_rfl) #[.pointer (some ⟨g, 0, none⟩), .int .i64 (1 : Nat)] (by rfl) (c60 g 1 st _ Dd.out.rd (by decide)) ?_
      rintro e w5 ⟨rfl, r5, g5⟩
      refine ⟨_, rfl, ?_⟩
      rw [HSN.out]
      have D5 := Lib.hid (Dd.out.read g5 r5)
      refine hK.out _ _ ?_ (fun hHeld => ?_)
      · exact D5.out.Q.cell 1
      clear hK K
      try simp only [Act.put, List.setIfInBounds_toArray, List.set_cons_zero, List.set_cons_succ]
      refine wpAnyH_ready (rs := [5]) (by kernel_rfl) (by simp) ?_
      refine AllReadyH.cons (o := ⟨some 104, _, _, _, _, _⟩) rfl (fun K hK => ?_) AllReadyH.nil
      refine step_call (by rfl) 61 #[.tmp 101, .tmp 103] #[108, 3] (by rfl) Tryd.f61 Tryd.func61 (by kernel_rfl) (by kernel_rfl) #[.pointer (some ⟨g, 0, none⟩), .int .i64 sn] (by rfl) (c61 g sn (nS tkR 1 st) w5 D5.out.rd (by omega)) ?_
      rintro e w6 ⟨xA, xc, rfl, hxc, hxr, r6, g6⟩
      refine ⟨_, rfl, ?_⟩
      have D6 := Lib.hid (D5.out.read g6 r6)
      have hcv := run_convN (c := xc) (tkR_len sn (nS tkR 1 st)) hxr
      refine hK.out _ _ ?_ (fun hHeld => ?_)
      · exact D6.out.Q.cell 1
      clear hK K
      try simp only [Act.put, List.setIfInBounds_toArray, List.set_cons_zero, List.set_cons_succ]
      refine wpAnyH_ready (rs := [6]) (by kernel_rfl) (by simp) ?_
      refine AllReadyH.cons (o := ⟨some 105, _, _, _, _, _⟩) rfl (fun K hK => ?_) AllReadyH.nil
      go_simp
      refine hK.out _ _ ?_ (fun hHeld => ?_)
      · exact D6.out.Q.cell 1
      clear hK K
      try simp only [Act.put, List.setIfInBounds_toArray, List.set_cons_zero, List.set_cons_succ]
      have D7 := Lib.hid (D6.out.alloc (.cells #[strV (tkR sn (nS tkR 1 st)).1] 9))
      clear hxr hcv
      refine wpAnyH_ready (rs := [7]) (by kernel_rfl) (by simp) ?_
      refine AllReadyH.cons (o := ⟨some 106, _, _, _, _, _⟩) rfl (fun K hK => ?_) AllReadyH.nil
      go_simp
      refine hK.out _ _ ?_ (fun hHeld => ?_)
      · exact D7.out.Q.cell 1
      clear hK K
      try simp only [Act.put, List.setIfInBounds_toArray, List.set_cons_zero, List.set_cons_succ]
      refine wpAnyH_ready (rs := [8]) (by kernel_rfl) (by simp) ?_
      refine AllReadyH.cons (o := ⟨some 107, _, _, _, _, _⟩) rfl (fun K hK => ?_) AllReadyH.nil
      refine step_append_any _ (by rfl) (.tmp 100) (.tmp 106) 39 (by rfl) (g + 1) 9 i9 _ 1 16 Tryd.underlying39 fi9 hz90 hz91 hz92 rfl (by omega) (.slice AS S.length cS) S.length (S.map strV) (by rfl) D7.out.oS (w6.heap.size + 1) (some ⟨w6.heap.size, 0, none⟩) 1 1 [strV (tkR sn (nS tkR 1 st)).1] (by rfl) (reads_one (Blk.new w6 9 #[strV (tkR sn (nS tkR 1 st)).1])) (by simp [Value.oneCell']) (by unfold maxLen; have := HAK.out; omega) (by have := HAK.out; omega) D7.out.rd.lt ?_
      intro v1 w7 oA gA _
      obtain ⟨a1, c1, rfl⟩ := own_form oA
      have Q7 := blk_row D7.out.Q D7.out.oS gA (by decide)
      have z1 := Q7.cell 1
      have z1f := Q7.frozen 1
      refine hK.out _ _ ?_ (fun hHeld => ?_)
      · exact Q7.cell 1
      clear hK K
      try simp only [Act.put, List.setIfInBounds_toArray, List.set_cons_zero, List.set_cons_succ]
      refine wpAnyH_take (i := 9) (oi := ⟨some 108, _, _, _, _, _⟩) (v := ?_) rfl (by kernel_rfl) (by kernel_rfl) (by kernel_rfl) (fun _ _ _ h => HQ.out _ _ _ _ _ h) (Or.inl ⟨by kernel_rfl, ?_⟩) (by assumption) ?_
      rotate_left
      · intro w hSw
        go_simp
        try with_reducible rfl
      try simp only [Act.put, List.setIfInBounds_toArray, List.set_cons_zero, List.set_cons_succ]
      refine wpAnyH_done (by kernel_rfl) ?_ _
      refine lastPost_run (o := ⟨none, _, _, _, _, _⟩) rfl (fun K hK => ?_)
      go_simp
      refine hK.out _ _ ?_
      clear hK K
      have D9 := Lib.hid (D7.out.pushS (x := (tkR sn (nS tkR 1 st)).1) gA oA)
      clear hHeld z1 z1f Q7 oA gA
      go_wp2_with fail
      go_roundw
      case rel =>
        refine ⟨k + 1, r, _, a1, c1, S ++ [(tkR sn (nS tkR 1 st)).1], by first | rfl | go_num, by omega, Lib.hid (by have := HAK.out; simp; omega), ?_, D9⟩
        rw [HE1.out, HRC.out, List.append_assoc]
        exact Lib.hid rfl
      case measure => simp [intOf]; omega
    · have HGO := Lib.hid (show rStrs tkR r st = ([], st) by
        cases r with
        | zero => rfl
        | succ k =>
          rw [rStrs, if_pos (by
            cases hb : st.2
            · exact absurd ⟨hb, Nat.succ_pos _⟩ hgo
            · rfl)])
      have HF := Lib.hid (show rStrs tkR n s0 = (S, st) by rw [HE1.out, HGO.out, List.append_nil])
      by_cases hk0 : 0 < r
      · have fk : decide ((k : Int) < (n : Int)) = true := decide_eq_true (by omega)
        have hl : (k : Int) < (n : Int) := by omega
        have hbad : st.2 = true := by
          cases hb : st.2
          · exact absurd ⟨hb, hk0⟩ hgo
          · rfl
        rw [hbad] at cb
        clear hbad hgo
        go_wp2_with fail
        exact HEND.out _ _ _ _ _ _ _ _ _ _ _ _ _ _ _ _ _ _ _ _ _ _ _ _ S AS cS st HF.out HC.out (by have := HAK.out; omega)
      · have fk : decide ((k : Int) < (n : Int)) = false := decide_eq_false (by omega)
        have hl : ¬ (k : Int) < (n : Int) := by omega
        clear hgo cb
        go_wp2_with fail
        exact HEND.out _ _ _ _ _ _ _ _ _ _ _ _ _ _ _ _ _ _ _ _ _ _ _ _ S AS cS st HF.out HC.out (by have := HAK.out; omega)
end Go.Proofs.YtiphicejaljhiaaDoor
namespace Go.Proofs.YtiphicejaljhiaaDoor
open Go.ChangeShapes Go.WideShapes Go.ChangeAt Go.RowKit
set_option linter.unusedSimpArgs false
set_option linter.unusedVariables false
theorem step_callw {ops : Array Oper} {o : Oper} {a : Act} {w : World} {K : Act → World → Prop} {Q : Exit → Act → World → Prop} {E : Prop} (hw : Region.wanted o (yielded ops a.tmps) = true) (f : Nat) (xs : Array Operand) (ts : Array TypeId)
    (ho : o.op = .call { callee := .value (.func f), args := xs, argTypes := ts }) (fn : Func) (hf : Tryd.prog.funcs[f]? = some fn) (hname : (fn.name == "runtime.NumGoroutine") = false) (hb : fn.body.isNone = false) (vs : Array Value) (hv0 : xs.toList.map a.eval = vs.toList) {R : Ending → World → Prop} (hc : Calls Tryd.prog f vs w R) (h : ∀ e w', R e w' → ∃ v, e = .returned v ∧ K (a.put o.dst v) w') :
    if Region.wanted o (yielded ops a.tmps) = true then Oper.wp Tryd.prog o a w K Q else E := by
  rw [if_pos hw]
  have hv : xs.map a.eval = vs := Array.toList_inj.1 (by rw [Array.toList_map]; exact hv0)
  have h1 : ¬ fn.name = "runtime.NumGoroutine" := by simpa using hname
  have h2 : ¬ fn.body = none := by cases hx : fn.body <;> simp_all
  have hrun : (execOp a.eval o).run Tryd.prog w = .ok (.enter f vs) w := by
    unfold execOp
    simp [ho, resolve, Deferred.ofValue, invoke, callFunc, hf, h1, h2, Act.eval, hv]
  unfold Oper.wp
  rw [hrun]
  exact hc.mono fun e w' hr => by
    obtain ⟨v, rfl, hk⟩ := h e w' hr
    exact hk
/-- A program in rows of the call's own. -/
structure PrOwn (W : World) (base : Nat) (q : PrMem) : Prop where
  oF : W.ownsRow base 60 3 (.slice q.AF q.L.length q.cF) q.L.length (q.L.flatMap Fnv.cells)
  oS : W.ownsRow base 9 1 (.slice q.AS q.S.length q.cS) q.S.length (q.S.map strV)
  oM : W.ownsRow base 63 4 (.slice q.AM q.M.length q.cM) q.M.length (q.M.flatMap Fmv.cells)
  cF : ∀ x ∈ q.L, FnOwn W base x
  cM : ∀ x ∈ q.M, FmOwn W base x
section
variable {w W W' : World} {base g pb k : Nat} {st : St} {q : PrMem}
theorem PrOwn.keep (h : PrOwn W base q) (hg : W.grownBy W' (some k)) (hk : k < base) : PrOwn W' base q :=
  ⟨own_keep h.oF hg hk, own_keep h.oS hg hk, own_keep h.oM hg hk, fun x hx => ⟨own_keep (h.cF x hx).1 hg hk, (h.cF x hx).2⟩, fun x hx => ⟨own_keep (h.cM x hx).1 hg hk, (h.cM x hx).2⟩⟩
theorem PrOwn.ok (h : PrOwn W base q) (l1 : q.L.length ≤ 65536) (l2 : q.S.length ≤ 65536) (l3 : q.M.length ≤ 65536) : PrOk W W.heap.size q :=
  ⟨Reads.of_own h.oF, fun x hx => ⟨Reads.of_own (h.cF x hx).1, by have := (h.cF x hx).2; unfold maxLen; omega⟩, Reads.of_own h.oS, Reads.of_own h.oM, fun x hx => ⟨Reads.of_own (h.cM x hx).1, by have := (h.cM x hx).2; unfold maxLen; omega⟩, by unfold maxLen; omega, by unfold maxLen; omega, by unfold maxLen; omega⟩
theorem DecR.own (h : DecR w W g pb st q) : PrOwn W (g + 1) q := ⟨h.oF, h.oS, h.oM, h.cF, h.cM⟩
end
def emptyMem : PrMem := ⟨none, 0, [], none, 0, [], none, 0, []⟩
/-- What Decode's end leaves. -/
def GotPost (w : World) (b : List UInt8) (e : Ending) (w' : World) : Prop := ∃ AF cF L AS cS S AM cM M, e = .returned (.agg #[.slice AF (L : List Fnv).length cF, .slice AS (S : List (List UInt8)).length cS, .slice AM (M : List Fmv).length cM, .bool (dec b).isSome]) ∧ (PrMem.mk AF cF L AS cS S AM cM M).pr = (dec b).getD emptyPr ∧ PrOk w' w'.heap.size ⟨AF, cF, L, AS, cS, S, AM, cM, M⟩ ∧ Below w.heap.size w w'
theorem end32 {w W : World} {b : List UInt8} {g : Nat} {q : PrMem} {x y z t : Value} {cs : Array Value} (hP : Blk W w.heap.size 52 cs) (hcs : cs.size = 4) (hx : x = .slice q.AF q.L.length q.cF) (hy : y = .slice q.AS q.S.length q.cS) (hz : z = .slice q.AM q.M.length q.cM) (ht : t = .bool (dec b).isSome) (hq : q.pr = (dec b).getD emptyPr)
    (hO : PrOwn W (g + 1) q) (l1 : q.L.length ≤ 65536) (l2 : q.S.length ≤ 65536) (l3 : q.M.length ≤ 65536) (hg : w.heap.size < g) (hb : Below w.heap.size w W) (a : Act) (h1 : a.tmps.getD 2 undef = .pointer (some ⟨w.heap.size, 0, none⟩)) (h2 : a.defers = []) :
    bodyPost Tryd.prog Tryd.f32 (GotPost w b) .ret a ((((W.setCell ⟨w.heap.size, 0, none⟩ x).setCell ⟨w.heap.size, 1, none⟩ y).setCell ⟨w.heap.size, 2, none⟩ z).setCell ⟨w.heap.size, 3, none⟩ t) := by
  have B4 : Blk ((((W.setCell ⟨w.heap.size, 0, none⟩ x).setCell ⟨w.heap.size, 1, none⟩ y).setCell ⟨w.heap.size, 2, none⟩ z).setCell ⟨w.heap.size, 3, none⟩ t) w.heap.size 52 #[x, y, z, t] := by
    have h := (((hP.set_ 0 x).set_ 1 y).set_ 2 z).set_ 3 t
    obtain ⟨l⟩ := cs
    match l, hcs with
    | [_, _, _, _], _ => exact h
  have BW : Below w.heap.size w ((((W.setCell ⟨w.heap.size, 0, none⟩ x).setCell ⟨w.heap.size, 1, none⟩ y).setCell ⟨w.heap.size, 2, none⟩ z).setCell ⟨w.heap.size, 3, none⟩ t) := (((hb.setCell (p := ⟨w.heap.size, 0, none⟩) (Nat.le_refl _) x).setCell (p := ⟨w.heap.size, 1, none⟩) (Nat.le_refl _) y).setCell (p := ⟨w.heap.size, 2, none⟩) (Nat.le_refl _) z).setCell (p := ⟨w.heap.size, 3, none⟩) (Nat.le_refl _) t
  have O4 := (((hO.keep (grown_set W w.heap.size 0 x) (by omega)).keep (grown_set _ w.heap.size 1 y) (by omega)).keep (grown_set _ w.heap.size 2 z) (by omega)).keep (grown_set _ w.heap.size 3 t) (by omega)
  subst hx hy hz ht
  exact bodyPost_ret (results_cell_row rfl _ _ _ 52 _ (0, 0) _ h1 B4 Tryd.underlying52 rfl (by kernel_rfl)) h2 ⟨q.AF, q.cF, q.L, q.AS, q.cS, q.S, q.AM, q.cM, q.M, rfl, hq, O4.ok l1 l2 l3, BW⟩
theorem nilOwn (W : World) (base : Nat) : PrOwn W base emptyMem := ⟨World.ownsRow_nil _ _ _ _, World.ownsRow_nil _ _ _ _, World.ownsRow_nil _ _ _ _, fun x hx => (List.not_mem_nil hx).elim, fun x hx => (List.not_mem_nil hx).elim⟩
set_option maxRecDepth 100000 in
set_option maxHeartbeats 20000000 in
theorem c32 (b : List UInt8) (A : Option Addr) (c : Nat) (w : World) (hr : Reads w w.heap.size 1 A b.length (cellsB b)) (hc : b.length ≤ c) (hcm : c ≤ maxLen) (hl : b.length ≤ 1099511627776) :
    Calls Tryd.prog 32 #[.slice A b.length c] w (GotPost w b) := by
  have HRB := Lib.hid hr
  have hcm2 := Lib.hid hcm
  have R0 := Lib.hid (show RfAt ((w.alloc (.cells #[.slice none 0 0, .slice none 0 0, .slice none 0 0, .bool false] 52)).alloc (.cells #[.slice A b.length c, .bool false] 110)) (w.heap.size + 1) (b, false) from ⟨A, c, by have h := Blk.new (w.alloc (.cells #[.slice none 0 0, .slice none 0 0, .slice none 0 0, .bool false] 52)) 110 #[.slice A b.length c, .bool false]; rw [World.size_alloc] at h; exact h, ((hr.alloc (Nat.le_refl _) _).more (B' := w.heap.size + 1) (Nat.le_succ _)).alloc (by rw [World.size_alloc]; exact Nat.le_refl _) _, hc, hcm⟩)
  have P0 := Lib.hid ((Blk.new w 52 #[.slice none 0 0, .slice none 0 0, .slice none 0 0, .bool false]).alloc (.cells #[.slice A b.length c, .bool false] 110))
  have L0 := Lib.hid (next_ (below_new w (.cells #[.slice none 0 0, .slice none 0 0, .slice none 0 0, .bool false] 52)) (below_new (w.alloc (.cells #[.slice none 0 0, .slice none 0 0, .slice none 0 0, .bool false] 52)) (.cells #[.slice A b.length c, .bool false] 110)))
  clear hr hcm
  go_enter Tryd.func32, Tryd.ntmps32
  go_wp2_with fail
  refine (c60 (w.heap.size + 1) 1 (b, false) _ R0.out (by decide)).mono ?_
  rintro e w2 ⟨rfl, r2, g2⟩
  have P2 := Lib.hid (rdKeep P0.out g2 (by omega))
  have L2 := Lib.hid (L0.out.grown g2 L0.out.size (fun k e => by have := Option.some.inj e; omega))
  have R2 := Lib.hid r2
  clear r2 g2 R0 P0 L0
  go_wp2_with fail
  refine (c60 (w.heap.size + 1) 1 _ _ R2.out (by decide)).mono ?_
  rintro e w3 ⟨rfl, r3, g3⟩
  have P3 := Lib.hid (rdKeep P2.out g3 (by omega))
  have L3 := Lib.hid (L2.out.grown g3 L2.out.size (fun k e => by have := Option.some.inj e; omega))
  have R3 := Lib.hid r3
  clear r3 g3 R2 P2 L2
  go_wp2_with fail
  refine (c60 (w.heap.size + 1) 1 _ _ R3.out (by decide)).mono ?_
  rintro e w5 ⟨rfl, r5, g5⟩
  have P5 := Lib.hid (rdKeep P3.out g5 (by omega))
  have L5 := Lib.hid (L3.out.grown g5 L3.out.size (fun k e => by have := Option.some.inj e; omega))
  clear g5 R3 P3 L3
  have hn1 := nV_rangeR 1 (b, false) (by decide)
  have hn2 := nV_rangeR 1 (nS tkR 1 (b, false)) (by decide)
  have hn3 := nV_rangeR 1 (nS tkR 1 (nS tkR 1 (b, false))) (by decide)
  rw [show (256 : Int) ^ 1 = 256 from rfl] at hn1 hn2 hn3
  have HPR := Lib.hid (show rPr tkR 256 (b, false) = (⟨(rFns tkR 256 (nV tkR 1 (b, false)).toNat (nS tkR 1 (nS tkR 1 (nS tkR 1 (b, false))))).1, (rStrs tkR (nV tkR 1 (nS tkR 1 (b, false))).toNat (rFns tkR 256 (nV tkR 1 (b, false)).toNat (nS tkR 1 (nS tkR 1 (nS tkR 1 (b, false))))).2).1, (rFms tkR (nV tkR 1 (nS tkR 1 (nS tkR 1 (b, false)))).toNat (rStrs tkR (nV tkR 1 (nS tkR 1 (b, false))).toNat (rFns tkR 256 (nV tkR 1 (b, false)).toNat (nS tkR 1 (nS tkR 1 (nS tkR 1 (b, false))))).2).2).1⟩, (rFms tkR (nV tkR 1 (nS tkR 1 (nS tkR 1 (b, false)))).toNat (rStrs tkR (nV tkR 1 (nS tkR 1 (b, false))).toNat (rFns tkR 256 (nV tkR 1 (b, false)).toNat (nS tkR 1 (nS tkR 1 (nS tkR 1 (b, false))))).2).2).2) from rfl)
  generalize nV tkR 1 (nS tkR 1 (nS tkR 1 (b, false))) = m3 at HPR hn3
  generalize nV tkR 1 (nS tkR 1 (b, false)) = m2 at HPR hn2
  generalize nV tkR 1 (b, false) = m1 at HPR hn1
  generalize nS tkR 1 (nS tkR 1 (nS tkR 1 (b, false))) = s3 at HPR r5
  obtain ⟨nf, rfl⟩ : ∃ m : Nat, m1 = m := ⟨m1.toNat, by omega⟩
  obtain ⟨ns, rfl⟩ : ∃ m : Nat, m2 = m := ⟨m2.toNat, by omega⟩
  obtain ⟨nm, rfl⟩ : ∃ m : Nat, m3 = m := ⟨m3.toNat, by omega⟩
  simp only [Int.toNat_natCast] at HPR
  have hnf : nf < 256 := by omega
  have hns : ns < 256 := by omega
  have hnm : nm < 256 := by omega
  have D6 := Lib.hid (show DecR w (w5.alloc (.cells #[.slice none 0 0, .slice none 0 0, .slice none 0 0] 42)) (w.heap.size + 1) w5.heap.size s3 ⟨none, 0, [], none, 0, [], none, 0, []⟩ from ⟨L5.out.alloc L5.out.size _, Nat.lt_succ_self _, r5.lt, r5.alloc _, P5.out.alloc _, Blk.new w5 42 _, World.ownsRow_nil _ _ _ _, World.ownsRow_nil _ _ _ _, World.ownsRow_nil _ _ _ _, fun x hx => (List.not_mem_nil hx).elim, fun x hx => (List.not_mem_nil hx).elim⟩)
  clear r5 P5 L5 hn1 hn2 hn3
  go_upto_block 0 with fail
  refine d_funcs w _ (w.heap.size + 1) w5.heap.size nf s3 none none 0 0 [] [] D6.out hnf ?_
  intro v8 v9 v10 v11 v12 v29 v30 v31 v32 v33 v34 v35 v36 v37 v38 v39 v40 v41 v42 v43 v44 v45 v46 v47 v48 v49 v50 v51 v52 v53 v54 v55 v56 v57 v58 v59 v60 v61 v62 v63 v64 v65 v66 v67 v68 v69 v70 v71 v72 v73 v74 v75 v76 v77 v78 v79 v80 v81 v82 v83 v84 v85 v86 w7 L AF cF st1 hf hd hL
  have HF := Lib.hid hf
  have D7 := Lib.hid hd
  have HL := Lib.hid hL
  clear hf hd hL D6
  go_upto_block 4 with fail
  refine d_texts w w7 (w.heap.size + 1) w5.heap.size ns st1 AF none cF 0 L [] D7.out hns (fun _ _ d _ _ h => by cases d <;> exact h) ?_
  intro v13 v87 v88 v89 v90 v91 v92 v93 v94 v95 v96 v97 v98 v99 v100 v101 v102 v103 v104 v105 v106 v107 v108 w8 S AS cS st2 hf hd hS
  have HT := Lib.hid hf
  have D8 := Lib.hid hd
  have HS := Lib.hid hS
  clear hf hd hS D7
  go_upto_block 6 with fail
  refine d_forms w w8 (w.heap.size + 1) w5.heap.size nm st2 AF AS cF cS L S D8.out hnm ?_
  intro v14 v15 v16 v17 v18 v109 v110 v111 v112 v113 v114 v115 v116 v117 v118 v119 v120 v121 v122 v123 v124 v125 v126 v127 v128 v129 v130 v131 v132 v133 v134 v135 v136 v137 v138 v139 v140 v141 v142 v143 v144 v145 v146 v147 v148 v149 v150 v151 v152 v153 v154 v155 v156 v157 w9 M AM cM st hf hd hM
  have HPQ := Lib.hid (show rPr tkR 256 (b, false) = ((PrMem.mk AF cF L AS cS S AM cM M).pr, st) by rw [HPR.out, HF.out, HT.out, hf]; rfl)
  have HM := Lib.hid hM
  have D9 := Lib.hid hd.drew
  have P9 := Lib.hid hd.drew.P
  have L9 := Lib.hid hd.drew.low
  have b0 := hd.P
  obtain ⟨rA, rc, hB, hR, _, _⟩ := hd.rd
  have g0 := hB.cell 0
  have g1 := hB.cell 1
  have k0 := hd.Q.cell 0
  have k1 := hd.Q.cell 1
  have k2 := hd.Q.cell 2
  have HCV := Lib.hid (fun (V : World) (hV : Below w.heap.size w V) => run_conv (c := c) (HRB.out.below hV))
  obtain ⟨rest, bad⟩ := st
  simp only at g0 g1 hR
  have HB9 := Lib.hid hB
  clear hf hM hd HPR HF HT D8 hB
  go_wp2_with fail
  have hcv := HCV.out _ L9.out
  have GB := Lib.hid (show Blk w9.drew (w.heap.size + 1) 110 #[.slice rA rest.length rc, .bool bad] from HB9.out)
  clear hR HB9 b0
  cases bad
  · cases rest with
    | nil =>
      refine wp_region_held_drew (S := fun V => V.cell? ⟨w.heap.size + 1, 1, none⟩ = some (.bool false) ∧ V.cell? ⟨w.heap.size + 1, 0, none⟩ = some (.slice rA 0 rc) ∧ (V.cell? ⟨w5.heap.size, 0, none⟩ = some (.slice AF L.length cF) ∧ V.cell? ⟨w5.heap.size, 1, none⟩ = some (.slice AS S.length cS) ∧ V.cell? ⟨w5.heap.size, 2, none⟩ = some (.slice AM M.length cM)) ∧ (convert 43 9 (.slice A b.length c)).run Tryd.prog V = .ok (.string ⟨b.toArray⟩) V) (by kernel_rfl) ⟨g1, g0, ⟨k0, k1, k2⟩, hcv⟩ (fun hHeld => ?_)
      clear g0 g1 k0 k1 k2 hcv
      generalize w9.drew = d at D9 P9 L9 GB hHeld ⊢
      have HOK := Lib.hid (D9.out.ok (by have := HL.out; simp only; omega) (by have := HS.out; simp only; omega) (by have := HM.out; simp only; omega))
      have KS := Lib.hid (fun (V : World) (hV : Below d.heap.size d V) (hW : Below w.heap.size w V) => (show V.cell? ⟨w.heap.size + 1, 1, none⟩ = some (.bool false) ∧ V.cell? ⟨w.heap.size + 1, 0, none⟩ = some (.slice rA 0 rc) ∧ (V.cell? ⟨w5.heap.size, 0, none⟩ = some (.slice AF L.length cF) ∧ V.cell? ⟨w5.heap.size, 1, none⟩ = some (.slice AS S.length cS) ∧ V.cell? ⟨w5.heap.size, 2, none⟩ = some (.slice AM M.length cM)) ∧ (convert 43 9 (.slice A b.length c)).run Tryd.prog V = .ok (.string ⟨b.toArray⟩) V from ⟨(GB.out.next hV).cell 1, (GB.out.next hV).cell 0, ⟨(D9.out.Q.next hV).cell 0, (D9.out.Q.next hV).cell 1, (D9.out.Q.next hV).cell 2⟩, HCV.out V hW⟩))
      refine wpAnyH_take (i := 0) (oi := ⟨some 158, _, _, _, _, _⟩) (v := ?_) rfl (by kernel_rfl) (by kernel_rfl) (by kernel_rfl) (fun _ _ _ h => h) (Or.inl ⟨by kernel_rfl, ?_⟩) (by assumption) ?_
      rotate_left
      · intro w hSw
        go_simp
        try with_reducible rfl
      try simp only [Act.put, List.setIfInBounds_toArray, List.set_cons_zero, List.set_cons_succ]
      refine wpAnyH_take (i := 1) (oi := ⟨some 159, _, _, _, _, _⟩) (v := ?_) rfl (by kernel_rfl) (by kernel_rfl) (by kernel_rfl) (fun _ _ _ h => h) (Or.inl ⟨by kernel_rfl, ?_⟩) (by assumption) ?_
      rotate_left
      · intro w hSw
        go_simp
        try with_reducible rfl
      try simp only [Act.put, List.setIfInBounds_toArray, List.set_cons_zero, List.set_cons_succ]
      refine wpAnyH_take (i := 2) (oi := ⟨some 160, _, _, _, _, _⟩) (v := ?_) rfl (by kernel_rfl) (by kernel_rfl) (by kernel_rfl) (fun _ _ _ h => h) (Or.inl ⟨by kernel_rfl, ?_⟩) (by assumption) ?_
      rotate_left
      · intro w hSw
        go_simp
        try with_reducible rfl
      try simp only [Act.put, List.setIfInBounds_toArray, List.set_cons_zero, List.set_cons_succ]
      refine wpAnyH_take (i := 3) (oi := ⟨some 161, _, _, _, _, _⟩) (v := ?_) rfl (by kernel_rfl) (by kernel_rfl) (by kernel_rfl) (fun _ _ _ h => h) (Or.inl ⟨by kernel_rfl, ?_⟩) (by assumption) ?_
      rotate_left
      · intro w hSw
        go_simp
        try with_reducible rfl
      try simp only [Act.put, List.setIfInBounds_toArray, List.set_cons_zero, List.set_cons_succ]
      refine wpAnyH_take (i := 4) (oi := ⟨some 162, _, _, _, _, _⟩) (v := ?_) rfl (by kernel_rfl) (by kernel_rfl) (by kernel_rfl) (fun _ _ _ h => h) (Or.inl ⟨by kernel_rfl, ?_⟩) (by assumption) ?_
      rotate_left
      · intro w hSw
        go_simp
        try with_reducible rfl
      try simp only [Act.put, List.setIfInBounds_toArray, List.set_cons_zero, List.set_cons_succ]
      refine wpAnyH_take (i := 5) (oi := ⟨some 163, _, _, _, _, _⟩) (v := ?_) rfl (by kernel_rfl) (by kernel_rfl) (by kernel_rfl) (fun _ _ _ h => h) (Or.inl ⟨by kernel_rfl, ?_⟩) (by assumption) ?_
      rotate_left
      · intro w hSw
        go_simp
        try with_reducible rfl
      try simp only [Act.put, List.setIfInBounds_toArray, List.set_cons_zero, List.set_cons_succ]
      refine wpAnyH_take (i := 6) (oi := ⟨some 164, _, _, _, _, _⟩) (v := ?_) rfl (by kernel_rfl) (by kernel_rfl) (by kernel_rfl) (fun _ _ _ h => h) (Or.inl ⟨by kernel_rfl, ?_⟩) (by assumption) ?_
      rotate_left
      · intro w hSw
        go_simp
        try with_reducible rfl
      try simp only [Act.put, List.setIfInBounds_toArray, List.set_cons_zero, List.set_cons_succ]
      refine wpAnyH_take (i := 7) (oi := ⟨some 165, _, _, _, _, _⟩) (v := ?_) rfl (by kernel_rfl) (by kernel_rfl) (by kernel_rfl) (fun _ _ _ h => h) (Or.inl ⟨by kernel_rfl, ?_⟩) (by assumption) ?_
      rotate_left
      · intro w hSw
        go_simp
        try with_reducible rfl
      try simp only [Act.put, List.setIfInBounds_toArray, List.set_cons_zero, List.set_cons_succ]
      refine wpAnyH_take (i := 8) (oi := ⟨some 166, _, _, _, _, _⟩) (v := ?_) rfl (by kernel_rfl) (by kernel_rfl) (by kernel_rfl) (fun _ _ _ h => h) (Or.inl ⟨by kernel_rfl, ?_⟩) (by assumption) ?_
      rotate_left
      · intro w hSw
        go_simp
        try with_reducible rfl
      try simp only [Act.put, List.setIfInBounds_toArray, List.set_cons_zero, List.set_cons_succ]
      refine wpAnyH_take (i := 9) (oi := ⟨some 167, _, _, _, _, _⟩) (v := ?_) rfl (by kernel_rfl) (by kernel_rfl) (by kernel_rfl) (fun _ _ _ h => h) (Or.inl ⟨by kernel_rfl, ?_⟩) (by assumption) ?_
      rotate_left
      · intro w hSw
        go_simp
        try with_reducible rfl
      try simp only [Act.put, List.setIfInBounds_toArray, List.set_cons_zero, List.set_cons_succ]
      refine wpAnyH_take (i := 10) (oi := ⟨some 168, _, _, _, _, _⟩) (v := ?_) rfl (by kernel_rfl) (by kernel_rfl) (by kernel_rfl) (fun _ _ _ h => h) (Or.inl ⟨by kernel_rfl, ?_⟩) (by assumption) ?_
      rotate_left
      · intro w hSw
        go_simp
        try with_reducible rfl
      try simp only [Act.put, List.setIfInBounds_toArray, List.set_cons_zero, List.set_cons_succ]
      refine wpAnyH_take (i := 11) (oi := ⟨some 169, _, _, _, _, _⟩) (v := ?_) rfl (by kernel_rfl) (by kernel_rfl) (by kernel_rfl) (fun _ _ _ h => h) (Or.inl ⟨by kernel_rfl, ?_⟩) (by assumption) ?_
      rotate_left
      · intro w hSw
        go_simp
        try with_reducible rfl
      try simp only [Act.put, List.setIfInBounds_toArray, List.set_cons_zero, List.set_cons_succ]
      refine wpAnyH_take (i := 12) (oi := ⟨some 170, _, _, _, _, _⟩) (v := ?_) rfl (by kernel_rfl) (by kernel_rfl) (by kernel_rfl) (fun _ _ _ h => h) (Or.inl ⟨by kernel_rfl, ?_⟩) (by assumption) ?_
      rotate_left
      · intro w hSw
        go_simp
        try with_reducible rfl
      try simp only [Act.put, List.setIfInBounds_toArray, List.set_cons_zero, List.set_cons_succ]
      refine wpAnyH_take (i := 13) (oi := ⟨some 171, _, _, _, _, _⟩) (v := ?_) rfl (by kernel_rfl) (by kernel_rfl) (by kernel_rfl) (fun _ _ _ h => h) (Or.inl ⟨by kernel_rfl, ?_⟩) (by assumption) ?_
      rotate_left
      · intro w hSw
        go_simp
        try with_reducible rfl
      try simp only [Act.put, List.setIfInBounds_toArray, List.set_cons_zero, List.set_cons_succ]
      have hc := c29 (PrMem.mk AF cF L AS cS S AM cM M) d HOK.out
      refine wpAnyH_ready (rs := [14]) (by kernel_rfl) (by simp) ?_
      refine AllReadyH.cons (o := ⟨some 172, _, _, _, _, _⟩) rfl (fun K hK => ?_) AllReadyH.nil
      refine step_callw (by kernel_rfl) 29 #[.tmp 171] #[42] (by rfl) Tryd.f29 Tryd.func29 (by kernel_rfl) (by kernel_rfl) #[.agg #[.slice AF L.length cF, .slice AS S.length cS, .slice AM M.length cM]] (by rfl) hc ?_
      rintro e d1 ⟨rfl, b1⟩
      refine ⟨_, rfl, ?_⟩
      have L1 := Lib.hid b1
      have LW1 := Lib.hid (L9.out.trans (b1.mono (by have := L9.out.size; omega)))
      clear b1 hc
      refine hK.out _ _ ?_ (fun hHeld => ?_)
      · exact KS.out _ L1.out LW1.out
      clear hK K
      try simp only [Act.put, List.setIfInBounds_toArray, List.set_cons_zero, List.set_cons_succ]
      generalize hgp : gPr (PrMem.mk AF cF L AS cS S AM cM M).pr = gp
      have HGP := Lib.hid hgp
      clear hgp
      cases gp
      · refine wpAnyH_take (i := 15) (oi := ⟨some 173, _, _, _, _, _⟩) (v := ?_) rfl (by kernel_rfl) (by kernel_rfl) (by kernel_rfl) (fun _ _ _ h => h) (Or.inl ⟨by kernel_rfl, ?_⟩) (by assumption) ?_
        rotate_left
        · intro w hSw
          go_simp
          try with_reducible rfl
        try simp only [Act.put, List.setIfInBounds_toArray, List.set_cons_zero, List.set_cons_succ]
        refine wpAnyH_take (i := 16) (oi := ⟨some 174, _, _, _, _, _⟩) (v := ?_) rfl (by kernel_rfl) (by kernel_rfl) (by kernel_rfl) (fun _ _ _ h => h) (Or.inl ⟨by kernel_rfl, ?_⟩) (by assumption) ?_
        rotate_left
        · intro w hSw
          go_simp
          try with_reducible rfl
        try simp only [Act.put, List.setIfInBounds_toArray, List.set_cons_zero, List.set_cons_succ]
        refine wpAnyH_take (i := 17) (oi := ⟨some 175, _, _, _, _, _⟩) (v := ?_) rfl (by kernel_rfl) (by kernel_rfl) (by kernel_rfl) (fun _ _ _ h => h) (Or.inl ⟨by kernel_rfl, ?_⟩) (by assumption) ?_
        rotate_left
        · intro w hSw
          go_simp
          try with_reducible rfl
        try simp only [Act.put, List.setIfInBounds_toArray, List.set_cons_zero, List.set_cons_succ]
        refine wpAnyH_take (i := 18) (oi := ⟨some 176, _, _, _, _, _⟩) (v := undef) rfl (by kernel_rfl) (by kernel_rfl) (by kernel_rfl) (fun _ _ _ h => h) (Or.inr ⟨by kernel_rfl, rfl⟩) (by assumption) ?_
        try simp only [Act.put, List.setIfInBounds_toArray, List.set_cons_zero, List.set_cons_succ]
        refine wpAnyH_take (i := 19) (oi := ⟨some 177, _, _, _, _, _⟩) (v := undef) rfl (by kernel_rfl) (by kernel_rfl) (by kernel_rfl) (fun _ _ _ h => h) (Or.inr ⟨by kernel_rfl, rfl⟩) (by assumption) ?_
        try simp only [Act.put, List.setIfInBounds_toArray, List.set_cons_zero, List.set_cons_succ]
        refine wpAnyH_take (i := 20) (oi := ⟨some 178, _, _, _, _, _⟩) (v := undef) rfl (by kernel_rfl) (by kernel_rfl) (by kernel_rfl) (fun _ _ _ h => h) (Or.inr ⟨by kernel_rfl, rfl⟩) (by assumption) ?_
        try simp only [Act.put, List.setIfInBounds_toArray, List.set_cons_zero, List.set_cons_succ]
        refine wpAnyH_take (i := 21) (oi := ⟨some 179, _, _, _, _, _⟩) (v := undef) rfl (by kernel_rfl) (by kernel_rfl) (by kernel_rfl) (fun _ _ _ h => h) (Or.inr ⟨by kernel_rfl, rfl⟩) (by assumption) ?_
        try simp only [Act.put, List.setIfInBounds_toArray, List.set_cons_zero, List.set_cons_succ]
        refine wpAnyH_take (i := 22) (oi := ⟨some 180, _, _, _, _, _⟩) (v := undef) rfl (by kernel_rfl) (by kernel_rfl) (by kernel_rfl) (fun _ _ _ h => h) (Or.inr ⟨by kernel_rfl, rfl⟩) (by assumption) ?_
        try simp only [Act.put, List.setIfInBounds_toArray, List.set_cons_zero, List.set_cons_succ]
        refine wpAnyH_take (i := 23) (oi := ⟨some 181, _, _, _, _, _⟩) (v := undef) rfl (by kernel_rfl) (by kernel_rfl) (by kernel_rfl) (fun _ _ _ h => h) (Or.inr ⟨by kernel_rfl, rfl⟩) (by assumption) ?_
        try simp only [Act.put, List.setIfInBounds_toArray, List.set_cons_zero, List.set_cons_succ]
        refine wpAnyH_take (i := 24) (oi := ⟨some 182, _, _, _, _, _⟩) (v := ?_) rfl (by kernel_rfl) (by kernel_rfl) (by kernel_rfl) (fun _ _ _ h => h) (Or.inl ⟨by kernel_rfl, ?_⟩) (by assumption) ?_
        rotate_left
        · intro w hSw
          go_simp
          try with_reducible rfl
        try simp only [Act.put, List.setIfInBounds_toArray, List.set_cons_zero, List.set_cons_succ]
        refine wpAnyH_done (by kernel_rfl) ?_ _
        have P9 := Lib.hid (P9.out.next L1.out)
        have L9 := LW1
        have HN := Lib.hid (show dec b = none by rw [dec_ref, HPQ.out, if_neg]; rintro ⟨_, _, h, _⟩; exact absurd (HGP.out.symm.trans h) (by decide))
        clear hHeld
        have p0 := P9.out.cell 0
        have p1 := P9.out.cell 1
        have p2 := P9.out.cell 2
        have p3 := P9.out.cell 3
        have f0 := P9.out.frozen 0
        have f1 := P9.out.frozen 1
        have f2 := P9.out.frozen 2
        have f3 := P9.out.frozen 3
        go_wp2_with fail
        exact end32 (q := emptyMem) (g := w.heap.size + 1) P9.out rfl rfl rfl rfl (by rw [HN.out]; first | done | rfl) (by rw [HN.out]; first | done | rfl) (nilOwn _ _) (Nat.zero_le _) (Nat.zero_le _) (Nat.zero_le _) (Nat.lt_succ_self _) L9.out _ rfl rfl
      · refine wpAnyH_take (i := 15) (oi := ⟨some 173, _, _, _, _, _⟩) (v := ?_) rfl (by kernel_rfl) (by kernel_rfl) (by kernel_rfl) (fun _ _ _ h => h) (Or.inl ⟨by kernel_rfl, ?_⟩) (by assumption) ?_
        rotate_left
        · intro w hSw
          go_simp
          try with_reducible rfl
        try simp only [Act.put, List.setIfInBounds_toArray, List.set_cons_zero, List.set_cons_succ]
        refine wpAnyH_take (i := 16) (oi := ⟨some 174, _, _, _, _, _⟩) (v := ?_) rfl (by kernel_rfl) (by kernel_rfl) (by kernel_rfl) (fun _ _ _ h => h) (Or.inl ⟨by kernel_rfl, ?_⟩) (by assumption) ?_
        rotate_left
        · intro w hSw
          go_simp
          try with_reducible rfl
        try simp only [Act.put, List.setIfInBounds_toArray, List.set_cons_zero, List.set_cons_succ]
        refine wpAnyH_take (i := 17) (oi := ⟨some 175, _, _, _, _, _⟩) (v := ?_) rfl (by kernel_rfl) (by kernel_rfl) (by kernel_rfl) (fun _ _ _ h => h) (Or.inl ⟨by kernel_rfl, ?_⟩) (by assumption) ?_
        rotate_left
        · intro w hSw
          go_simp
          try with_reducible rfl
        try simp only [Act.put, List.setIfInBounds_toArray, List.set_cons_zero, List.set_cons_succ]
        refine wpAnyH_take (i := 18) (oi := ⟨some 176, _, _, _, _, _⟩) (v := ?_) rfl (by kernel_rfl) (by kernel_rfl) (by kernel_rfl) (fun _ _ _ h => h) (Or.inl ⟨by kernel_rfl, ?_⟩) (by assumption) ?_
        rotate_left
        · intro w hSw
          go_simp
          try with_reducible rfl
        try simp only [Act.put, List.setIfInBounds_toArray, List.set_cons_zero, List.set_cons_succ]
        refine wpAnyH_take (i := 21) (oi := ⟨some 179, _, _, _, _, _⟩) (v := ?_) rfl (by kernel_rfl) (by kernel_rfl) (by kernel_rfl) (fun _ _ _ h => h) (Or.inl ⟨by kernel_rfl, ?_⟩) (by assumption) ?_
        rotate_left
        · intro w hSw
          go_simp
          try with_reducible rfl
        try simp only [Act.put, List.setIfInBounds_toArray, List.set_cons_zero, List.set_cons_succ]
        refine wpAnyH_take (i := 22) (oi := ⟨some 180, _, _, _, _, _⟩) (v := ?_) rfl (by kernel_rfl) (by kernel_rfl) (by kernel_rfl) (fun _ _ _ h => h) (Or.inl ⟨by kernel_rfl, ?_⟩) (by assumption) ?_
        rotate_left
        · intro w hSw
          go_simp
          try with_reducible rfl
        try simp only [Act.put, List.setIfInBounds_toArray, List.set_cons_zero, List.set_cons_succ]
        have hc := c30 (PrMem.mk AF cF L AS cS S AM cM M) d1 (HOK.out.next L1.out) HGP.out
        refine wpAnyH_ready (rs := [19]) (by kernel_rfl) (by simp) ?_
        refine AllReadyH.cons (o := ⟨some 177, _, _, _, _, _⟩) rfl (fun K hK => ?_) AllReadyH.nil
        refine step_callw (by kernel_rfl) 30 #[.tmp 176] #[42] (by rfl) Tryd.f30 Tryd.func30 (by kernel_rfl) (by kernel_rfl) #[.agg #[.slice AF L.length cF, .slice AS S.length cS, .slice AM M.length cM]] (by rfl) hc ?_
        rintro e d2 ⟨v, rfl, ho, b2⟩
        obtain ⟨A8, c8, rfl⟩ := own_form ho
        refine ⟨_, rfl, ?_⟩
        have L2 := Lib.hid (next_ L1.out b2)
        have LW2 := Lib.hid (LW1.out.trans (b2.mono (by have := LW1.out.size; omega)))
        have hcv8 := run_convN (c := c8) rfl (Reads.of_own ho)
        clear b2 hc ho
        refine hK.out _ _ ?_ (fun hHeld => ?_)
        · exact KS.out _ L2.out LW2.out
        clear hK K
        try simp only [Act.put, List.setIfInBounds_toArray, List.set_cons_zero, List.set_cons_succ]
        refine wpAnyH_ready (rs := [20]) (by kernel_rfl) (by simp) ?_
        refine AllReadyH.cons (o := ⟨some 178, _, _, _, _, _⟩) rfl (fun K hK => ?_) AllReadyH.nil
        go_simp
        refine hK.out _ _ ?_ (fun hHeld => ?_)
        · exact KS.out _ L2.out LW2.out
        clear hK K
        try simp only [Act.put, List.setIfInBounds_toArray, List.set_cons_zero, List.set_cons_succ]
        clear hcv8
        generalize he : ePr (PrMem.mk AF cF L AS cS S AM cM M).pr = eb
        have HEB := Lib.hid he
        clear he
        by_cases heb : eb = b
        · subst heb
          refine wpAnyH_take (i := 23) (oi := ⟨some 181, _, _, _, _, _⟩) (v := ?_) rfl (by kernel_rfl) (by kernel_rfl) (by kernel_rfl) (fun _ _ _ h => h) (Or.inl ⟨by kernel_rfl, ?_⟩) (by assumption) ?_
          rotate_left
          · intro w hSw
            go_simp
            try with_reducible rfl
          try simp only [Act.put, List.setIfInBounds_toArray, List.set_cons_zero, List.set_cons_succ]
          refine wpAnyH_take (i := 24) (oi := ⟨some 182, _, _, _, _, _⟩) (v := ?_) rfl (by kernel_rfl) (by kernel_rfl) (by kernel_rfl) (fun _ _ _ h => h) (Or.inl ⟨by kernel_rfl, ?_⟩) (by assumption) ?_
          rotate_left
          · intro w hSw
            go_simp
            try with_reducible rfl
          try simp only [Act.put, List.setIfInBounds_toArray, List.set_cons_zero, List.set_cons_succ]
          refine wpAnyH_done (by kernel_rfl) ?_ _
          have P9 := Lib.hid (P9.out.next L2.out)
          have y0 := (D9.out.Q.next L2.out).cell 0
          have y1 := (D9.out.Q.next L2.out).cell 1
          have y2 := (D9.out.Q.next L2.out).cell 2
          have HN := Lib.hid (show dec eb = some (PrMem.mk AF cF L AS cS S AM cM M).pr by rw [dec_ref, HPQ.out, if_pos ⟨rfl, rfl, HGP.out, HEB.out⟩])
          clear hHeld
          have p0 := P9.out.cell 0
          have p1 := P9.out.cell 1
          have p2 := P9.out.cell 2
          have p3 := P9.out.cell 3
          have f0 := P9.out.frozen 0
          have f1 := P9.out.frozen 1
          have f2 := P9.out.frozen 2
          have f3 := P9.out.frozen 3
          go_wp2_with fail
          exact end32 (q := PrMem.mk AF cF L AS cS S AM cM M) (g := w.heap.size + 1) P9.out rfl rfl rfl rfl (by rw [HN.out]; first | done | rfl) (by rw [HN.out]; first | done | rfl) (D9.out.next L2.out).own (by have := HL.out; simp only; omega) (by have := HS.out; simp only; omega) (by have := HM.out; simp only; omega) (Nat.lt_succ_self _) LW2.out _ rfl rfl
        · have hne : ¬ (⟨eb.toArray⟩ : ByteArray) = ⟨b.toArray⟩ := fun h => heb (by injection h with h; simpa using congrArg Array.toList h)
          refine wpAnyH_take (i := 23) (oi := ⟨some 181, _, _, _, _, _⟩) (v := ?_) rfl (by kernel_rfl) (by kernel_rfl) (by kernel_rfl) (fun _ _ _ h => h) (Or.inl ⟨by kernel_rfl, ?_⟩) (by assumption) ?_
          rotate_left
          · intro w hSw
            go_simp
            try with_reducible rfl
          try simp only [Act.put, List.setIfInBounds_toArray, List.set_cons_zero, List.set_cons_succ]
          refine wpAnyH_take (i := 24) (oi := ⟨some 182, _, _, _, _, _⟩) (v := ?_) rfl (by kernel_rfl) (by kernel_rfl) (by kernel_rfl) (fun _ _ _ h => h) (Or.inl ⟨by kernel_rfl, ?_⟩) (by assumption) ?_
          rotate_left
          · intro w hSw
            go_simp
            try with_reducible rfl
          try simp only [Act.put, List.setIfInBounds_toArray, List.set_cons_zero, List.set_cons_succ]
          refine wpAnyH_done (by kernel_rfl) ?_ _
          have P9 := Lib.hid (P9.out.next L2.out)
          have L9 := LW2
          have HEBN := Lib.hid heb
          have hbe : (!(eb == b)) = true := by rw [beq_eq_false_iff_ne.2 heb]; rfl
          clear heb hne
          have HN := Lib.hid (show dec b = none by rw [dec_ref, HPQ.out, if_neg]; rintro ⟨_, _, _, h⟩; exact HEBN.out (HEB.out.symm.trans h))
          clear hHeld
          have p0 := P9.out.cell 0
          have p1 := P9.out.cell 1
          have p2 := P9.out.cell 2
          have p3 := P9.out.cell 3
          have f0 := P9.out.frozen 0
          have f1 := P9.out.frozen 1
          have f2 := P9.out.frozen 2
          have f3 := P9.out.frozen 3
          go_wp2_with fail
          exact end32 (q := emptyMem) (g := w.heap.size + 1) P9.out rfl rfl rfl rfl (by rw [HN.out]; first | done | rfl) (by rw [HN.out]; first | done | rfl) (nilOwn _ _) (Nat.zero_le _) (Nat.zero_le _) (Nat.zero_le _) (Nat.lt_succ_self _) L9.out _ rfl rfl
          exact absurd (hbe.symm.trans ‹(!eb == b) = false›) (by decide)
    | cons r0 rest =>
      have hl0 : (0 : Int) < (rest.length : Int) + 1 := by omega
      have hl1 : ((rest.length : Int) + 1 > 0) = True := eq_true hl0
      clear k0 k1 k2 hcv
      refine wp_region_held_drew (S := fun V => V.cell? ⟨w.heap.size + 1, 1, none⟩ = some (.bool false) ∧ V.cell? ⟨w.heap.size + 1, 0, none⟩ = some (.slice rA (rest.length + 1) rc)) (by kernel_rfl) ⟨g1, g0⟩ (fun hHeld => ?_)
      clear g1
      generalize w9.drew = d at D9 P9 L9 GB hHeld ⊢
      refine wpAnyH_take (i := 0) (oi := ⟨some 158, _, _, _, _, _⟩) (v := ?_) rfl (by kernel_rfl) (by kernel_rfl) (by kernel_rfl) (fun _ _ _ h => h) (Or.inl ⟨by kernel_rfl, ?_⟩) (by assumption) ?_
      rotate_left
      · intro w hSw
        go_simp
        try with_reducible rfl
      try simp only [Act.put, List.setIfInBounds_toArray, List.set_cons_zero, List.set_cons_succ]
      refine wpAnyH_take (i := 1) (oi := ⟨some 159, _, _, _, _, _⟩) (v := ?_) rfl (by kernel_rfl) (by kernel_rfl) (by kernel_rfl) (fun _ _ _ h => h) (Or.inl ⟨by kernel_rfl, ?_⟩) (by assumption) ?_
      rotate_left
      · intro w hSw
        go_simp
        try with_reducible rfl
      try simp only [Act.put, List.setIfInBounds_toArray, List.set_cons_zero, List.set_cons_succ]
      refine wpAnyH_take (i := 2) (oi := ⟨some 160, _, _, _, _, _⟩) (v := ?_) rfl (by kernel_rfl) (by kernel_rfl) (by kernel_rfl) (fun _ _ _ h => h) (Or.inl ⟨by kernel_rfl, ?_⟩) (by assumption) ?_
      rotate_left
      · intro w hSw
        go_simp
        try with_reducible rfl
      try simp only [Act.put, List.setIfInBounds_toArray, List.set_cons_zero, List.set_cons_succ]
      refine wpAnyH_take (i := 3) (oi := ⟨some 161, _, _, _, _, _⟩) (v := ?_) rfl (by kernel_rfl) (by kernel_rfl) (by kernel_rfl) (fun _ _ _ h => h) (Or.inl ⟨by kernel_rfl, ?_⟩) (by assumption) ?_
      rotate_left
      · intro w hSw
        go_simp
        try with_reducible rfl
      try simp only [Act.put, List.setIfInBounds_toArray, List.set_cons_zero, List.set_cons_succ]
      refine wpAnyH_take (i := 4) (oi := ⟨some 162, _, _, _, _, _⟩) (v := ?_) rfl (by kernel_rfl) (by kernel_rfl) (by kernel_rfl) (fun _ _ _ h => h) (Or.inl ⟨by kernel_rfl, ?_⟩) (by assumption) ?_
      rotate_left
      · intro w hSw
        go_simp
        try with_reducible rfl
      try simp only [Act.put, List.setIfInBounds_toArray, List.set_cons_zero, List.set_cons_succ]
      refine wpAnyH_take (i := 5) (oi := ⟨some 163, _, _, _, _, _⟩) (v := ?_) rfl (by kernel_rfl) (by kernel_rfl) (by kernel_rfl) (fun _ _ _ h => h) (Or.inl ⟨by kernel_rfl, ?_⟩) (by assumption) ?_
      rotate_left
      · intro w hSw
        go_simp
        try with_reducible rfl
      try simp only [Act.put, List.setIfInBounds_toArray, List.set_cons_zero, List.set_cons_succ]
      refine wpAnyH_take (i := 6) (oi := ⟨some 164, _, _, _, _, _⟩) (v := ?_) rfl (by kernel_rfl) (by kernel_rfl) (by kernel_rfl) (fun _ _ _ h => h) (Or.inl ⟨by kernel_rfl, ?_⟩) (by assumption) ?_
      rotate_left
      · intro w hSw
        go_simp
        try with_reducible rfl
      try simp only [Act.put, List.setIfInBounds_toArray, List.set_cons_zero, List.set_cons_succ]
      refine wpAnyH_take (i := 7) (oi := ⟨some 165, _, _, _, _, _⟩) (v := ?_) rfl (by kernel_rfl) (by kernel_rfl) (by kernel_rfl) (fun _ _ _ h => h) (Or.inl ⟨by kernel_rfl, ?_⟩) (by assumption) ?_
      rotate_left
      · intro w hSw
        go_simp
        try with_reducible rfl
      try simp only [Act.put, List.setIfInBounds_toArray, List.set_cons_zero, List.set_cons_succ]
      refine wpAnyH_take (i := 8) (oi := ⟨some 166, _, _, _, _, _⟩) (v := ?_) rfl (by kernel_rfl) (by kernel_rfl) (by kernel_rfl) (fun _ _ _ h => h) (Or.inl ⟨by kernel_rfl, ?_⟩) (by assumption) ?_
      rotate_left
      · intro w hSw
        go_simp
        try with_reducible rfl
      try simp only [Act.put, List.setIfInBounds_toArray, List.set_cons_zero, List.set_cons_succ]
      refine wpAnyH_take (i := 9) (oi := ⟨some 167, _, _, _, _, _⟩) (v := ?_) rfl (by kernel_rfl) (by kernel_rfl) (by kernel_rfl) (fun _ _ _ h => h) (Or.inl ⟨by kernel_rfl, ?_⟩) (by assumption) ?_
      rotate_left
      · intro w hSw
        go_simp
        try with_reducible rfl
      try simp only [Act.put, List.setIfInBounds_toArray, List.set_cons_zero, List.set_cons_succ]
      refine wpAnyH_take (i := 10) (oi := ⟨some 168, _, _, _, _, _⟩) (v := ?_) rfl (by kernel_rfl) (by kernel_rfl) (by kernel_rfl) (fun _ _ _ h => h) (Or.inl ⟨by kernel_rfl, ?_⟩) (by assumption) ?_
      rotate_left
      · intro w hSw
        go_simp
        try with_reducible rfl
      try simp only [Act.put, List.setIfInBounds_toArray, List.set_cons_zero, List.set_cons_succ]
      refine wpAnyH_take (i := 11) (oi := ⟨some 169, _, _, _, _, _⟩) (v := ?_) rfl (by kernel_rfl) (by kernel_rfl) (by kernel_rfl) (fun _ _ _ h => h) (Or.inl ⟨by kernel_rfl, ?_⟩) (by assumption) ?_
      rotate_left
      · intro w hSw
        go_simp
        try with_reducible rfl
      try simp only [Act.put, List.setIfInBounds_toArray, List.set_cons_zero, List.set_cons_succ]
      refine wpAnyH_take (i := 12) (oi := ⟨some 170, _, _, _, _, _⟩) (v := ?_) rfl (by kernel_rfl) (by kernel_rfl) (by kernel_rfl) (fun _ _ _ h => h) (Or.inl ⟨by kernel_rfl, ?_⟩) (by assumption) ?_
      rotate_left
      · intro w hSw
        go_simp
        try with_reducible rfl
      try simp only [Act.put, List.setIfInBounds_toArray, List.set_cons_zero, List.set_cons_succ]
      refine wpAnyH_take (i := 13) (oi := ⟨some 171, _, _, _, _, _⟩) (v := undef) rfl (by kernel_rfl) (by kernel_rfl) (by kernel_rfl) (fun _ _ _ h => h) (Or.inr ⟨by kernel_rfl, rfl⟩) (by assumption) ?_
      try simp only [Act.put, List.setIfInBounds_toArray, List.set_cons_zero, List.set_cons_succ]
      refine wpAnyH_take (i := 14) (oi := ⟨some 172, _, _, _, _, _⟩) (v := undef) rfl (by kernel_rfl) (by kernel_rfl) (by kernel_rfl) (fun _ _ _ h => h) (Or.inr ⟨by kernel_rfl, rfl⟩) (by assumption) ?_
      try simp only [Act.put, List.setIfInBounds_toArray, List.set_cons_zero, List.set_cons_succ]
      refine wpAnyH_take (i := 15) (oi := ⟨some 173, _, _, _, _, _⟩) (v := undef) rfl (by kernel_rfl) (by kernel_rfl) (by kernel_rfl) (fun _ _ _ h => h) (Or.inr ⟨by kernel_rfl, rfl⟩) (by assumption) ?_
      try simp only [Act.put, List.setIfInBounds_toArray, List.set_cons_zero, List.set_cons_succ]
      refine wpAnyH_take (i := 16) (oi := ⟨some 174, _, _, _, _, _⟩) (v := ?_) rfl (by kernel_rfl) (by kernel_rfl) (by kernel_rfl) (fun _ _ _ h => h) (Or.inl ⟨by kernel_rfl, ?_⟩) (by assumption) ?_
      rotate_left
      · intro w hSw
        go_simp
        try with_reducible rfl
      try simp only [Act.put, List.setIfInBounds_toArray, List.set_cons_zero, List.set_cons_succ]
      refine wpAnyH_take (i := 17) (oi := ⟨some 175, _, _, _, _, _⟩) (v := ?_) rfl (by kernel_rfl) (by kernel_rfl) (by kernel_rfl) (fun _ _ _ h => h) (Or.inl ⟨by kernel_rfl, ?_⟩) (by assumption) ?_
      rotate_left
      · intro w hSw
        go_simp
        try with_reducible rfl
      try simp only [Act.put, List.setIfInBounds_toArray, List.set_cons_zero, List.set_cons_succ]
      refine wpAnyH_take (i := 18) (oi := ⟨some 176, _, _, _, _, _⟩) (v := undef) rfl (by kernel_rfl) (by kernel_rfl) (by kernel_rfl) (fun _ _ _ h => h) (Or.inr ⟨by kernel_rfl, rfl⟩) (by assumption) ?_
      try simp only [Act.put, List.setIfInBounds_toArray, List.set_cons_zero, List.set_cons_succ]
      refine wpAnyH_take (i := 19) (oi := ⟨some 177, _, _, _, _, _⟩) (v := undef) rfl (by kernel_rfl) (by kernel_rfl) (by kernel_rfl) (fun _ _ _ h => h) (Or.inr ⟨by kernel_rfl, rfl⟩) (by assumption) ?_
      try simp only [Act.put, List.setIfInBounds_toArray, List.set_cons_zero, List.set_cons_succ]
      refine wpAnyH_take (i := 20) (oi := ⟨some 178, _, _, _, _, _⟩) (v := undef) rfl (by kernel_rfl) (by kernel_rfl) (by kernel_rfl) (fun _ _ _ h => h) (Or.inr ⟨by kernel_rfl, rfl⟩) (by assumption) ?_
      try simp only [Act.put, List.setIfInBounds_toArray, List.set_cons_zero, List.set_cons_succ]
      refine wpAnyH_take (i := 21) (oi := ⟨some 179, _, _, _, _, _⟩) (v := undef) rfl (by kernel_rfl) (by kernel_rfl) (by kernel_rfl) (fun _ _ _ h => h) (Or.inr ⟨by kernel_rfl, rfl⟩) (by assumption) ?_
      try simp only [Act.put, List.setIfInBounds_toArray, List.set_cons_zero, List.set_cons_succ]
      refine wpAnyH_take (i := 22) (oi := ⟨some 180, _, _, _, _, _⟩) (v := undef) rfl (by kernel_rfl) (by kernel_rfl) (by kernel_rfl) (fun _ _ _ h => h) (Or.inr ⟨by kernel_rfl, rfl⟩) (by assumption) ?_
      try simp only [Act.put, List.setIfInBounds_toArray, List.set_cons_zero, List.set_cons_succ]
      refine wpAnyH_take (i := 23) (oi := ⟨some 181, _, _, _, _, _⟩) (v := undef) rfl (by kernel_rfl) (by kernel_rfl) (by kernel_rfl) (fun _ _ _ h => h) (Or.inr ⟨by kernel_rfl, rfl⟩) (by assumption) ?_
      try simp only [Act.put, List.setIfInBounds_toArray, List.set_cons_zero, List.set_cons_succ]
      refine wpAnyH_take (i := 24) (oi := ⟨some 182, _, _, _, _, _⟩) (v := ?_) rfl (by kernel_rfl) (by kernel_rfl) (by kernel_rfl) (fun _ _ _ h => h) (Or.inl ⟨by kernel_rfl, ?_⟩) (by assumption) ?_
      rotate_left
      · intro w hSw
        go_simp
        try with_reducible rfl
      try simp only [Act.put, List.setIfInBounds_toArray, List.set_cons_zero, List.set_cons_succ]
      refine wpAnyH_done (by kernel_rfl) ?_ _
      have HN := Lib.hid (show dec b = none by rw [dec_ref, HPQ.out, if_neg]; rintro ⟨_, h, _⟩; cases h)
      clear hHeld
      have p0 := P9.out.cell 0
      have p1 := P9.out.cell 1
      have p2 := P9.out.cell 2
      have p3 := P9.out.cell 3
      have f0 := P9.out.frozen 0
      have f1 := P9.out.frozen 1
      have f2 := P9.out.frozen 2
      have f3 := P9.out.frozen 3
      go_wp2_with fail
      exact end32 (q := emptyMem) (g := w.heap.size + 1) P9.out rfl rfl rfl rfl (by rw [HN.out]; first | done | rfl) (by rw [HN.out]; first | done | rfl) (nilOwn _ _) (Nat.zero_le _) (Nat.zero_le _) (Nat.zero_le _) (Nat.lt_succ_self _) L9.out _ rfl rfl

  · clear k0 k1 k2 hcv g0
    refine wp_region_held_drew (S := fun V => V.cell? ⟨w.heap.size + 1, 1, none⟩ = some (.bool true)) (by kernel_rfl) g1 (fun hHeld => ?_)
    clear g1
    generalize w9.drew = d at D9 P9 L9 GB hHeld ⊢
    refine wpAnyH_take (i := 0) (oi := ⟨some 158, _, _, _, _, _⟩) (v := ?_) rfl (by kernel_rfl) (by kernel_rfl) (by kernel_rfl) (fun _ _ _ h => h) (Or.inl ⟨by kernel_rfl, ?_⟩) (by assumption) ?_
    rotate_left
    · intro w hSw
      go_simp
      try with_reducible rfl
    try simp only [Act.put, List.setIfInBounds_toArray, List.set_cons_zero, List.set_cons_succ]
    refine wpAnyH_take (i := 1) (oi := ⟨some 159, _, _, _, _, _⟩) (v := ?_) rfl (by kernel_rfl) (by kernel_rfl) (by kernel_rfl) (fun _ _ _ h => h) (Or.inl ⟨by kernel_rfl, ?_⟩) (by assumption) ?_
    rotate_left
    · intro w hSw
      go_simp
      try with_reducible rfl
    try simp only [Act.put, List.setIfInBounds_toArray, List.set_cons_zero, List.set_cons_succ]
    refine wpAnyH_take (i := 2) (oi := ⟨some 160, _, _, _, _, _⟩) (v := ?_) rfl (by kernel_rfl) (by kernel_rfl) (by kernel_rfl) (fun _ _ _ h => h) (Or.inl ⟨by kernel_rfl, ?_⟩) (by assumption) ?_
    rotate_left
    · intro w hSw
      go_simp
      try with_reducible rfl
    try simp only [Act.put, List.setIfInBounds_toArray, List.set_cons_zero, List.set_cons_succ]
    refine wpAnyH_take (i := 3) (oi := ⟨some 161, _, _, _, _, _⟩) (v := ?_) rfl (by kernel_rfl) (by kernel_rfl) (by kernel_rfl) (fun _ _ _ h => h) (Or.inl ⟨by kernel_rfl, ?_⟩) (by assumption) ?_
    rotate_left
    · intro w hSw
      go_simp
      try with_reducible rfl
    try simp only [Act.put, List.setIfInBounds_toArray, List.set_cons_zero, List.set_cons_succ]
    refine wpAnyH_take (i := 4) (oi := ⟨some 162, _, _, _, _, _⟩) (v := ?_) rfl (by kernel_rfl) (by kernel_rfl) (by kernel_rfl) (fun _ _ _ h => h) (Or.inl ⟨by kernel_rfl, ?_⟩) (by assumption) ?_
    rotate_left
    · intro w hSw
      go_simp
      try with_reducible rfl
    try simp only [Act.put, List.setIfInBounds_toArray, List.set_cons_zero, List.set_cons_succ]
    refine wpAnyH_take (i := 5) (oi := ⟨some 163, _, _, _, _, _⟩) (v := undef) rfl (by kernel_rfl) (by kernel_rfl) (by kernel_rfl) (fun _ _ _ h => h) (Or.inr ⟨by kernel_rfl, rfl⟩) (by assumption) ?_
    try simp only [Act.put, List.setIfInBounds_toArray, List.set_cons_zero, List.set_cons_succ]
    refine wpAnyH_take (i := 6) (oi := ⟨some 164, _, _, _, _, _⟩) (v := undef) rfl (by kernel_rfl) (by kernel_rfl) (by kernel_rfl) (fun _ _ _ h => h) (Or.inr ⟨by kernel_rfl, rfl⟩) (by assumption) ?_
    try simp only [Act.put, List.setIfInBounds_toArray, List.set_cons_zero, List.set_cons_succ]
    refine wpAnyH_take (i := 7) (oi := ⟨some 165, _, _, _, _, _⟩) (v := undef) rfl (by kernel_rfl) (by kernel_rfl) (by kernel_rfl) (fun _ _ _ h => h) (Or.inr ⟨by kernel_rfl, rfl⟩) (by assumption) ?_
    try simp only [Act.put, List.setIfInBounds_toArray, List.set_cons_zero, List.set_cons_succ]
    refine wpAnyH_take (i := 8) (oi := ⟨some 166, _, _, _, _, _⟩) (v := undef) rfl (by kernel_rfl) (by kernel_rfl) (by kernel_rfl) (fun _ _ _ h => h) (Or.inr ⟨by kernel_rfl, rfl⟩) (by assumption) ?_
    try simp only [Act.put, List.setIfInBounds_toArray, List.set_cons_zero, List.set_cons_succ]
    refine wpAnyH_take (i := 9) (oi := ⟨some 167, _, _, _, _, _⟩) (v := undef) rfl (by kernel_rfl) (by kernel_rfl) (by kernel_rfl) (fun _ _ _ h => h) (Or.inr ⟨by kernel_rfl, rfl⟩) (by assumption) ?_
    try simp only [Act.put, List.setIfInBounds_toArray, List.set_cons_zero, List.set_cons_succ]
    refine wpAnyH_take (i := 10) (oi := ⟨some 168, _, _, _, _, _⟩) (v := undef) rfl (by kernel_rfl) (by kernel_rfl) (by kernel_rfl) (fun _ _ _ h => h) (Or.inr ⟨by kernel_rfl, rfl⟩) (by assumption) ?_
    try simp only [Act.put, List.setIfInBounds_toArray, List.set_cons_zero, List.set_cons_succ]
    refine wpAnyH_take (i := 11) (oi := ⟨some 169, _, _, _, _, _⟩) (v := ?_) rfl (by kernel_rfl) (by kernel_rfl) (by kernel_rfl) (fun _ _ _ h => h) (Or.inl ⟨by kernel_rfl, ?_⟩) (by assumption) ?_
    rotate_left
    · intro w hSw
      go_simp
      try with_reducible rfl
    try simp only [Act.put, List.setIfInBounds_toArray, List.set_cons_zero, List.set_cons_succ]
    refine wpAnyH_take (i := 12) (oi := ⟨some 170, _, _, _, _, _⟩) (v := ?_) rfl (by kernel_rfl) (by kernel_rfl) (by kernel_rfl) (fun _ _ _ h => h) (Or.inl ⟨by kernel_rfl, ?_⟩) (by assumption) ?_
    rotate_left
    · intro w hSw
      go_simp
      try with_reducible rfl
    try simp only [Act.put, List.setIfInBounds_toArray, List.set_cons_zero, List.set_cons_succ]
    refine wpAnyH_take (i := 13) (oi := ⟨some 171, _, _, _, _, _⟩) (v := undef) rfl (by kernel_rfl) (by kernel_rfl) (by kernel_rfl) (fun _ _ _ h => h) (Or.inr ⟨by kernel_rfl, rfl⟩) (by assumption) ?_
    try simp only [Act.put, List.setIfInBounds_toArray, List.set_cons_zero, List.set_cons_succ]
    refine wpAnyH_take (i := 14) (oi := ⟨some 172, _, _, _, _, _⟩) (v := undef) rfl (by kernel_rfl) (by kernel_rfl) (by kernel_rfl) (fun _ _ _ h => h) (Or.inr ⟨by kernel_rfl, rfl⟩) (by assumption) ?_
    try simp only [Act.put, List.setIfInBounds_toArray, List.set_cons_zero, List.set_cons_succ]
    refine wpAnyH_take (i := 15) (oi := ⟨some 173, _, _, _, _, _⟩) (v := undef) rfl (by kernel_rfl) (by kernel_rfl) (by kernel_rfl) (fun _ _ _ h => h) (Or.inr ⟨by kernel_rfl, rfl⟩) (by assumption) ?_
    try simp only [Act.put, List.setIfInBounds_toArray, List.set_cons_zero, List.set_cons_succ]
    refine wpAnyH_take (i := 16) (oi := ⟨some 174, _, _, _, _, _⟩) (v := ?_) rfl (by kernel_rfl) (by kernel_rfl) (by kernel_rfl) (fun _ _ _ h => h) (Or.inl ⟨by kernel_rfl, ?_⟩) (by assumption) ?_
    rotate_left
    · intro w hSw
      go_simp
      try with_reducible rfl
    try simp only [Act.put, List.setIfInBounds_toArray, List.set_cons_zero, List.set_cons_succ]
    refine wpAnyH_take (i := 17) (oi := ⟨some 175, _, _, _, _, _⟩) (v := ?_) rfl (by kernel_rfl) (by kernel_rfl) (by kernel_rfl) (fun _ _ _ h => h) (Or.inl ⟨by kernel_rfl, ?_⟩) (by assumption) ?_
    rotate_left
    · intro w hSw
      go_simp
      try with_reducible rfl
    try simp only [Act.put, List.setIfInBounds_toArray, List.set_cons_zero, List.set_cons_succ]
    refine wpAnyH_take (i := 18) (oi := ⟨some 176, _, _, _, _, _⟩) (v := undef) rfl (by kernel_rfl) (by kernel_rfl) (by kernel_rfl) (fun _ _ _ h => h) (Or.inr ⟨by kernel_rfl, rfl⟩) (by assumption) ?_
    try simp only [Act.put, List.setIfInBounds_toArray, List.set_cons_zero, List.set_cons_succ]
    refine wpAnyH_take (i := 19) (oi := ⟨some 177, _, _, _, _, _⟩) (v := undef) rfl (by kernel_rfl) (by kernel_rfl) (by kernel_rfl) (fun _ _ _ h => h) (Or.inr ⟨by kernel_rfl, rfl⟩) (by assumption) ?_
    try simp only [Act.put, List.setIfInBounds_toArray, List.set_cons_zero, List.set_cons_succ]
    refine wpAnyH_take (i := 20) (oi := ⟨some 178, _, _, _, _, _⟩) (v := undef) rfl (by kernel_rfl) (by kernel_rfl) (by kernel_rfl) (fun _ _ _ h => h) (Or.inr ⟨by kernel_rfl, rfl⟩) (by assumption) ?_
    try simp only [Act.put, List.setIfInBounds_toArray, List.set_cons_zero, List.set_cons_succ]
    refine wpAnyH_take (i := 21) (oi := ⟨some 179, _, _, _, _, _⟩) (v := undef) rfl (by kernel_rfl) (by kernel_rfl) (by kernel_rfl) (fun _ _ _ h => h) (Or.inr ⟨by kernel_rfl, rfl⟩) (by assumption) ?_
    try simp only [Act.put, List.setIfInBounds_toArray, List.set_cons_zero, List.set_cons_succ]
    refine wpAnyH_take (i := 22) (oi := ⟨some 180, _, _, _, _, _⟩) (v := undef) rfl (by kernel_rfl) (by kernel_rfl) (by kernel_rfl) (fun _ _ _ h => h) (Or.inr ⟨by kernel_rfl, rfl⟩) (by assumption) ?_
    try simp only [Act.put, List.setIfInBounds_toArray, List.set_cons_zero, List.set_cons_succ]
    refine wpAnyH_take (i := 23) (oi := ⟨some 181, _, _, _, _, _⟩) (v := undef) rfl (by kernel_rfl) (by kernel_rfl) (by kernel_rfl) (fun _ _ _ h => h) (Or.inr ⟨by kernel_rfl, rfl⟩) (by assumption) ?_
    try simp only [Act.put, List.setIfInBounds_toArray, List.set_cons_zero, List.set_cons_succ]
    refine wpAnyH_take (i := 24) (oi := ⟨some 182, _, _, _, _, _⟩) (v := ?_) rfl (by kernel_rfl) (by kernel_rfl) (by kernel_rfl) (fun _ _ _ h => h) (Or.inl ⟨by kernel_rfl, ?_⟩) (by assumption) ?_
    rotate_left
    · intro w hSw
      go_simp
      try with_reducible rfl
    try simp only [Act.put, List.setIfInBounds_toArray, List.set_cons_zero, List.set_cons_succ]
    refine wpAnyH_done (by kernel_rfl) ?_ _
    have HN := Lib.hid (show dec b = none by rw [dec_ref, HPQ.out, if_neg]; rintro ⟨h, _⟩; cases h)
    clear hHeld
    have p0 := P9.out.cell 0
    have p1 := P9.out.cell 1
    have p2 := P9.out.cell 2
    have p3 := P9.out.cell 3
    have f0 := P9.out.frozen 0
    have f1 := P9.out.frozen 1
    have f2 := P9.out.frozen 2
    have f3 := P9.out.frozen 3
    go_wp2_with fail
    exact end32 (q := emptyMem) (g := w.heap.size + 1) P9.out rfl rfl rfl rfl (by rw [HN.out]; first | done | rfl) (by rw [HN.out]; first | done | rfl) (nilOwn _ _) (Nat.zero_le _) (Nat.zero_le _) (Nat.zero_le _) (Nat.lt_succ_self _) L9.out _ rfl rfl
end Go.Proofs.YtiphicejaljhiaaDoor
