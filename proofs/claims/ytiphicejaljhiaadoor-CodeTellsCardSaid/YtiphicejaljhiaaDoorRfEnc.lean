/- stockpotref07.Encode: the bytes of a program that may be. -/
import Derived.Test.YtiphicejaljhiaaDoorEncP
import Derived.Test.YtiphicejaljhiaaDoorRfWs
import Derived.Deep.CutRange
import Derived.Deep.CutBlock
import Derived.Deep.RegionHeld3
namespace Go.Proofs.YtiphicejaljhiaaDoor
open Go.ChangeShapes Go.WideShapes Go.ChangeAt Go.RowKit
set_option linter.unusedSimpArgs false
set_option linter.unusedVariables false
/-- The bytes so far, in a row of the call's own. -/
structure EncO (w W : World) (rv : Value) (ws : List UInt8) : Prop where
  low : Below w.heap.size w W
  own : W.ownsRow w.heap.size 5 1 rv ws.length (cellsB ws)
section
variable {w W W1 : World} {rv rv2 : Value} {ws : List UInt8}
theorem EncO.alloc (h : EncO w W rv ws) (o : Obj) : EncO w (W.alloc o) rv ws := ⟨h.low.alloc h.low.size o, h.own.alloc o⟩
theorem EncO.drew (h : EncO w W rv ws) : EncO w W.drew rv ws := ⟨h.low.drew, h.own.drew⟩
theorem EncO.next (h : EncO w W rv ws) (hb : Below W.heap.size W W1) : EncO w W1 rv ws := ⟨next_ h.low hb, own_next h.own hb⟩
theorem EncO.app (h : EncO w W rv ws) {ys : List UInt8} {n : Nat} (hg : W.grownBy W1 rv.ownBlock) (ho : W1.ownsRow w.heap.size 5 1 rv2 (ws.length + n) (cellsB ws ++ cellsB ys)) (hn : n = ys.length) : EncO w W1 rv2 (ws ++ ys) := by
  subst hn
  refine ⟨h.low.grown hg h.low.size (fun k e => (h.own.lt k e).1), ?_⟩
  rw [List.length_append, cellsB_append]
  exact ho
end
def KeptE (W W' : World) : Prop := ∀ g t cs, t ≠ 5 → Blk W g t cs → Blk W' g t cs
theorem KeptE.refl (W : World) : KeptE W W := fun _ _ _ _ h => h
theorem KeptE.trans {W W1 W2 : World} (h : KeptE W W1) (h2 : KeptE W1 W2) : KeptE W W2 := fun g t cs hn hb => h2 g t cs hn (h g t cs hn hb)
theorem KeptE.alloc (W : World) (o : Obj) : KeptE W (W.alloc o) := fun _ _ _ _ h => h.alloc o
theorem KeptE.drew (W : World) : KeptE W W.drew := fun _ _ _ _ h => h
theorem EncO.kept {w W W1 : World} {rv : Value} {ws : List UInt8} (h : EncO w W rv ws) (hg : W.grownBy W1 rv.ownBlock) : KeptE W W1 := fun _ _ _ hn hb => blk_row hb h.own hg (fun e => hn e.symm)
/-- A block of a function's text, by its number. -/
def blockOfE (n : Nat) : Code → Option Code
  | .block m c => if m = n then some (.block m c) else blockOfE n c
  | .seq a b => match blockOfE n a with
    | some c => some c
    | none => blockOfE n b
  | .cond _ a b => match blockOfE n a with
    | some c => some c
    | none => blockOfE n b
  | .loop c => blockOfE n c
  | .scope c => blockOfE n c
  | _ => none
noncomputable def block30 (n : Nat) : Code := ((Tryd.f30.body).bind (blockOfE n)).getD .skip
theorem numB1 (v : Int) : numB v 1 = [byteOf v] := by
  rw [numB, numB, Nat.mul_zero, Int.pow_zero, Int.ediv_one]
theorem numB2 (v : Int) : numB v 2 = [byteOf (v / 256), byteOf v] := by
  rw [numB, numB1]; rfl
set_option maxRecDepth 100000 in
set_option maxHeartbeats 4000000 in
theorem e_code {u0 u1 u2 u4 u7 u8 u9 u10 u11 u12 u13 u14 u15 u16 u17 u18 u19 u20 u21 u22 u23 u24 u25 u26 u27 u28 u29 u30 u31 u32 u33 u34 u35 u36 u37 u38 u39 u40 u41 u42 u43 u44 u45 u46 u47 u48 u49 u50 u51 u52 u53 u54 u55 u56 u57 u58 u59 u60 u61 u62 u63 u64 u65 u66 u67 u68 u69 u70 u71 u72 u73 u74 u75 u76 u77 u78 u79 u80 u81 u82 u83 u84 u85 u86 u87 u88 u89 u90 u91 u92 u93 u94 u95 u96 u97 u98 u99 u100 u101 u102 u103 u104 u105 u106 u107 u108 u109 u110 u111 u112 u113 u114 u115 u116 u117 u118 u119 u120 u121 u122 u123 u124 u125 u126 u127 u128 u129 u130 u131 u132 u133 u134 u135 u136 u137 u138 u139 u140 u141 u142 u143 u144 u145 u146 u147 u148 u149 u150 u151 u152 u153 u154 u155 u156 u157 u158 u159 u160 u161 u162 u163 u164 u165 u166 u167 u168 : Value} {Q : Exit → Act → World → Prop} (w W : World) (gF : Nat) (lo fr : Int) (cd : List Ins) (xa : Option Addr) (xc : Nat) (rv : Value) (ws : List UInt8)
    (hE : EncO w W rv ws) (hF : Blk W gF 60 #[.int .i64 lo, .int .i64 fr, .slice xa cd.length xc]) (hx : Reads w w.heap.size 3 xa cd.length (cd.flatMap insCells)) (hcl : cd.length ≤ 600) (hlen : (ws ++ cd.flatMap eIns).length ≤ 1000000)
    (hend : ∀ v3 v6 v7 v8 v56 v57 v58 v59 v60 v61 v62 v63 v64 v65 v66 v67 v68 v69 v70 v71 v72 v73 v74 v75 v76 v77 v78 v79 v80 v81 v82 v83 v84 v85 v86 v87 v88 v89 v90 v91 v92 v93 v94 v95 v96 v97 v98 v99 v100 W', EncO w W' v3 (ws ++ cd.flatMap eIns) → KeptE W W' → Q .normal ⟨#[u0, u1, u2, v3, u4, .pointer (some ⟨gF, 0, none⟩), v6, v7, v8, u9, u10, u11, u12, u13, u14, u15, u16, u17, u18, u19, u20, u21, u22, u23, u24, u25, u26, u27, u28, u29, u30, u31, u32, u33, u34, u35, u36, u37, u38, u39, u40, u41, u42, u43, u44, u45, u46, u47, u48, u49, u50, u51, u52, u53, u54, u55, v56, v57, v58, v59, v60, v61, v62, v63, v64, v65, v66, v67, v68, v69, v70, v71, v72, v73, v74, v75, v76, v77, v78, v79, v80, v81, v82, v83, v84, v85, v86, v87, v88, v89, v90, v91, v92, v93, v94, v95, v96, v97, v98, v99, v100, u101, u102, u103, u104, u105, u106, u107, u108, u109, u110, u111, u112, u113, u114, u115, u116, u117, u118, u119, u120, u121, u122, u123, u124, u125, u126, u127, u128, u129, u130, u131, u132, u133, u134, u135, u136, u137, u138, u139, u140, u141, u142, u143, u144, u145, u146, u147, u148, u149, u150, u151, u152, u153, u154, u155, u156, u157, u158, u159, u160, u161, u162, u163, u164, u165, u166, u167, u168], []⟩ W') :
    Code.wp Tryd.prog (block30 2) Q ⟨#[u0, u1, u2, rv, u4, .pointer (some ⟨gF, 0, none⟩), .int .i64 0, u7, u8, u9, u10, u11, u12, u13, u14, u15, u16, u17, u18, u19, u20, u21, u22, u23, u24, u25, u26, u27, u28, u29, u30, u31, u32, u33, u34, u35, u36, u37, u38, u39, u40, u41, u42, u43, u44, u45, u46, u47, u48, u49, u50, u51, u52, u53, u54, u55, u56, u57, u58, u59, u60, u61, u62, u63, u64, u65, u66, u67, u68, u69, u70, u71, u72, u73, u74, u75, u76, u77, u78, u79, u80, u81, u82, u83, u84, u85, u86, u87, u88, u89, u90, u91, u92, u93, u94, u95, u96, u97, u98, u99, u100, u101, u102, u103, u104, u105, u106, u107, u108, u109, u110, u111, u112, u113, u114, u115, u116, u117, u118, u119, u120, u121, u122, u123, u124, u125, u126, u127, u128, u129, u130, u131, u132, u133, u134, u135, u136, u137, u138, u139, u140, u141, u142, u143, u144, u145, u146, u147, u148, u149, u150, u151, u152, u153, u154, u155, u156, u157, u158, u159, u160, u161, u162, u163, u164, u165, u166, u167, u168], []⟩ W := by
  obtain ⟨i0, hi0, hz0, hz1, hz2⟩ := info_parts u8_info
  have HE0 := Lib.hid hE
  have HF0 := Lib.hid hF
  have HX := Lib.hid hx
  have HEND := Lib.hid hend
  have HLEN := Lib.hid hlen
  clear hE hF hx hend hlen
  conv => arg 2; whnf
  go_wp2_with fail
  go_loopw [3, 6] (fun rv i wr => ∃ (k : Nat) (ws' : List UInt8), k ≤ cd.length ∧ i = .int .i64 k ∧ Hid (ws ++ cd.flatMap eIns = ws' ++ (cd.drop k).flatMap eIns) ∧ Hid (EncO w wr rv ws') ∧ Hid (KeptE W wr)) (fun _ i _ => cd.length - (intOf i).toNat)
  case atStart => exact ⟨0, ws, by omega, rfl, Lib.hid (by rw [List.drop_zero]), HE0, Lib.hid (KeptE.refl _)⟩
  clear HE0
  case round =>
    obtain ⟨k, ws', hk, rfl, HW, HE, HK⟩ := hrel
    have F2 := (HK.out _ _ _ (by decide) HF0.out).cell 2
    by_cases hlt : k < cd.length
    · have hl : (k : Int) < (cd.length : Int) := by omega
      have hk0 : (0 : Int) ≤ (k : Int) := by omega
      obtain ⟨ae, e, aeb, hcj⟩ := (HX.out.below HE.out.low).insAt (List.getElem?_eq_getElem hlt)
      have hxd := drop_at hlt
      generalize cd[k] = x at hcj hxd
      obtain ⟨o, a, b⟩ := x
      subst e
      have HCJ := Lib.hid hcj
      have HW2 := Lib.hid (show ws ++ cd.flatMap eIns = ws' ++ (numB o 1 ++ (numB a (wid o) ++ (if sec o then numB b 1 else []))) ++ (cd.drop (k + 1)).flatMap eIns by
        rw [HW.out, hxd, List.flatMap_cons, List.append_assoc]; rfl)
      clear hcj hxd
      have HLW := Lib.hid (show ws'.length + 20 ≤ 1000020 by
        have h := HLEN.out
        rw [HW2.out] at h
        simp only [List.length_append] at h
        omega)
      have hwid := wid_le o
      have X1 := Blk.new wr 23 #[.int .i64 o, .int .i64 a, .int .i64 b]
      have E1 := Lib.hid ((HE.out.alloc (.cells #[.int .i64 o, .int .i64 a, .int .i64 b] 23)).alloc (.cells #[byV (byteOf o)] 5))
      have M1 := Lib.hid (show Blk ((wr.alloc (.cells #[.int .i64 o, .int .i64 a, .int .i64 b] 23)).alloc (.cells #[byV (byteOf o)] 5)) (wr.heap.size + 1) 5 (cellsB [byteOf o]).toArray from by
        have := Blk.new (wr.alloc (.cells #[.int .i64 o, .int .i64 a, .int .i64 b] 23)) 5 #[byV (byteOf o)]
        rw [World.size_alloc] at this
        exact this)
      have X2 := Lib.hid (X1.alloc (.cells #[byV (byteOf o)] 5))
      have K2 := Lib.hid ((HK.out.trans (KeptE.alloc wr (.cells #[.int .i64 o, .int .i64 a, .int .i64 b] 23))).trans (KeptE.alloc _ (.cells #[byV (byteOf o)] 5)))
      have W1 := wrap_u8 o
      have x0 := X1.cell 0
      clear X1
      go_wp2_with (first
        | (refine wpList_load_at rfl 23 (.tmp 66) rfl (ae.add (k * 3)) rfl [.int .i64 o, .int .i64 a, .int .i64 b] _ HCJ.out Tryd.underlying23 rfl (by kernel_rfl) ?_)
        | (at_builtin; refine wpList_append_any _ rfl (.tmp 68) (.tmp 72) 43 rfl w.heap.size 5 i0 _ 1 1 Tryd.underlying43 hi0 hz0 hz1 hz2 rfl (by omega) u3 ws'.length (cellsB ws') rfl E1.out.own ((wr.heap.size + 1) + 1) (some ⟨(wr.heap.size + 1), 0, none⟩) 1 1 (cellsB [byteOf o]) rfl (reads_blkN (vs := cellsB [byteOf o]) M1.out rfl) (by simp [cellsB, Value.oneCell']) (by unfold maxLen; have := HLW.out; omega) (by have := HLW.out; omega) E1.out.low.size ?_; intro rv5 w5 oA gA _; have E5 := Lib.hid (E1.out.app gA oA rfl); have K5 := Lib.hid (E1.out.kept gA); clear oA gA; have X5 := Lib.hid (K5.out _ _ _ (by decide) X2.out); have x5 := X5.out.cell 0; clear x0))
      refine (c52 o w5).mono ?_
      rintro e w6 ⟨rfl, rfl⟩
      have W2 : IntKind.i64.wrap ((wid o : Int) - 1) = (wid o : Int) - 1 := IntWalk.i64_in _ (by omega)
      go_wp2_with fail
      clear x5 F2 W1
      obtain ⟨wo, rfl⟩ : ∃ wo : World, wo = wr := ⟨_, rfl⟩
      go_loopw [3, 8] (fun rv z wr => ∃ (j : Nat) (zi : Int) (ws3 : List UInt8), j ≤ wid o ∧ z = .int .i64 zi ∧ zi = (j : Int) - 1 ∧ Hid ((ws' ++ [byteOf o]) ++ numB a (wid o) = ws3 ++ numB a j) ∧ Hid (EncO w wr rv ws3) ∧ Hid (KeptE w5 wr)) (fun _ z _ => (intOf z + 1).toNat)
      case atStart => exact ⟨wid o, _, _, Nat.le_refl _, rfl, rfl, Lib.hid rfl, E5, Lib.hid (KeptE.refl _)⟩
      clear E5 E1 M1
      case round =>
        obtain ⟨j, zi, ws3, hj, rfl, hz, HJ, HE3, HK3⟩ := hrel
        have HLJ := Lib.hid (show ws3.length + j + 1 = ws'.length + 1 + wid o + 1 by
          have h := congrArg List.length HJ.out
          simp only [List.length_append, numB_len, List.length_cons, List.length_nil] at h
          omega)
        have X3 := Lib.hid (HK3.out _ _ _ (by decide) X5.out)
        cases j with
        | zero =>
          obtain rfl : zi = -1 := by omega
          clear hz
          have HW3 := Lib.hid (show ws3 = (ws' ++ [byteOf o]) ++ numB a (wid o) by rw [HJ.out, numB, List.append_nil])
          have x0 := X3.out.cell 0
          go_wp2_with fail
          refine (c53 o wr).mono ?_
          rintro e w7 ⟨rfl, rfl⟩
          have KK := Lib.hid ((K2.out.trans K5.out).trans HK3.out)
          cases hs : sec o
          · have HW4 := Lib.hid (show ws ++ cd.flatMap eIns = ws3 ++ (cd.drop (k + 1)).flatMap eIns by
              rw [HW2.out, HW3.out, hs, numB1]
              simp only [List.append_assoc, Bool.false_eq_true, if_false, List.append_nil])
            clear hs
            go_wp2_with fail
            go_roundw
            case rel => exact ⟨k + 1, ws3, by omega, by go_num, HW4, HE3, KK⟩
            case measure => simp [intOf]; omega
          · have HW4 := Lib.hid (show ws ++ cd.flatMap eIns = (ws3 ++ [byteOf b]) ++ (cd.drop (k + 1)).flatMap eIns by
              rw [HW2.out, HW3.out, hs, numB1, numB1]
              simp only [List.append_assoc, if_true])
            clear hs
            have x2 := X3.out.cell 2
            have W1 := wrap_u8 b
            have hw8 := wid_le o
            have HLW := Lib.hid (show ws3.length + 20 ≤ 1000040 by have h1 := HLJ.out; have h2 := HLW.out; omega)
            have E7 := Lib.hid (HE3.out.alloc (.cells #[byV (byteOf b)] 5))
            have M7 := Lib.hid (show Blk (wr.alloc (.cells #[byV (byteOf b)] 5)) wr.heap.size 5 (cellsB [byteOf b]).toArray from Blk.new wr 5 #[byV (byteOf b)])
            have K7 := Lib.hid (KK.out.trans (KeptE.alloc wr (.cells #[byV (byteOf b)] 5)))
            go_wp2_with (at_builtin; refine wpList_append_any _ rfl (.tmp 95) (.tmp 99) 43 rfl w.heap.size 5 i0 _ 1 1 Tryd.underlying43 hi0 hz0 hz1 hz2 rfl (by omega) u3 ws3.length (cellsB ws3) rfl E7.out.own (wr.heap.size + 1) (some ⟨wr.heap.size, 0, none⟩) 1 1 (cellsB [byteOf b]) rfl (reads_blkN (vs := cellsB [byteOf b]) M7.out rfl) (by simp [cellsB, Value.oneCell']) (by unfold maxLen; have := HLW.out; omega) (by have := HLW.out; omega) E7.out.low.size ?_; intro rv8 w8 oA gA _; have E8 := Lib.hid (E7.out.app gA oA rfl); have K8 := Lib.hid (E7.out.kept gA); clear oA gA)
            go_roundw
            case rel => exact ⟨k + 1, ws3 ++ [byteOf b], by omega, by go_num, HW4, E8, Lib.hid (K7.out.trans K8.out)⟩
            case measure => simp [intOf]; omega
        | succ j =>
          obtain rfl : zi = (j : Int) := by omega
          clear hz
          have hw8 := wid_le o
          have hj8 : j < 8 := by omega
          have W2 : IntKind.i64.wrap (8 * (j : Int)) = 8 * (j : Int) := IntWalk.i64_in _ (by omega)
          have W3 : IntKind.i64.wrap ((j : Int) - 1) = (j : Int) - 1 := IntWalk.i64_in _ (by omega)
          have hj0 : (0 : Int) ≤ (j : Int) := by omega
          have W4 : (8 * (j : Int)).toNat = 8 * j := by omega
          have W5 := wrap_u8 (a / 2 ^ (8 * j))
          have x1 := X3.out.cell 1
          have HLW := Lib.hid (show ws3.length + 20 ≤ 1000040 by have h1 := HLJ.out; have h2 := HLW.out; omega)
          have E7 := Lib.hid (HE3.out.alloc (.cells #[byV (byteOf (a / 2 ^ (8 * j)))] 5))
          have M7 := Lib.hid (show Blk (wr.alloc (.cells #[byV (byteOf (a / 2 ^ (8 * j)))] 5)) wr.heap.size 5 (cellsB [byteOf (a / 2 ^ (8 * j))]).toArray from Blk.new wr 5 #[byV (byteOf (a / 2 ^ (8 * j)))])
          have K7 := Lib.hid (HK3.out.trans (KeptE.alloc wr (.cells #[byV (byteOf (a / 2 ^ (8 * j)))] 5)))
          go_wp2_with (at_builtin; refine wpList_append_any _ rfl (.tmp 82) (.tmp 90) 43 rfl w.heap.size 5 i0 _ 1 1 Tryd.underlying43 hi0 hz0 hz1 hz2 rfl (by omega) u3 ws3.length (cellsB ws3) rfl E7.out.own (wr.heap.size + 1) (some ⟨wr.heap.size, 0, none⟩) 1 1 (cellsB [byteOf (a / 2 ^ (8 * j))]) rfl (reads_blkN (vs := cellsB [byteOf (a / 2 ^ (8 * j))]) M7.out rfl) (by simp [cellsB, Value.oneCell']) (by unfold maxLen; have := HLW.out; omega) (by have := HLW.out; omega) E7.out.low.size ?_; intro rv8 w8 oA gA _; have E8 := Lib.hid (E7.out.app gA oA rfl); have K8 := Lib.hid (E7.out.kept gA); clear oA gA)
          go_roundw
          case rel => exact ⟨j, _, ws3 ++ [byteOf (a / 2 ^ (8 * j))], by omega, rfl, rfl, Lib.hid (by rw [HJ.out, numB, List.append_assoc]; rfl), E8, Lib.hid (K7.out.trans K8.out)⟩
          case measure => simp [intOf]
    · have hl : ¬ (k : Int) < (cd.length : Int) := by omega
      obtain rfl : k = cd.length := by omega
      have HF := Lib.hid (show ws' = ws ++ cd.flatMap eIns by rw [HW.out, List.drop_length]; simp)
      go_wp2_with fail
      exact HEND.out _ _ _ _ _ _ _ _ _ _ _ _ _ _ _ _ _ _ _ _ _ _ _ _ _ _ _ _ _ _ _ _ _ _ _ _ _ _ _ _ _ _ _ _ _ _ _ _ _ _ (by rw [← HF.out]; exact HE.out) HK.out
set_option maxRecDepth 100000 in
set_option maxHeartbeats 4000000 in
theorem e_funcs {u0 u2 u5 u6 u7 u8 u9 u10 u11 u12 u13 u14 u15 u16 u17 u18 u19 u20 u21 u22 u23 u24 u25 u26 u27 u28 u29 u30 u31 u32 u33 u34 u35 u36 u37 u38 u39 u40 u41 u42 u43 u44 u45 u46 u47 u48 u49 u50 u51 u52 u53 u54 u55 u56 u57 u58 u59 u60 u61 u62 u63 u64 u65 u66 u67 u68 u69 u70 u71 u72 u73 u74 u75 u76 u77 u78 u79 u80 u81 u82 u83 u84 u85 u86 u87 u88 u89 u90 u91 u92 u93 u94 u95 u96 u97 u98 u99 u100 u101 u102 u103 u104 u105 u106 u107 u108 u109 u110 u111 u112 u113 u114 u115 u116 u117 u118 u119 u120 u121 u122 u123 u124 u125 u126 u127 u128 u129 u130 u131 u132 u133 u134 u135 u136 u137 u138 u139 u140 u141 u142 u143 u144 u145 u146 u147 u148 u149 u150 u151 u152 u153 u154 u155 u156 u157 u158 u159 u160 u161 u162 u163 u164 u165 u166 u167 u168 : Value} {Q : Exit → Act → World → Prop} (w W : World) (gP : Nat) (L : List Fnv) (AF AS AM : Option Addr) (cF nS cS nM cM : Nat) (rv : Value) (ws : List UInt8)
    (hE : EncO w W rv ws) (hP : Blk W gP 42 #[.slice AF L.length cF, .slice AS nS cS, .slice AM nM cM]) (h1 : Reads w w.heap.size 3 AF L.length (L.flatMap Fnv.cells)) (h2 : ∀ x ∈ L, FnOk w w.heap.size x) (hg : ∀ x ∈ L, x.fn.code.length ≤ 600) (hL : L.length ≤ 60) (hlen : (ws ++ (L.map (·.fn)).flatMap eFn).length ≤ 1000000)
    (hend : ∀ v3 v4 v5 v6 v7 v8 v26 v27 v28 v29 v30 v31 v32 v33 v34 v35 v36 v37 v38 v39 v40 v41 v42 v43 v44 v45 v46 v47 v48 v49 v50 v51 v52 v53 v54 v55 v56 v57 v58 v59 v60 v61 v62 v63 v64 v65 v66 v67 v68 v69 v70 v71 v72 v73 v74 v75 v76 v77 v78 v79 v80 v81 v82 v83 v84 v85 v86 v87 v88 v89 v90 v91 v92 v93 v94 v95 v96 v97 v98 v99 v100 W', EncO w W' v3 (ws ++ (L.map (·.fn)).flatMap eFn) → KeptE W W' → Q .normal ⟨#[u0, .pointer (some ⟨gP, 0, none⟩), u2, v3, v4, v5, v6, v7, v8, u9, u10, u11, u12, u13, u14, u15, u16, u17, u18, u19, u20, u21, u22, u23, u24, u25, v26, v27, v28, v29, v30, v31, v32, v33, v34, v35, v36, v37, v38, v39, v40, v41, v42, v43, v44, v45, v46, v47, v48, v49, v50, v51, v52, v53, v54, v55, v56, v57, v58, v59, v60, v61, v62, v63, v64, v65, v66, v67, v68, v69, v70, v71, v72, v73, v74, v75, v76, v77, v78, v79, v80, v81, v82, v83, v84, v85, v86, v87, v88, v89, v90, v91, v92, v93, v94, v95, v96, v97, v98, v99, v100, u101, u102, u103, u104, u105, u106, u107, u108, u109, u110, u111, u112, u113, u114, u115, u116, u117, u118, u119, u120, u121, u122, u123, u124, u125, u126, u127, u128, u129, u130, u131, u132, u133, u134, u135, u136, u137, u138, u139, u140, u141, u142, u143, u144, u145, u146, u147, u148, u149, u150, u151, u152, u153, u154, u155, u156, u157, u158, u159, u160, u161, u162, u163, u164, u165, u166, u167, u168], []⟩ W') :
    Code.wp Tryd.prog (block30 0) Q ⟨#[u0, .pointer (some ⟨gP, 0, none⟩), u2, rv, .int .i64 0, u5, u6, u7, u8, u9, u10, u11, u12, u13, u14, u15, u16, u17, u18, u19, u20, u21, u22, u23, u24, u25, u26, u27, u28, u29, u30, u31, u32, u33, u34, u35, u36, u37, u38, u39, u40, u41, u42, u43, u44, u45, u46, u47, u48, u49, u50, u51, u52, u53, u54, u55, u56, u57, u58, u59, u60, u61, u62, u63, u64, u65, u66, u67, u68, u69, u70, u71, u72, u73, u74, u75, u76, u77, u78, u79, u80, u81, u82, u83, u84, u85, u86, u87, u88, u89, u90, u91, u92, u93, u94, u95, u96, u97, u98, u99, u100, u101, u102, u103, u104, u105, u106, u107, u108, u109, u110, u111, u112, u113, u114, u115, u116, u117, u118, u119, u120, u121, u122, u123, u124, u125, u126, u127, u128, u129, u130, u131, u132, u133, u134, u135, u136, u137, u138, u139, u140, u141, u142, u143, u144, u145, u146, u147, u148, u149, u150, u151, u152, u153, u154, u155, u156, u157, u158, u159, u160, u161, u162, u163, u164, u165, u166, u167, u168], []⟩ W := by
  obtain ⟨i0, hi0, hz0, hz1, hz2⟩ := info_parts u8_info
  have HE0 := Lib.hid hE
  have HP0 := Lib.hid hP
  have H1 := Lib.hid h1
  have H2 := Lib.hid h2
  have HG := Lib.hid hg
  have HEND := Lib.hid hend
  have HLEN := Lib.hid hlen
  clear hE hP h1 h2 hg hend hlen
  conv => arg 2; whnf
  go_wp2_with fail
  go_loopw [3, 4] (fun rv i wr => ∃ (k : Nat) (ws' : List UInt8), k ≤ L.length ∧ i = .int .i64 k ∧ Hid (ws ++ (L.map (·.fn)).flatMap eFn = ws' ++ ((L.map (·.fn)).drop k).flatMap eFn) ∧ Hid (EncO w wr rv ws') ∧ Hid (KeptE W wr)) (fun _ i _ => L.length - (intOf i).toNat)
  case atStart => exact ⟨0, ws, by omega, rfl, Lib.hid (by rw [List.drop_zero]), HE0, Lib.hid (KeptE.refl _)⟩
  clear HE0
  case round =>
    obtain ⟨k, ws', hk, rfl, HW, HE, HK⟩ := hrel
    have P0 := (HK.out _ _ _ (by decide) HP0.out).cell 0
    by_cases hlt : k < L.length
    · have hl : (k : Int) < (L.length : Int) := by omega
      have hk0 : (0 : Int) ≤ (k : Int) := by omega
      obtain ⟨ad, e, hbl, hcs⟩ := Reads.rowAt (f := Fnv.cells) (m := 3) (fun _ => rfl) (H1.out.below HE.out.low) (by decide) (List.getElem?_eq_getElem hlt)
      have hx1 := H2.out _ (List.getElem_mem hlt)
      have hgd := HG.out _ (List.getElem_mem hlt)
      have hxd : (L.map (·.fn)).drop k = L[k].fn :: (L.map (·.fn)).drop (k + 1) := by
        rw [drop_at (by rw [List.length_map]; exact hlt), List.getElem_map]
      generalize L[k] = x at hcs hx1 hgd hxd
      obtain ⟨⟨lo, fr, cd⟩, xa, xc⟩ := x
      subst e
      simp only at hgd
      have HCS := Lib.hid hcs
      have HX1 := Lib.hid hx1
      have HW2 := Lib.hid (show ws ++ (L.map (·.fn)).flatMap eFn = (ws' ++ [byteOf lo, byteOf fr, byteOf ((cd.length : Int) / 256), byteOf (cd.length : Int)] ++ cd.flatMap eIns) ++ ((L.map (·.fn)).drop (k + 1)).flatMap eFn by
        rw [HW.out, hxd, List.flatMap_cons, ← List.append_assoc]
        show (ws' ++ (numB lo 1 ++ (numB fr 1 ++ (numB (cd.length : Int) 2 ++ cd.flatMap eIns)))) ++ _ = _
        rw [numB1, numB1, numB2]
        simp only [List.append_assoc, List.cons_append, List.nil_append])
      clear hcs hxd hx1
      have HLW := Lib.hid (show (ws' ++ [byteOf lo, byteOf fr, byteOf ((cd.length : Int) / 256), byteOf (cd.length : Int)] ++ cd.flatMap eIns).length ≤ 1000000 by
        have h := HLEN.out
        rw [HW2.out] at h
        simp only [List.length_append] at h ⊢
        omega)
      have HLE := HLW
      have HLW := Lib.hid (show ws'.length + 20 ≤ 1000020 by
        have h := HLE.out
        simp only [List.length_append] at h
        omega)
      have F1 := Blk.new wr 60 #[.int .i64 lo, .int .i64 fr, .slice xa cd.length xc]
      have E1 := Lib.hid ((HE.out.alloc (.cells #[.int .i64 lo, .int .i64 fr, .slice xa cd.length xc] 60)).alloc (.cells #[byV (byteOf lo), byV (byteOf fr), byV (byteOf ((cd.length : Int) / 256)), byV (byteOf (cd.length : Int))] 5))
      have M1 := Lib.hid (show Blk ((wr.alloc (.cells #[.int .i64 lo, .int .i64 fr, .slice xa cd.length xc] 60)).alloc (.cells #[byV (byteOf lo), byV (byteOf fr), byV (byteOf ((cd.length : Int) / 256)), byV (byteOf (cd.length : Int))] 5)) (wr.heap.size + 1) 5 (cellsB [byteOf lo, byteOf fr, byteOf ((cd.length : Int) / 256), byteOf (cd.length : Int)]).toArray from by
        have := Blk.new (wr.alloc (.cells #[.int .i64 lo, .int .i64 fr, .slice xa cd.length xc] 60)) 5 #[byV (byteOf lo), byV (byteOf fr), byV (byteOf ((cd.length : Int) / 256)), byV (byteOf (cd.length : Int))]
        rw [World.size_alloc] at this
        exact this)
      have F2 := Lib.hid (F1.alloc (.cells #[byV (byteOf lo), byV (byteOf fr), byV (byteOf ((cd.length : Int) / 256)), byV (byteOf (cd.length : Int))] 5))
      have K2 := Lib.hid ((HK.out.trans (KeptE.alloc wr (.cells #[.int .i64 lo, .int .i64 fr, .slice xa cd.length xc] 60))).trans (KeptE.alloc _ (.cells #[byV (byteOf lo), byV (byteOf fr), byV (byteOf ((cd.length : Int) / 256)), byV (byteOf (cd.length : Int))] 5)))
      have W1 := wrap_u8 lo
      have W2 := wrap_u8 fr
      have W3 := wrap_u8 ((cd.length : Int) / 256)
      have W4 := wrap_u8 (cd.length : Int)
      have f0 := F1.cell 0
      have f1 := F1.cell 1
      have f2 := F1.cell 2
      clear F1
      go_upto_block 2 with (first
        | (refine wpList_load_at rfl 60 (.tmp 36) rfl (ad.add (k * 3)) rfl [.int .i64 lo, .int .i64 fr, .slice xa cd.length xc] _ HCS.out Tryd.underlying60 rfl (by kernel_rfl) ?_)
        | (refine wpList_load_at rfl 60 (.tmp 37) rfl (ad.add (k * 3)) rfl [.int .i64 lo, .int .i64 fr, .slice xa cd.length xc] _ HCS.out Tryd.underlying60 rfl (by kernel_rfl) ?_)
        | (at_builtin; refine wpList_append_any _ rfl (.tmp 38) (.tmp 54) 43 rfl w.heap.size 5 i0 _ 1 1 Tryd.underlying43 hi0 hz0 hz1 hz2 rfl (by omega) u3 ws'.length (cellsB ws') rfl E1.out.own ((wr.heap.size + 1) + 1) (some ⟨(wr.heap.size + 1), 0, none⟩) 4 4 (cellsB [byteOf lo, byteOf fr, byteOf ((cd.length : Int) / 256), byteOf (cd.length : Int)]) rfl (reads_blkN (vs := cellsB [byteOf lo, byteOf fr, byteOf ((cd.length : Int) / 256), byteOf (cd.length : Int)]) M1.out rfl) (by simp [cellsB, Value.oneCell']) (by unfold maxLen; have := HLW.out; omega) (by have := HLW.out; omega) E1.out.low.size ?_; intro rv5 w5 oA gA _; have E5 := Lib.hid (E1.out.app gA oA rfl); have K5 := Lib.hid (E1.out.kept gA); clear oA gA; have F5 := Lib.hid (K5.out _ _ _ (by decide) F2.out); clear f0 f1 f2))
      refine e_code w w5 wr.heap.size lo fr cd xa xc rv5 (ws' ++ [byteOf lo, byteOf fr, byteOf ((cd.length : Int) / 256), byteOf (cd.length : Int)]) E5.out F5.out HX1.out.1 hgd HLE.out ?_
      intro v3 v6 v7 v8 v56 v57 v58 v59 v60 v61 v62 v63 v64 v65 v66 v67 v68 v69 v70 v71 v72 v73 v74 v75 v76 v77 v78 v79 v80 v81 v82 v83 v84 v85 v86 v87 v88 v89 v90 v91 v92 v93 v94 v95 v96 v97 v98 v99 v100 w8 hE8 hK8
      have E8 := Lib.hid hE8
      have K8 := Lib.hid hK8
      clear hE8 hK8 P0
      go_wp2_with fail
      go_roundw
      case rel => exact ⟨k + 1, _, by omega, by go_num, HW2, E8, Lib.hid ((K2.out.trans K5.out).trans K8.out)⟩
      case measure => simp [intOf]; omega
    · have hl : ¬ (k : Int) < (L.length : Int) := by omega
      obtain rfl : k = L.length := by omega
      have HF := Lib.hid (show ws' = ws ++ (L.map (·.fn)).flatMap eFn by rw [HW.out, List.drop_eq_nil_of_le (by rw [List.length_map]; omega)]; simp)
      go_wp2_with fail
      exact HEND.out _ _ _ _ _ _ _ _ _ _ _ _ _ _ _ _ _ _ _ _ _ _ _ _ _ _ _ _ _ _ _ _ _ _ _ _ _ _ _ _ _ _ _ _ _ _ _ _ _ _ _ _ _ _ _ _ _ _ _ _ _ _ _ _ _ _ _ _ _ _ _ _ _ _ _ _ _ _ _ _ _ _ (by rw [← HF.out]; exact HE.out) HK.out
end Go.Proofs.YtiphicejaljhiaaDoor
