/- stockpotref07.Encode: its loops over texts and over forms. -/
import Derived.Test.YtiphicejaljhiaaDoorRfEnc
namespace Go.Proofs.YtiphicejaljhiaaDoor
open Go.ChangeShapes Go.WideShapes Go.ChangeAt Go.RowKit
set_option linter.unusedSimpArgs false
set_option linter.unusedVariables false
section
variable {P : Program} {w : World}
theorem step_append_string {ops : Array Oper} {o : Oper} {a : Act} {K : Act → World → Prop} {Q : Exit → Act → World → Prop} {E : Prop} (hgd : o.guard = none) (s x : Operand) (t u : TypeId)
    (ho : o.op = .call { callee := .builtin .append, args := #[s, x], argTypes := #[t, u] })
    (base : Nat) (e : TypeId) (i : TypeInfo) (ht : P.underlying t = some (.slice e)) (hu : P.underlying u = some .string) (hi : P.info? e = some i) (hz : i.zero = some (.int .u8 0)) (hsize : i.size = 1) (hby : i.bytes = 1)
    (v : Value) (n : Nat) (xs : List Value) (hs : a.eval s = v) (hown : w.ownsRow base e 1 v n xs) (str : ByteArray) (hx : a.eval x = .string str)
    (h63 : n + str.size ≤ maxLen) (hbytes : n + str.size ≤ 140737488355328) (hbase : base ≤ w.heap.size)
    (h : ∀ v' w', w'.ownsRow base e 1 v' (n + str.size) (xs ++ Lib.strCells str) → w.grownBy w' v.ownBlock → K (a.put o.dst v') w') :
    if Region.wanted o (yielded ops a.tmps) = true then Oper.wp P o a w K Q else E := by
  have hw : Region.wanted o (yielded ops a.tmps) = true := by simp [Region.wanted, hgd]
  rw [if_pos hw]
  obtain ⟨v', w', hr, h2, h3, _⟩ := Lib.run_append_own_string (P := P) w base t u o.type e i ht hu hi hz hsize hby v n xs hown str h63 hbytes hbase
  unfold Oper.wp execOp
  simp only [ho, resolve, invoke, builtin, Sem.run_bind, Sem.run_pure, Result.andThen_ok, List.map_toArray, List.map_cons, List.map_nil, hs, hx, hr]
  exact h v' w' h2 h3
end
set_option maxRecDepth 100000 in
set_option maxHeartbeats 4000000 in
theorem e_texts {u0 u2 u4 u5 u6 u7 u8 u10 u11 u12 u13 u14 u15 u16 u17 u18 u19 u20 u21 u22 u23 u24 u25 u26 u27 u28 u29 u30 u31 u32 u33 u34 u35 u36 u37 u38 u39 u40 u41 u42 u43 u44 u45 u46 u47 u48 u49 u50 u51 u52 u53 u54 u55 u56 u57 u58 u59 u60 u61 u62 u63 u64 u65 u66 u67 u68 u69 u70 u71 u72 u73 u74 u75 u76 u77 u78 u79 u80 u81 u82 u83 u84 u85 u86 u87 u88 u89 u90 u91 u92 u93 u94 u95 u96 u97 u98 u99 u100 u101 u102 u103 u104 u105 u106 u107 u108 u109 u110 u111 u112 u113 u114 u115 u116 u117 u118 u119 u120 u121 u122 u123 u124 u125 u126 u127 u128 u129 u130 u131 u132 u133 u134 u135 u136 u137 u138 u139 u140 u141 u142 u143 u144 u145 u146 u147 u148 u149 u150 u151 u152 u153 u154 u155 u156 u157 u158 u159 u160 u161 u162 u163 u164 u165 u166 u167 u168 : Value} {Q : Exit → Act → World → Prop} (w W : World) (gP : Nat) (S : List (List UInt8)) (AF AS AM : Option Addr) (nF cF cS nM cM : Nat) (rv : Value) (ws : List UInt8)
    (hE : EncO w W rv ws) (hP : Blk W gP 42 #[.slice AF nF cF, .slice AS S.length cS, .slice AM nM cM]) (h3 : Reads w w.heap.size 1 AS S.length (S.map strV)) (hL : S.length ≤ 60) (hlen : (ws ++ S.flatMap eStr).length ≤ 1000000) (hQ : ∀ c (a : Act) d v w', Q (.panic c) (a.put d v) w' → Q (.panic c) a w')
    (hend : ∀ v3 v9 v101 v102 v103 v104 v105 v106 v107 v108 v109 v110 v111 v112 v113 v114 v115 v116 v117 v118 v119 v120 v121 v122 v123 W', EncO w W' v3 (ws ++ S.flatMap eStr) → KeptE W W' → Q .normal ⟨#[u0, .pointer (some ⟨gP, 0, none⟩), u2, v3, u4, u5, u6, u7, u8, v9, u10, u11, u12, u13, u14, u15, u16, u17, u18, u19, u20, u21, u22, u23, u24, u25, u26, u27, u28, u29, u30, u31, u32, u33, u34, u35, u36, u37, u38, u39, u40, u41, u42, u43, u44, u45, u46, u47, u48, u49, u50, u51, u52, u53, u54, u55, u56, u57, u58, u59, u60, u61, u62, u63, u64, u65, u66, u67, u68, u69, u70, u71, u72, u73, u74, u75, u76, u77, u78, u79, u80, u81, u82, u83, u84, u85, u86, u87, u88, u89, u90, u91, u92, u93, u94, u95, u96, u97, u98, u99, u100, v101, v102, v103, v104, v105, v106, v107, v108, v109, v110, v111, v112, v113, v114, v115, v116, v117, v118, v119, v120, v121, v122, v123, u124, u125, u126, u127, u128, u129, u130, u131, u132, u133, u134, u135, u136, u137, u138, u139, u140, u141, u142, u143, u144, u145, u146, u147, u148, u149, u150, u151, u152, u153, u154, u155, u156, u157, u158, u159, u160, u161, u162, u163, u164, u165, u166, u167, u168], []⟩ W') :
    Code.wp Tryd.prog (block30 6) Q ⟨#[u0, .pointer (some ⟨gP, 0, none⟩), u2, rv, u4, u5, u6, u7, u8, .int .i64 0, u10, u11, u12, u13, u14, u15, u16, u17, u18, u19, u20, u21, u22, u23, u24, u25, u26, u27, u28, u29, u30, u31, u32, u33, u34, u35, u36, u37, u38, u39, u40, u41, u42, u43, u44, u45, u46, u47, u48, u49, u50, u51, u52, u53, u54, u55, u56, u57, u58, u59, u60, u61, u62, u63, u64, u65, u66, u67, u68, u69, u70, u71, u72, u73, u74, u75, u76, u77, u78, u79, u80, u81, u82, u83, u84, u85, u86, u87, u88, u89, u90, u91, u92, u93, u94, u95, u96, u97, u98, u99, u100, u101, u102, u103, u104, u105, u106, u107, u108, u109, u110, u111, u112, u113, u114, u115, u116, u117, u118, u119, u120, u121, u122, u123, u124, u125, u126, u127, u128, u129, u130, u131, u132, u133, u134, u135, u136, u137, u138, u139, u140, u141, u142, u143, u144, u145, u146, u147, u148, u149, u150, u151, u152, u153, u154, u155, u156, u157, u158, u159, u160, u161, u162, u163, u164, u165, u166, u167, u168], []⟩ W := by
  obtain ⟨i0, hi0, hz0, hz1, hz2⟩ := info_parts u8_info
  have HE0 := Lib.hid hE
  have HP0 := Lib.hid hP
  have H3 := Lib.hid h3
  have HQ := Lib.hid hQ
  have HEND := Lib.hid hend
  have HLEN := Lib.hid hlen
  clear hE hP h3 hQ hend hlen
  conv => arg 2; whnf
  go_wp2_with fail
  go_loopw [3, 9] (fun rv i wr => ∃ (k : Nat) (ws' : List UInt8), k ≤ S.length ∧ i = .int .i64 k ∧ Hid (ws ++ S.flatMap eStr = ws' ++ (S.drop k).flatMap eStr) ∧ Hid (EncO w wr rv ws') ∧ Hid (KeptE W wr)) (fun _ i _ => S.length - (intOf i).toNat)
  case atStart => exact ⟨0, ws, by omega, rfl, Lib.hid (by rw [List.drop_zero]), HE0, Lib.hid (KeptE.refl _)⟩
  clear HE0
  case round =>
    obtain ⟨k, ws', hk, rfl, HW, HE, HK⟩ := hrel
    have P1 := (HK.out _ _ _ (by decide) HP0.out).cell 1
    by_cases hlt : k < S.length
    · have hl : (k : Int) < (S.length : Int) := by omega
      have hk0 : (0 : Int) ≤ (k : Int) := by omega
      obtain ⟨ad, u, e, hbl, hu, hcs⟩ := (H3.out.below HE.out.low).at_ hlt
      obtain rfl : strV S[k] = u := by
        rw [List.getElem?_map, List.getElem?_eq_getElem hlt] at hu
        exact Option.some.inj hu
      have hxd := drop_at hlt
      generalize S[k] = y at hcs hxd hu
      subst e
      have HW2 := Lib.hid (show ws ++ S.flatMap eStr = ((ws' ++ [byteOf (y.length : Int)]) ++ y) ++ (S.drop (k + 1)).flatMap eStr by
        rw [HW.out, hxd, List.flatMap_cons]
        simp only [eStr, numB1, List.append_assoc])
      have HY := Lib.hid (show ws'.length + (1 + y.length) ≤ 1000000 by
        have h := HLEN.out
        rw [HW2.out] at h
        simp only [List.length_append, List.length_cons, List.length_nil] at h
        omega)
      have KS := Lib.hid (show ∀ V, Below w.heap.size w V → KeptE W V → (V.cell? ⟨gP, 1, none⟩ = some (.slice (some ad) S.length cS) ∧ V.cell? (ad.add k) = some (strV y)) from fun V hb hkp => ⟨(hkp _ _ _ (by decide) HP0.out).cell 1, by
        obtain ⟨ad', e', _, hc⟩ := (H3.out.below hb).2 (by omega)
        cases e'
        exact hc k _ hu⟩)
      clear hxd hu
      have W1 := wrap_u8 (y.length : Int)
      go_wp2_with fail
      have Ed := Lib.hid HE.out.drew
      have Kd := Lib.hid (HK.out.trans (KeptE.drew wr))
      refine wp_region_held_drew (S := fun V => V.cell? ⟨gP, 1, none⟩ = some (.slice (some ad) S.length cS) ∧ V.cell? (ad.add k) = some (strV y)) (by kernel_rfl) ⟨P1, hcs⟩ (fun hHeld => ?_)
      clear P1 hcs
      generalize wr.drew = d at Ed Kd hHeld ⊢
      refine wpAnyH_take (i := 0) (oi := ⟨some 108, _, _, _, _, _⟩) (v := ?_) rfl (by kernel_rfl) (by kernel_rfl) (by kernel_rfl) (fun _ _ _ h => HQ.out _ _ _ _ _ h) (Or.inl ⟨by kernel_rfl, ?_⟩) (by assumption) ?_
      rotate_left
      · intro w hSw
        go_simp
        try with_reducible rfl
      try simp only [Act.put, List.setIfInBounds_toArray, List.set_cons_zero, List.set_cons_succ]
      refine wpAnyH_take (i := 1) (oi := ⟨some 109, _, _, _, _, _⟩) (v := ?_) rfl (by kernel_rfl) (by kernel_rfl) (by kernel_rfl) (fun _ _ _ h => HQ.out _ _ _ _ _ h) (Or.inl ⟨by kernel_rfl, ?_⟩) (by assumption) ?_
      rotate_left
      · intro w hSw
        go_simp
        try with_reducible rfl
      try simp only [Act.put, List.setIfInBounds_toArray, List.set_cons_zero, List.set_cons_succ]
      refine wpAnyH_take (i := 2) (oi := ⟨some 110, _, _, _, _, _⟩) (v := ?_) rfl (by kernel_rfl) (by kernel_rfl) (by kernel_rfl) (fun _ _ _ h => HQ.out _ _ _ _ _ h) (Or.inl ⟨by kernel_rfl, ?_⟩) (by assumption) ?_
      rotate_left
      · intro w hSw
        go_simp
        try with_reducible rfl
      try simp only [Act.put, List.setIfInBounds_toArray, List.set_cons_zero, List.set_cons_succ]
      refine wpAnyH_take (i := 3) (oi := ⟨some 111, _, _, _, _, _⟩) (v := ?_) rfl (by kernel_rfl) (by kernel_rfl) (by kernel_rfl) (fun _ _ _ h => HQ.out _ _ _ _ _ h) (Or.inl ⟨by kernel_rfl, ?_⟩) (by assumption) ?_
      rotate_left
      · intro w hSw
        go_simp
        try with_reducible rfl
      try simp only [Act.put, List.setIfInBounds_toArray, List.set_cons_zero, List.set_cons_succ]
      refine wpAnyH_take (i := 4) (oi := ⟨some 112, _, _, _, _, _⟩) (v := ?_) rfl (by kernel_rfl) (by kernel_rfl) (by kernel_rfl) (fun _ _ _ h => HQ.out _ _ _ _ _ h) (Or.inl ⟨by kernel_rfl, ?_⟩) (by assumption) ?_
      rotate_left
      · intro w hSw
        go_simp
        try with_reducible rfl
      try simp only [Act.put, List.setIfInBounds_toArray, List.set_cons_zero, List.set_cons_succ]
      refine wpAnyH_take (i := 5) (oi := ⟨some 113, _, _, _, _, _⟩) (v := ?_) rfl (by kernel_rfl) (by kernel_rfl) (by kernel_rfl) (fun _ _ _ h => HQ.out _ _ _ _ _ h) (Or.inl ⟨by kernel_rfl, ?_⟩) (by assumption) ?_
      rotate_left
      · intro w hSw
        go_simp
        try with_reducible rfl
      try simp only [Act.put, List.setIfInBounds_toArray, List.set_cons_zero, List.set_cons_succ]
      refine wpAnyH_take (i := 6) (oi := ⟨some 114, _, _, _, _, _⟩) (v := ?_) rfl (by kernel_rfl) (by kernel_rfl) (by kernel_rfl) (fun _ _ _ h => HQ.out _ _ _ _ _ h) (Or.inl ⟨by kernel_rfl, ?_⟩) (by assumption) ?_
      rotate_left
      · intro w hSw
        go_simp
        try with_reducible rfl
      try simp only [Act.put, List.setIfInBounds_toArray, List.set_cons_zero, List.set_cons_succ]
      refine wpAnyH_take (i := 7) (oi := ⟨some 115, _, _, _, _, _⟩) (v := ?_) rfl (by kernel_rfl) (by kernel_rfl) (by kernel_rfl) (fun _ _ _ h => HQ.out _ _ _ _ _ h) (Or.inl ⟨by kernel_rfl, ?_⟩) (by assumption) ?_
      rotate_left
      · intro w hSw
        go_simp
        try with_reducible rfl
      try simp only [Act.put, List.setIfInBounds_toArray, List.set_cons_zero, List.set_cons_succ]
      refine wpAnyH_take (i := 10) (oi := ⟨some 118, _, _, _, _, _⟩) (v := ?_) rfl (by kernel_rfl) (by kernel_rfl) (by kernel_rfl) (fun _ _ _ h => HQ.out _ _ _ _ _ h) (Or.inl ⟨by kernel_rfl, ?_⟩) (by assumption) ?_
      rotate_left
      · intro w hSw
        go_simp
        try with_reducible rfl
      try simp only [Act.put, List.setIfInBounds_toArray, List.set_cons_zero, List.set_cons_succ]
      refine wpAnyH_take (i := 11) (oi := ⟨some 119, _, _, _, _, _⟩) (v := ?_) rfl (by kernel_rfl) (by kernel_rfl) (by kernel_rfl) (fun _ _ _ h => HQ.out _ _ _ _ _ h) (Or.inl ⟨by kernel_rfl, ?_⟩) (by assumption) ?_
      rotate_left
      · intro w hSw
        go_simp
        try with_reducible rfl
      try simp only [Act.put, List.setIfInBounds_toArray, List.set_cons_zero, List.set_cons_succ]
      refine wpAnyH_take (i := 12) (oi := ⟨some 120, _, _, _, _, _⟩) (v := ?_) rfl (by kernel_rfl) (by kernel_rfl) (by kernel_rfl) (fun _ _ _ h => HQ.out _ _ _ _ _ h) (Or.inl ⟨by kernel_rfl, ?_⟩) (by assumption) ?_
      rotate_left
      · intro w hSw
        go_simp
        try with_reducible rfl
      try simp only [Act.put, List.setIfInBounds_toArray, List.set_cons_zero, List.set_cons_succ]
      refine wpAnyH_take (i := 13) (oi := ⟨some 121, _, _, _, _, _⟩) (v := ?_) rfl (by kernel_rfl) (by kernel_rfl) (by kernel_rfl) (fun _ _ _ h => HQ.out _ _ _ _ _ h) (Or.inl ⟨by kernel_rfl, ?_⟩) (by assumption) ?_
      rotate_left
      · intro w hSw
        go_simp
        try with_reducible rfl
      try simp only [Act.put, List.setIfInBounds_toArray, List.set_cons_zero, List.set_cons_succ]
      refine wpAnyH_take (i := 14) (oi := ⟨some 122, _, _, _, _, _⟩) (v := ?_) rfl (by kernel_rfl) (by kernel_rfl) (by kernel_rfl) (fun _ _ _ h => HQ.out _ _ _ _ _ h) (Or.inl ⟨by kernel_rfl, ?_⟩) (by assumption) ?_
      rotate_left
      · intro w hSw
        go_simp
        try with_reducible rfl
      try simp only [Act.put, List.setIfInBounds_toArray, List.set_cons_zero, List.set_cons_succ]

      have E1 := Lib.hid (Ed.out.alloc (.cells #[byV (byteOf (y.length : Int))] 5))
      have K1 := Lib.hid (Kd.out.trans (KeptE.alloc d (.cells #[byV (byteOf (y.length : Int))] 5)))
      have M1 := Lib.hid (show Blk (d.alloc (.cells #[byV (byteOf (y.length : Int))] 5)) d.heap.size 5 (cellsB [byteOf (y.length : Int)]).toArray from Blk.new d 5 #[byV (byteOf (y.length : Int))])
      refine wpAnyH_ready (rs := [8]) (by kernel_rfl) (by simp) ?_
      refine AllReadyH.cons (o := ⟨some 116, _, _, _, _, _⟩) rfl (fun K hK => ?_) AllReadyH.nil
      go_simp
      refine hK.out _ _ ?_ (fun hHeld => ?_)
      · exact KS.out _ E1.out.low K1.out
      clear hK K
      try simp only [Act.put, List.setIfInBounds_toArray, List.set_cons_zero, List.set_cons_succ]

      generalize d.heap.size = b8 at M1 ⊢
      generalize d.alloc (.cells #[byV (byteOf (y.length : Int))] 5) = d1 at E1 K1 M1 ⊢
      refine wpAnyH_ready (rs := [9]) (by kernel_rfl) (by simp) ?_
      refine AllReadyH.cons (o := ⟨some 117, _, _, _, _, _⟩) rfl (fun K hK => ?_) AllReadyH.nil
      refine step_append_any _ (by rfl) (.tmp 108) (.tmp 116) 43 (by rfl) w.heap.size 5 i0 _ 1 1 Tryd.underlying43 hi0 hz0 hz1 hz2 rfl (by omega) u3 ws'.length (cellsB ws') (by rfl) E1.out.own (b8 + 1) (some ⟨b8, 0, none⟩) 1 1 (cellsB [byteOf (y.length : Int)]) (by rfl) (reads_blkN (vs := cellsB [byteOf (y.length : Int)]) M1.out rfl) (by simp [cellsB, Value.oneCell']) (by unfold maxLen; have := HY.out; omega) (by have := HY.out; omega) E1.out.low.size ?_
      intro rv9 d2 oA gA _
      have E2 := Lib.hid (E1.out.app gA oA rfl)
      have K2 := Lib.hid (K1.out.trans (E1.out.kept gA))
      clear oA gA
      refine hK.out _ _ ?_ (fun hHeld => ?_)
      · exact KS.out _ E2.out.low K2.out
      clear hK K
      try simp only [Act.put, List.setIfInBounds_toArray, List.set_cons_zero, List.set_cons_succ]

      clear E1 K1 M1
      refine wpAnyH_ready (rs := [15]) (by kernel_rfl) (by simp) ?_
      refine AllReadyH.cons (o := ⟨some 123, _, _, _, _, _⟩) rfl (fun K hK => ?_) AllReadyH.nil
      refine step_append_string (by rfl) (.tmp 117) (.tmp 122) 43 9 (by rfl) w.heap.size 5 i0 Tryd.underlying43 Tryd.underlying9 hi0 hz0 hz1 hz2 rv9 _ _ (by rfl) E2.out.own ⟨y.toArray⟩ (by rfl) (by unfold maxLen; have := HY.out; rw [List.length_append]; show _ + _ + y.length ≤ _; simp only [List.length_cons, List.length_nil]; omega) (by have := HY.out; rw [List.length_append]; show _ + _ + y.length ≤ _; simp only [List.length_cons, List.length_nil]; omega) E2.out.low.size ?_
      intro rv10 d3 oA gA
      rw [strCells_eq] at oA
      have E3 := Lib.hid (E2.out.app gA oA rfl)
      have K3 := Lib.hid (K2.out.trans (E2.out.kept gA))
      clear oA gA
      refine hK.out _ _ ?_ (fun hHeld => ?_)
      · exact KS.out _ E3.out.low K3.out
      clear hK K
      try simp only [Act.put, List.setIfInBounds_toArray, List.set_cons_zero, List.set_cons_succ]

      refine wpAnyH_take (i := 16) (oi := ⟨some 3, _, _, _, _, _⟩) (v := ?_) rfl (by kernel_rfl) (by kernel_rfl) (by kernel_rfl) (fun _ _ _ h => HQ.out _ _ _ _ _ h) (Or.inl ⟨by kernel_rfl, ?_⟩) (by assumption) ?_
      rotate_left
      · intro w hSw
        go_simp
        try with_reducible rfl
      try simp only [Act.put, List.setIfInBounds_toArray, List.set_cons_zero, List.set_cons_succ]

      refine wpAnyH_done (by kernel_rfl) ?_ _
      clear E2 K2 KS Ed Kd hHeld
      go_wp2_with fail
      go_roundw
      case rel => exact ⟨k + 1, _, by omega, by go_num, HW2, E3, K3⟩
      case measure => simp [intOf]; omega
    · have hl : ¬ (k : Int) < (S.length : Int) := by omega
      obtain rfl : k = S.length := by omega
      have HF := Lib.hid (show ws' = ws ++ S.flatMap eStr by rw [HW.out, List.drop_eq_nil_of_le (by omega)]; simp)
      go_wp2_with fail
      exact HEND.out _ _ _ _ _ _ _ _ _ _ _ _ _ _ _ _ _ _ _ _ _ _ _ _ _ _ (by rw [← HF.out]; exact HE.out) HK.out
set_option maxRecDepth 100000 in
set_option maxHeartbeats 4000000 in
theorem e_cons {u0 u1 u2 u4 u5 u6 u7 u8 u9 u10 u13 u14 u15 u16 u17 u18 u19 u20 u21 u22 u23 u24 u25 u26 u27 u28 u29 u30 u31 u32 u33 u34 u35 u36 u37 u38 u39 u40 u41 u42 u43 u44 u45 u46 u47 u48 u49 u50 u51 u52 u53 u54 u55 u56 u57 u58 u59 u60 u61 u62 u63 u64 u65 u66 u67 u68 u69 u70 u71 u72 u73 u74 u75 u76 u77 u78 u79 u80 u81 u82 u83 u84 u85 u86 u87 u88 u89 u90 u91 u92 u93 u94 u95 u96 u97 u98 u99 u100 u101 u102 u103 u104 u105 u106 u107 u108 u109 u110 u111 u112 u113 u114 u115 u116 u117 u118 u119 u120 u121 u122 u123 u124 u125 u126 u127 u128 u129 u130 u131 u132 u133 u134 u135 u136 u137 u138 u139 u140 u141 u142 u143 u144 u145 u146 u147 u148 u149 u150 u151 u152 u153 u154 u155 u156 u157 u158 u159 u160 u161 u162 u163 u164 u165 u166 u167 u168 : Value} {Q : Exit → Act → World → Prop} (w W : World) (gF : Nat) (kd fa fb : Int) (cd : List Int) (xa : Option Addr) (xc : Nat) (rv : Value) (ws : List UInt8)
    (hE : EncO w W rv ws) (hF : Blk W gF 63 #[.int .i64 kd, .int .i64 fa, .int .i64 fb, .slice xa cd.length xc]) (hx : Reads w w.heap.size 1 xa cd.length (cd.map (Value.int .i64))) (hcl : cd.length ≤ 20) (hlen : (ws ++ cd.flatMap (fun c => numB c 1)).length ≤ 1000000)
    (hend : ∀ v3 v12 v152 v153 v154 v155 v156 v157 v158 v159 v160 v161 v162 v163 v164 v165 v166 v167 W', EncO w W' v3 (ws ++ cd.flatMap (fun c => numB c 1)) → KeptE W W' → Q .normal ⟨#[u0, u1, u2, v3, u4, u5, u6, u7, u8, u9, u10, .pointer (some ⟨gF, 0, none⟩), v12, u13, u14, u15, u16, u17, u18, u19, u20, u21, u22, u23, u24, u25, u26, u27, u28, u29, u30, u31, u32, u33, u34, u35, u36, u37, u38, u39, u40, u41, u42, u43, u44, u45, u46, u47, u48, u49, u50, u51, u52, u53, u54, u55, u56, u57, u58, u59, u60, u61, u62, u63, u64, u65, u66, u67, u68, u69, u70, u71, u72, u73, u74, u75, u76, u77, u78, u79, u80, u81, u82, u83, u84, u85, u86, u87, u88, u89, u90, u91, u92, u93, u94, u95, u96, u97, u98, u99, u100, u101, u102, u103, u104, u105, u106, u107, u108, u109, u110, u111, u112, u113, u114, u115, u116, u117, u118, u119, u120, u121, u122, u123, u124, u125, u126, u127, u128, u129, u130, u131, u132, u133, u134, u135, u136, u137, u138, u139, u140, u141, u142, u143, u144, u145, u146, u147, u148, u149, u150, u151, v152, v153, v154, v155, v156, v157, v158, v159, v160, v161, v162, v163, v164, v165, v166, v167, u168], []⟩ W') :
    Code.wp Tryd.prog (block30 10) Q ⟨#[u0, u1, u2, rv, u4, u5, u6, u7, u8, u9, u10, .pointer (some ⟨gF, 0, none⟩), .int .i64 0, u13, u14, u15, u16, u17, u18, u19, u20, u21, u22, u23, u24, u25, u26, u27, u28, u29, u30, u31, u32, u33, u34, u35, u36, u37, u38, u39, u40, u41, u42, u43, u44, u45, u46, u47, u48, u49, u50, u51, u52, u53, u54, u55, u56, u57, u58, u59, u60, u61, u62, u63, u64, u65, u66, u67, u68, u69, u70, u71, u72, u73, u74, u75, u76, u77, u78, u79, u80, u81, u82, u83, u84, u85, u86, u87, u88, u89, u90, u91, u92, u93, u94, u95, u96, u97, u98, u99, u100, u101, u102, u103, u104, u105, u106, u107, u108, u109, u110, u111, u112, u113, u114, u115, u116, u117, u118, u119, u120, u121, u122, u123, u124, u125, u126, u127, u128, u129, u130, u131, u132, u133, u134, u135, u136, u137, u138, u139, u140, u141, u142, u143, u144, u145, u146, u147, u148, u149, u150, u151, u152, u153, u154, u155, u156, u157, u158, u159, u160, u161, u162, u163, u164, u165, u166, u167, u168], []⟩ W := by
  obtain ⟨i0, hi0, hz0, hz1, hz2⟩ := info_parts u8_info
  have HE0 := Lib.hid hE
  have HF0 := Lib.hid hF
  have HX := Lib.hid hx
  have HEND := Lib.hid hend
  have HLEN := Lib.hid hlen
  clear hE hF hx hend hlen
  conv => arg 2; whnf
  go_wp2_with fail
  go_loopw [3, 12] (fun rv i wr => ∃ (k : Nat) (ws' : List UInt8), k ≤ cd.length ∧ i = .int .i64 k ∧ Hid (ws ++ cd.flatMap (fun c => numB c 1) = ws' ++ (cd.drop k).flatMap (fun c => numB c 1)) ∧ Hid (EncO w wr rv ws') ∧ Hid (KeptE W wr)) (fun _ i _ => cd.length - (intOf i).toNat)
  case atStart => exact ⟨0, ws, by omega, rfl, Lib.hid (by rw [List.drop_zero]), HE0, Lib.hid (KeptE.refl _)⟩
  clear HE0
  case round =>
    obtain ⟨k, ws', hk, rfl, HW, HE, HK⟩ := hrel
    have F3 := (HK.out _ _ _ (by decide) HF0.out).cell 3
    by_cases hlt : k < cd.length
    · have hl : (k : Int) < (cd.length : Int) := by omega
      have hk0 : (0 : Int) ≤ (k : Int) := by omega
      obtain ⟨ad, u, e, hbl, hu, hcs⟩ := (HX.out.below HE.out.low).at_ hlt
      obtain rfl : Value.int .i64 cd[k] = u := by
        rw [List.getElem?_map, List.getElem?_eq_getElem hlt] at hu
        exact Option.some.inj hu
      have hxd := drop_at hlt
      generalize cd[k] = y at hcs hxd hu
      subst e
      have HW2 := Lib.hid (show ws ++ cd.flatMap (fun c => numB c 1) = (ws' ++ [byteOf y]) ++ (cd.drop (k + 1)).flatMap (fun c => numB c 1) by
        rw [HW.out, hxd, List.flatMap_cons]
        simp only [numB1, List.append_assoc])
      have HLW := Lib.hid (show ws'.length + 20 ≤ 1000020 by
        have h := HLEN.out
        rw [HW2.out] at h
        simp only [List.length_append] at h
        omega)
      clear hxd hu
      have W1 := wrap_u8 y
      have E1 := Lib.hid (HE.out.alloc (.cells #[byV (byteOf y)] 5))
      have M1 := Lib.hid (show Blk (wr.alloc (.cells #[byV (byteOf y)] 5)) wr.heap.size 5 (cellsB [byteOf y]).toArray from Blk.new wr 5 #[byV (byteOf y)])
      have K1 := Lib.hid (HK.out.trans (KeptE.alloc wr (.cells #[byV (byteOf y)] 5)))
      go_wp2_with (at_builtin; refine wpList_append_any _ rfl (.tmp 159) (.tmp 166) 43 rfl w.heap.size 5 i0 _ 1 1 Tryd.underlying43 hi0 hz0 hz1 hz2 rfl (by omega) u3 ws'.length (cellsB ws') rfl E1.out.own (wr.heap.size + 1) (some ⟨wr.heap.size, 0, none⟩) 1 1 (cellsB [byteOf y]) rfl (reads_blkN (vs := cellsB [byteOf y]) M1.out rfl) (by simp [cellsB, Value.oneCell']) (by unfold maxLen; have := HLW.out; omega) (by have := HLW.out; omega) E1.out.low.size ?_; intro rv5 w5 oA gA _; have E5 := Lib.hid (E1.out.app gA oA rfl); have K5 := Lib.hid (E1.out.kept gA); clear oA gA)
      go_roundw
      case rel => exact ⟨k + 1, _, by omega, by go_num, HW2, E5, Lib.hid (K1.out.trans K5.out)⟩
      case measure => simp [intOf]; omega
    · have hl : ¬ (k : Int) < (cd.length : Int) := by omega
      obtain rfl : k = cd.length := by omega
      have HF := Lib.hid (show ws' = ws ++ cd.flatMap (fun c => numB c 1) by rw [HW.out, List.drop_eq_nil_of_le (by omega)]; simp)
      go_wp2_with fail
      exact HEND.out _ _ _ _ _ _ _ _ _ _ _ _ _ _ _ _ _ _ _ (by rw [← HF.out]; exact HE.out) HK.out
set_option maxRecDepth 100000 in
set_option maxHeartbeats 4000000 in
theorem e_forms {u0 u2 u4 u5 u6 u7 u8 u9 u11 u12 u13 u14 u15 u16 u17 u18 u19 u20 u21 u22 u23 u24 u25 u26 u27 u28 u29 u30 u31 u32 u33 u34 u35 u36 u37 u38 u39 u40 u41 u42 u43 u44 u45 u46 u47 u48 u49 u50 u51 u52 u53 u54 u55 u56 u57 u58 u59 u60 u61 u62 u63 u64 u65 u66 u67 u68 u69 u70 u71 u72 u73 u74 u75 u76 u77 u78 u79 u80 u81 u82 u83 u84 u85 u86 u87 u88 u89 u90 u91 u92 u93 u94 u95 u96 u97 u98 u99 u100 u101 u102 u103 u104 u105 u106 u107 u108 u109 u110 u111 u112 u113 u114 u115 u116 u117 u118 u119 u120 u121 u122 u123 u124 u125 u126 u127 u128 u129 u130 u131 u132 u133 u134 u135 u136 u137 u138 u139 u140 u141 u142 u143 u144 u145 u146 u147 u148 u149 u150 u151 u152 u153 u154 u155 u156 u157 u158 u159 u160 u161 u162 u163 u164 u165 u166 u167 u168 : Value} {Q : Exit → Act → World → Prop} (w W : World) (gP : Nat) (M : List Fmv) (AF AS AM : Option Addr) (nF cF nS cS cM : Nat) (rv : Value) (ws : List UInt8)
    (hE : EncO w W rv ws) (hP : Blk W gP 42 #[.slice AF nF cF, .slice AS nS cS, .slice AM M.length cM]) (h1 : Reads w w.heap.size 4 AM M.length (M.flatMap Fmv.cells)) (h2 : ∀ x ∈ M, FmOk w w.heap.size x) (hg : ∀ x ∈ M, x.fm.cons.length ≤ 20) (hL : M.length ≤ 60) (hlen : (ws ++ (M.map (·.fm)).flatMap eFm).length ≤ 1000000)
    (hend : ∀ v3 v10 v11 v12 v124 v125 v126 v127 v128 v129 v130 v131 v132 v133 v134 v135 v136 v137 v138 v139 v140 v141 v142 v143 v144 v145 v146 v147 v148 v149 v150 v151 v152 v153 v154 v155 v156 v157 v158 v159 v160 v161 v162 v163 v164 v165 v166 v167 W', EncO w W' v3 (ws ++ (M.map (·.fm)).flatMap eFm) → KeptE W W' → Q .normal ⟨#[u0, .pointer (some ⟨gP, 0, none⟩), u2, v3, u4, u5, u6, u7, u8, u9, v10, v11, v12, u13, u14, u15, u16, u17, u18, u19, u20, u21, u22, u23, u24, u25, u26, u27, u28, u29, u30, u31, u32, u33, u34, u35, u36, u37, u38, u39, u40, u41, u42, u43, u44, u45, u46, u47, u48, u49, u50, u51, u52, u53, u54, u55, u56, u57, u58, u59, u60, u61, u62, u63, u64, u65, u66, u67, u68, u69, u70, u71, u72, u73, u74, u75, u76, u77, u78, u79, u80, u81, u82, u83, u84, u85, u86, u87, u88, u89, u90, u91, u92, u93, u94, u95, u96, u97, u98, u99, u100, u101, u102, u103, u104, u105, u106, u107, u108, u109, u110, u111, u112, u113, u114, u115, u116, u117, u118, u119, u120, u121, u122, u123, v124, v125, v126, v127, v128, v129, v130, v131, v132, v133, v134, v135, v136, v137, v138, v139, v140, v141, v142, v143, v144, v145, v146, v147, v148, v149, v150, v151, v152, v153, v154, v155, v156, v157, v158, v159, v160, v161, v162, v163, v164, v165, v166, v167, u168], []⟩ W') :
    Code.wp Tryd.prog (block30 8) Q ⟨#[u0, .pointer (some ⟨gP, 0, none⟩), u2, rv, u4, u5, u6, u7, u8, u9, .int .i64 0, u11, u12, u13, u14, u15, u16, u17, u18, u19, u20, u21, u22, u23, u24, u25, u26, u27, u28, u29, u30, u31, u32, u33, u34, u35, u36, u37, u38, u39, u40, u41, u42, u43, u44, u45, u46, u47, u48, u49, u50, u51, u52, u53, u54, u55, u56, u57, u58, u59, u60, u61, u62, u63, u64, u65, u66, u67, u68, u69, u70, u71, u72, u73, u74, u75, u76, u77, u78, u79, u80, u81, u82, u83, u84, u85, u86, u87, u88, u89, u90, u91, u92, u93, u94, u95, u96, u97, u98, u99, u100, u101, u102, u103, u104, u105, u106, u107, u108, u109, u110, u111, u112, u113, u114, u115, u116, u117, u118, u119, u120, u121, u122, u123, u124, u125, u126, u127, u128, u129, u130, u131, u132, u133, u134, u135, u136, u137, u138, u139, u140, u141, u142, u143, u144, u145, u146, u147, u148, u149, u150, u151, u152, u153, u154, u155, u156, u157, u158, u159, u160, u161, u162, u163, u164, u165, u166, u167, u168], []⟩ W := by
  obtain ⟨i0, hi0, hz0, hz1, hz2⟩ := info_parts u8_info
  have HE0 := Lib.hid hE
  have HP0 := Lib.hid hP
  have H1 := Lib.hid h1
  have H2 := Lib.hid h2
  have HG := Lib.hid hg
  have HEND := Lib.hid hend
  have HLEN := Lib.hid hlen
  clear hE hP h1 h2 hg hend hlen
  conv => arg 2; whnf
  go_wp2_with fail
  go_loopw [3, 10] (fun rv i wr => ∃ (k : Nat) (ws' : List UInt8), k ≤ M.length ∧ i = .int .i64 k ∧ Hid (ws ++ (M.map (·.fm)).flatMap eFm = ws' ++ ((M.map (·.fm)).drop k).flatMap eFm) ∧ Hid (EncO w wr rv ws') ∧ Hid (KeptE W wr)) (fun _ i _ => M.length - (intOf i).toNat)
  case atStart => exact ⟨0, ws, by omega, rfl, Lib.hid (by rw [List.drop_zero]), HE0, Lib.hid (KeptE.refl _)⟩
  clear HE0
  case round =>
    obtain ⟨k, ws', hk, rfl, HW, HE, HK⟩ := hrel
    have P2 := (HK.out _ _ _ (by decide) HP0.out).cell 2
    by_cases hlt : k < M.length
    · have hl : (k : Int) < (M.length : Int) := by omega
      have hk0 : (0 : Int) ≤ (k : Int) := by omega
      obtain ⟨ad, e, hbl, hcs⟩ := Reads.rowAt (f := Fmv.cells) (m := 4) (fun _ => rfl) (H1.out.below HE.out.low) (by decide) (List.getElem?_eq_getElem hlt)
      have hx1 := H2.out _ (List.getElem_mem hlt)
      have hgd := HG.out _ (List.getElem_mem hlt)
      have hxd : (M.map (·.fm)).drop k = M[k].fm :: (M.map (·.fm)).drop (k + 1) := by
        rw [drop_at (by rw [List.length_map]; exact hlt), List.getElem_map]
      generalize M[k] = x at hcs hx1 hgd hxd
      obtain ⟨⟨kd, fa, fb, cd⟩, xa, xc⟩ := x
      subst e
      simp only at hgd
      have HCS := Lib.hid hcs
      have HX1 := Lib.hid hx1
      have HW2 := Lib.hid (show ws ++ (M.map (·.fm)).flatMap eFm = (ws' ++ [byteOf kd, byteOf fa, byteOf fb, byteOf (cd.length : Int)] ++ cd.flatMap (fun c => numB c 1)) ++ ((M.map (·.fm)).drop (k + 1)).flatMap eFm by
        rw [HW.out, hxd, List.flatMap_cons, ← List.append_assoc]
        show (ws' ++ (numB kd 1 ++ (numB fa 1 ++ (numB fb 1 ++ (numB (cd.length : Int) 1 ++ cd.flatMap (fun c => numB c 1)))))) ++ _ = _
        rw [numB1, numB1, numB1, numB1]
        simp only [List.append_assoc, List.cons_append, List.nil_append])
      clear hcs hxd hx1
      have HLW := Lib.hid (show (ws' ++ [byteOf kd, byteOf fa, byteOf fb, byteOf (cd.length : Int)] ++ cd.flatMap (fun c => numB c 1)).length ≤ 1000000 by
        have h := HLEN.out
        rw [HW2.out] at h
        rw [List.length_append] at h
        omega)
      have HLE := HLW
      have HLW := Lib.hid (show ws'.length + 20 ≤ 1000020 by
        have h := HLE.out
        rw [List.append_assoc, List.length_append] at h
        omega)
      have F1 := Blk.new wr 63 #[.int .i64 kd, .int .i64 fa, .int .i64 fb, .slice xa cd.length xc]
      have E1 := Lib.hid ((HE.out.alloc (.cells #[.int .i64 kd, .int .i64 fa, .int .i64 fb, .slice xa cd.length xc] 63)).alloc (.cells #[byV (byteOf kd), byV (byteOf fa), byV (byteOf fb), byV (byteOf (cd.length : Int))] 5))
      have M1 := Lib.hid (show Blk ((wr.alloc (.cells #[.int .i64 kd, .int .i64 fa, .int .i64 fb, .slice xa cd.length xc] 63)).alloc (.cells #[byV (byteOf kd), byV (byteOf fa), byV (byteOf fb), byV (byteOf (cd.length : Int))] 5)) (wr.heap.size + 1) 5 (cellsB [byteOf kd, byteOf fa, byteOf fb, byteOf (cd.length : Int)]).toArray from by
        have := Blk.new (wr.alloc (.cells #[.int .i64 kd, .int .i64 fa, .int .i64 fb, .slice xa cd.length xc] 63)) 5 #[byV (byteOf kd), byV (byteOf fa), byV (byteOf fb), byV (byteOf (cd.length : Int))]
        rw [World.size_alloc] at this
        exact this)
      have F2 := Lib.hid (F1.alloc (.cells #[byV (byteOf kd), byV (byteOf fa), byV (byteOf fb), byV (byteOf (cd.length : Int))] 5))
      have K2 := Lib.hid ((HK.out.trans (KeptE.alloc wr (.cells #[.int .i64 kd, .int .i64 fa, .int .i64 fb, .slice xa cd.length xc] 63))).trans (KeptE.alloc _ (.cells #[byV (byteOf kd), byV (byteOf fa), byV (byteOf fb), byV (byteOf (cd.length : Int))] 5)))
      have W1 := wrap_u8 kd
      have W2 := wrap_u8 fa
      have W3 := wrap_u8 fb
      have W4 := wrap_u8 (cd.length : Int)
      have f0 := F1.cell 0
      have f1 := F1.cell 1
      have f2 := F1.cell 2
      have f3 := F1.cell 3
      clear F1
      go_upto_block 10 with (first
        | (refine wpList_load_at rfl 63 (.tmp 134) rfl (ad.add (k * 4)) rfl [.int .i64 kd, .int .i64 fa, .int .i64 fb, .slice xa cd.length xc] _ HCS.out Tryd.underlying63 rfl (by kernel_rfl) ?_)
        | (at_builtin; refine wpList_append_any _ rfl (.tmp 136) (.tmp 150) 43 rfl w.heap.size 5 i0 _ 1 1 Tryd.underlying43 hi0 hz0 hz1 hz2 rfl (by omega) u3 ws'.length (cellsB ws') rfl E1.out.own ((wr.heap.size + 1) + 1) (some ⟨(wr.heap.size + 1), 0, none⟩) 4 4 (cellsB [byteOf kd, byteOf fa, byteOf fb, byteOf (cd.length : Int)]) rfl (reads_blkN (vs := cellsB [byteOf kd, byteOf fa, byteOf fb, byteOf (cd.length : Int)]) M1.out rfl) (by simp [cellsB, Value.oneCell']) (by unfold maxLen; have := HLW.out; omega) (by have := HLW.out; omega) E1.out.low.size ?_; intro rv5 w5 oA gA _; have E5 := Lib.hid (E1.out.app gA oA rfl); have K5 := Lib.hid (E1.out.kept gA); clear oA gA; have F5 := Lib.hid (K5.out _ _ _ (by decide) F2.out); clear f0 f1 f2 f3))
      refine e_cons w w5 wr.heap.size kd fa fb cd xa xc rv5 (ws' ++ [byteOf kd, byteOf fa, byteOf fb, byteOf (cd.length : Int)]) E5.out F5.out HX1.out.1 hgd HLE.out ?_
      intro v3 v12 v152 v153 v154 v155 v156 v157 v158 v159 v160 v161 v162 v163 v164 v165 v166 v167 w8 hE8 hK8
      have E8 := Lib.hid hE8
      have K8 := Lib.hid hK8
      clear hE8 hK8 P2
      go_wp2_with fail
      go_roundw
      case rel => exact ⟨k + 1, _, by omega, by go_num, HW2, E8, Lib.hid ((K2.out.trans K5.out).trans K8.out)⟩
      case measure => simp [intOf]; omega
    · have hl : ¬ (k : Int) < (M.length : Int) := by omega
      obtain rfl : k = M.length := by omega
      have HF := Lib.hid (show ws' = ws ++ (M.map (·.fm)).flatMap eFm by rw [HW.out, List.drop_eq_nil_of_le (by rw [List.length_map]; omega)]; simp)
      go_wp2_with fail
      exact HEND.out _ _ _ _ _ _ _ _ _ _ _ _ _ _ _ _ _ _ _ _ _ _ _ _ _ _ _ _ _ _ _ _ _ _ _ _ _ _ _ _ _ _ _ _ _ _ _ _ _ (by rw [← HF.out]; exact HE.out) HK.out
/-- The start of what is written: three bytes, in a new block behind the program's. -/
theorem enc_start (w : World) (cs : Array Value) (a b c : UInt8) : EncO w ((w.alloc (.cells cs 42)).alloc (.cells #[byV a, byV b, byV c] 5)) (.slice (some ⟨w.heap.size + 1, 0, none⟩) 3 3) [a, b, c] := by
  refine ⟨((Below.refl w.heap.size w).alloc (Nat.le_refl _) _).alloc (by rw [World.size_alloc]; omega) _, rfl, .inr ⟨w.heap.size + 1, 3, #[byV a, byV b, byV c], rfl, by omega, ?_, Nat.le_refl _, by unfold maxLen; omega, rfl, rfl⟩⟩
  have := heap_alloc_new (w.alloc (.cells cs 42)) (.cells #[byV a, byV b, byV c] 5)
  rw [World.size_alloc] at this
  exact this
set_option maxRecDepth 100000 in
set_option maxHeartbeats 4000000 in
theorem c30 (q : PrMem) (w : World) (hq : PrOk w w.heap.size q) (hgp : gPr q.pr = true) :
    Calls Tryd.prog 30 #[q.val] w fun e w' => ∃ v, e = .returned v ∧ w'.ownsRow w.heap.size 5 1 v (ePr q.pr).length (cellsB (ePr q.pr)) ∧ Below w.heap.size w w' := by
  obtain ⟨AF, cF, L, AS, cS, S, AM, cM, M⟩ := q
  obtain ⟨h1, h2, h3, h4, h5, _, _, _⟩ := hq
  have HLEN := Lib.hid (ePr_len hgp)
  have H1 := Lib.hid h1
  have H2 := Lib.hid h2
  have H3 := Lib.hid h3
  have H4 := Lib.hid h4
  have H5 := Lib.hid h5
  clear h1 h2 h3 h4 h5
  unfold gPr at hgp
  simp only [PrMem.pr, Bool.and_eq_true, betw_iff, decide_eq_true_eq, List.all_eq_true, List.length_map] at hgp
  obtain ⟨⟨b1, b2, b3⟩, g4, g5, g6⟩ := hgp
  have G4 := Lib.hid (show ∀ x ∈ L, x.fn.code.length ≤ 600 from fun x hx => (gFns_mem _ _ g4 x.fn (List.mem_map.2 ⟨x, hx, rfl⟩)).2)
  have G6 := Lib.hid (show ∀ x ∈ M, x.fm.cons.length ≤ 20 from fun x hx => gFm_len (g6 x.fm (List.mem_map.2 ⟨x, hx, rfl⟩)))
  have HE := Lib.hid (show ePr (PrMem.pr ⟨AF, cF, L, AS, cS, S, AM, cM, M⟩) = (([byteOf (L.length : Int), byteOf (S.length : Int), byteOf (M.length : Int)] ++ (L.map (·.fn)).flatMap eFn) ++ S.flatMap eStr) ++ (M.map (·.fm)).flatMap eFm by
    simp only [ePr, PrMem.pr, numB1, List.length_map, List.append_assoc, List.cons_append, List.nil_append])
  clear g4 g5 g6
  have b2' : S.length ≤ 40 := of_decide_eq_true b2
  have b3' : M.length ≤ 40 := by omega
  have HL3 := Lib.hid (HE.out ▸ HLEN.out)
  have HL2 := Lib.hid (show (([byteOf (L.length : Int), byteOf (S.length : Int), byteOf (M.length : Int)] ++ (L.map (·.fn)).flatMap eFn) ++ S.flatMap eStr).length ≤ 1000000 by
    have h := HL3.out
    rw [List.length_append] at h
    omega)
  have HL1 := Lib.hid (show ([byteOf (L.length : Int), byteOf (S.length : Int), byteOf (M.length : Int)] ++ (L.map (·.fn)).flatMap eFn).length ≤ 1000000 by
    have h := HL2.out
    rw [List.length_append] at h
    omega)
  have W1 := wrap_u8 (L.length : Int)
  have W2 := wrap_u8 (S.length : Int)
  have W3 := wrap_u8 (M.length : Int)
  have P0 := Blk.new w 42 #[.slice AF L.length cF, .slice AS S.length cS, .slice AM M.length cM]
  have p0 := P0.cell 0
  have p1 := P0.cell 1
  have p2 := P0.cell 2
  have P1 := Lib.hid (P0.alloc (.cells #[byV (byteOf (L.length : Int)), byV (byteOf (S.length : Int)), byV (byteOf (M.length : Int))] 5))
  have E1 := Lib.hid (enc_start w #[.slice AF L.length cF, .slice AS S.length cS, .slice AM M.length cM] (byteOf (L.length : Int)) (byteOf (S.length : Int)) (byteOf (M.length : Int)))
  clear P0
  show Calls Tryd.prog 30 #[.agg #[.slice AF L.length cF, .slice AS S.length cS, .slice AM M.length cM]] w _
  go_enter Tryd.func30, Tryd.ntmps30
  go_upto_block 0 with fail
  clear p0 p1 p2
  refine e_funcs w _ w.heap.size L AF AS AM cF S.length cS M.length cM _ _ E1.out P1.out H1.out H2.out G4.out (by omega) HL1.out ?_
  intro v3 v4 v5 v6 v7 v8 v26 v27 v28 v29 v30 v31 v32 v33 v34 v35 v36 v37 v38 v39 v40 v41 v42 v43 v44 v45 v46 v47 v48 v49 v50 v51 v52 v53 v54 v55 v56 v57 v58 v59 v60 v61 v62 v63 v64 v65 v66 v67 v68 v69 v70 v71 v72 v73 v74 v75 v76 v77 v78 v79 v80 v81 v82 v83 v84 v85 v86 v87 v88 v89 v90 v91 v92 v93 v94 v95 v96 v97 v98 v99 v100 W2 hE2 hK2
  have E2 := Lib.hid hE2
  have P2 := Lib.hid (hK2 _ _ _ (by decide) P1.out)
  clear hE2 hK2
  go_upto_block 6 with fail
  refine e_texts w _ w.heap.size S AF AS AM L.length cF cS M.length cM _ _ E2.out P2.out H3.out (by omega) HL2.out (fun _ _ d _ _ h => by cases d <;> exact h) ?_
  intro vb3 v9 v101 v102 v103 v104 v105 v106 v107 v108 v109 v110 v111 v112 v113 v114 v115 v116 v117 v118 v119 v120 v121 v122 v123 W3 hE3 hK3
  have E3 := Lib.hid hE3
  have P3 := Lib.hid (hK3 _ _ _ (by decide) P2.out)
  clear hE3 hK3
  go_upto_block 8 with fail
  refine e_forms w _ w.heap.size M AF AS AM L.length cF S.length cS cM _ _ E3.out P3.out H4.out H5.out G6.out (by omega) HL3.out ?_
  intro vc3 v10 v11 v12 v124 v125 v126 v127 v128 v129 v130 v131 v132 v133 v134 v135 v136 v137 v138 v139 v140 v141 v142 v143 v144 v145 v146 v147 v148 v149 v150 v151 v152 v153 v154 v155 v156 v157 v158 v159 v160 v161 v162 v163 v164 v165 v166 v167 W4 hE4 hK4
  have E4 := Lib.hid hE4
  clear hE4 hK4
  go_wp2_with fail
  go_ret
  exact ⟨_, rfl, by rw [HE.out]; exact E4.out.own, E4.out.low⟩
end Go.Proofs.YtiphicejaljhiaaDoor
