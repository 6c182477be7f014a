/- Pieces of stockpotref08.States' round: what comes next is laid into the states. -/
import Derived.Test.YtiphicejaljhiaaDoorRef8U
import Derived.Test.YtiphicejaljhiaaDoorVer
namespace Go.Proofs.YtiphicejaljhiaaDoor
open Go.ChangeShapes Go.WideShapes Go.ChangeAt Go.RowKit
set_option linter.unusedSimpArgs false
set_option linter.unusedVariables false
section
variable {w W : World} {q : PrMem} {x : Fnv} {r : Nat} {tv : Value} {L : List Sta} {T : List Nat}
theorem RSt.drew (h : RSt w W q x r tv L T) : RSt w W.drew q x r tv L T := ⟨h.low.drew, h.P, h.R, h.F, h.S, h.tr⟩
theorem RSt.drewN (h : RSt w W q x r tv L T) (n : Nat) : RSt w (W.drewN n) q x r tv L T := ⟨below_drewN h.low n, h.P, h.R, h.F, h.S, h.tr⟩
theorem NSt.drewN {b : Nat} {tv wv : Value} {xs : List Nxt} (h : NSt w b tv wv xs) (n : Nat) : NSt (w.drewN n) b tv wv xs := h.next (below_drewN (Below.refl _ _) n)
end
set_option maxRecDepth 100000 in
set_option maxHeartbeats 8000000 in
theorem in38 {u0 u1 u2 u3 u5 u8 u10 u11 u12 u13 u14 u15 u19 u20 u21 u22 u23 u24 u25 u26 u27 u28 u29 u30 u31 u32 u33 u34 u35 u36 u37 u38 u39 u40 u41 u42 u43 u44 u45 u46 u47 u48 u49 u50 u51 u52 u53 u54 u55 u56 u57 u58 u59 u60 u61 u62 u63 u64 u65 u66 u67 u68 u69 u70 u71 u72 u73 u74 u75 u76 u77 u78 u79 u80 u81 u82 u83 u84 u85 u86 u87 u88 u89 u90 u91 u92 u93 u94 u95 u96 u97 u98 u99 u100 u101 u102 u103 u104 u105 u106 u107 u108 u109 u110 u111 u112 u113 u114 u115 u116 u117 u118 u119 u120 u121 u122 u123 u124 u125 u126 u127 u128 u129 u130 u131 u132 u133 u134 u135 u136 u137 u138 u139 u140 u141 u142 u143 u144 u145 u146 u147 u148 u149 u150 u151 u152 u153 u154 u155 u156 u157 u158 u159 u160 u161 u162 u163 u164 u165 u166 u167 u168 u169 u170 u171 u172 u173 u174 u175 u176 u177 u178 u179 u180 u181 u182 u183 u184 u185 u186 u187 u188 u189 u190 u191 u192 u193 u194 u195 u196 u197 u198 u199 u200 u201 u202 u203 u204 u205 u206 u207 u208 u209 u210 u211 u212 u213 u214 u215 u216 u217 u218 u219 u220 u221 u222 u223 u224 u225 u226 u227 u228 u229 u230 u231 u232 u233 u234 u235 u236 u237 u238 u239 u240 u241 u242 u243 u244 u245 u246 u247 u248 u249 u250 u251 u252 u253 u254 u255 u256 u257 : Value} {Q : Exit → Act → World → Prop} (w0 : World) (q : PrMem) (x : Fnv) (r b0 n : Nat) (tv : Value) (L : List Sta) (T : List Nat) (A1 A2 : Option Addr) (c1 c2 : Nat) (xs : List Nxt) (w : World)
    (hn : n ≤ 600) (hLn : L.length = n) (hT : T.length ≤ 600) (hxs : xs.length ≤ 2) (hpos : ∀ x ∈ xs, 0 ≤ x.1 ∧ 0 ≤ x.2.1 ∧ 0 ≤ x.2.2)
    (hr : r < b0) (D0 : RSt w0 w q x r tv L T) (N0 : NSt w b0 (Value.slice A1 xs.length c1) (Value.slice A2 xs.length c2) xs) (hap : (Value.slice A1 xs.length c1).ownBlock = none ∨ (Value.slice A1 xs.length c1).ownBlock ≠ tv.ownBlock)
    (hQ : ∀ c (a : Act) d v w', Q (.panic c) (a.put d v) w' → Q (.panic c) a w')
    (hret : ∀ (a : Act) (W : World) (v : Value) (L' : List Sta) (T' : List Nat), a.tmps.getD 4 undef = .pointer (some ⟨w0.heap.size + 1, 0, none⟩) → a.defers = [] → RSt w0 W q x r v L' T' → rPush L T xs = none → Q .ret a ((W.setCell ⟨w0.heap.size + 1, 0, none⟩ (.slice none 0 0)).setCell ⟨w0.heap.size + 1, 1, none⟩ (.bool false)))
    (hend : ∀ v9 v18 v186 v187 v188 v189 v190 v191 v192 v193 v194 v195 v196 v197 v198 v199 v200 v201 v202 v203 v204 v205 v206 v207 v208 v209 v210 v211 v212 v213 v214 v215 v216 v217 v218 v219 v220 v221 v222 v223 v224 v225 v226 v227 v228 v229 v230 v231 v232 v233 v234 v235 v236 v237 v238 v239 v240 v241 v242 v243 v244 v245 v246 v247 v248 v249 v250 v251 v252 v253 v254 v255 w' L' T', RSt w0 w' q x r v9 L' T' → rPush L T xs = some (L', T') → Q .normal ⟨#[u0, u1, u2, u3, .pointer (some ⟨w0.heap.size + 1, 0, none⟩), u5, .int .i64 (n : Int), .slice (some ⟨r, 0, none⟩) n n, u8, v9, u10, u11, u12, u13, u14, u15, (Value.slice A1 xs.length c1), (Value.slice A2 xs.length c2), v18, u19, u20, u21, u22, u23, u24, u25, u26, u27, u28, u29, u30, u31, u32, u33, u34, u35, u36, u37, u38, u39, u40, u41, u42, u43, u44, u45, u46, u47, u48, u49, u50, u51, u52, u53, u54, u55, u56, u57, u58, u59, u60, u61, u62, u63, u64, u65, u66, u67, u68, u69, u70, u71, u72, u73, u74, u75, u76, u77, u78, u79, u80, u81, u82, u83, u84, u85, u86, u87, u88, u89, u90, u91, u92, u93, u94, u95, u96, u97, u98, u99, u100, u101, u102, u103, u104, u105, u106, u107, u108, u109, u110, u111, u112, u113, u114, u115, u116, u117, u118, u119, u120, u121, u122, u123, u124, u125, u126, u127, u128, u129, u130, u131, u132, u133, u134, u135, u136, u137, u138, u139, u140, u141, u142, u143, u144, u145, u146, u147, u148, u149, u150, u151, u152, u153, u154, u155, u156, u157, u158, u159, u160, u161, u162, u163, u164, u165, u166, u167, u168, u169, u170, u171, u172, u173, u174, u175, u176, u177, u178, u179, u180, u181, u182, u183, u184, u185, v186, v187, v188, v189, v190, v191, v192, v193, v194, v195, v196, v197, v198, v199, v200, v201, v202, v203, v204, v205, v206, v207, v208, v209, v210, v211, v212, v213, v214, v215, v216, v217, v218, v219, v220, v221, v222, v223, v224, v225, v226, v227, v228, v229, v230, v231, v232, v233, v234, v235, v236, v237, v238, v239, v240, v241, v242, v243, v244, v245, v246, v247, v248, v249, v250, v251, v252, v253, v254, v255, u256, u257], []⟩ w') :
    Code.wp Tryd.prog (block38 5) Q ⟨#[u0, u1, u2, u3, .pointer (some ⟨w0.heap.size + 1, 0, none⟩), u5, .int .i64 (n : Int), .slice (some ⟨r, 0, none⟩) n n, u8, tv, u10, u11, u12, u13, u14, u15, (Value.slice A1 xs.length c1), (Value.slice A2 xs.length c2), .int .i64 0, u19, u20, u21, u22, u23, u24, u25, u26, u27, u28, u29, u30, u31, u32, u33, u34, u35, u36, u37, u38, u39, u40, u41, u42, u43, u44, u45, u46, u47, u48, u49, u50, u51, u52, u53, u54, u55, u56, u57, u58, u59, u60, u61, u62, u63, u64, u65, u66, u67, u68, u69, u70, u71, u72, u73, u74, u75, u76, u77, u78, u79, u80, u81, u82, u83, u84, u85, u86, u87, u88, u89, u90, u91, u92, u93, u94, u95, u96, u97, u98, u99, u100, u101, u102, u103, u104, u105, u106, u107, u108, u109, u110, u111, u112, u113, u114, u115, u116, u117, u118, u119, u120, u121, u122, u123, u124, u125, u126, u127, u128, u129, u130, u131, u132, u133, u134, u135, u136, u137, u138, u139, u140, u141, u142, u143, u144, u145, u146, u147, u148, u149, u150, u151, u152, u153, u154, u155, u156, u157, u158, u159, u160, u161, u162, u163, u164, u165, u166, u167, u168, u169, u170, u171, u172, u173, u174, u175, u176, u177, u178, u179, u180, u181, u182, u183, u184, u185, u186, u187, u188, u189, u190, u191, u192, u193, u194, u195, u196, u197, u198, u199, u200, u201, u202, u203, u204, u205, u206, u207, u208, u209, u210, u211, u212, u213, u214, u215, u216, u217, u218, u219, u220, u221, u222, u223, u224, u225, u226, u227, u228, u229, u230, u231, u232, u233, u234, u235, u236, u237, u238, u239, u240, u241, u242, u243, u244, u245, u246, u247, u248, u249, u250, u251, u252, u253, u254, u255, u256, u257], []⟩ w := by
  obtain ⟨i3, fi3, nz0, nz1, nz2⟩ := info_parts (show (Tryd.prog.info? 3).map (fun i => (i.zero, i.size, i.bytes)) = some (some (.int .i64 0), 1, 8) by kernel_rfl)
  have HEND := Lib.hid hend
  have HRET := Lib.hid hret
  have HQ := Lib.hid hQ
  have HN := Lib.hid N0
  have HD := Lib.hid D0
  have HAP := Lib.hid hap
  have HPOS := Lib.hid hpos
  have HLN := Lib.hid hLn
  clear hend hret hQ N0 D0 hap hpos hLn
  conv => arg 2; whnf
  go_wp2_with fail
  go_loopw [9, 18] (fun tv jv wr => ∃ (j : Nat) (L' : List Sta) (T' : List Nat), j ≤ xs.length ∧ jv = .int .i64 j ∧ Hid (RSt w0 wr q x r tv L' T') ∧ Hid (NSt wr b0 (Value.slice A1 xs.length c1) (Value.slice A2 xs.length c2) xs) ∧ Hid ((Value.slice A1 xs.length c1).ownBlock = none ∨ (Value.slice A1 xs.length c1).ownBlock ≠ tv.ownBlock) ∧ Hid (rPush L T xs = rPush L' T' (xs.drop j)) ∧ Hid (L'.length = n) ∧ T'.length ≤ 600 + j) (fun _ j _ => xs.length - (intOf j).toNat)
  case atStart => exact ⟨0, L, T, by omega, rfl, HD, HN, HAP, Lib.hid (by rw [List.drop_zero]), HLN, by omega⟩
  clear HD HN HAP HLN
  case round =>
    obtain ⟨j, L', T', hj, rfl, HD, HN, HA, HP, HL, hT'⟩ := hrel
    by_cases hlt : j < xs.length
    · have hl : (j : Int) < (xs.length : Int) := by omega
      have hj0 : (0 : Int) ≤ (j : Int) := by omega
      obtain ⟨g1, g2, e1, e2, k1, k2, k3, hc1, hc2⟩ := HN.out.cells (List.getElem?_eq_getElem hlt)
      subst e1 e2
      have hp := HPOS.out _ (List.getElem_mem hlt)
      have hpd := rPush_drop HP.out (List.getElem?_eq_getElem hlt)
      generalize hy : xs[j] = y at k1 k2 k3 hp hpd
      have HY := Lib.hid hy
      clear hy
      obtain ⟨y1, yh, yt⟩ := y
      simp only at k1 k2 k3 hp hpd
      obtain ⟨p1, p2, p3⟩ := hp
      obtain ⟨m, rfl⟩ := Int.eq_ofNat_of_zero_le p1
      rw [HL.out, Int.toNat_natCast] at hpd
      by_cases hbad : (n : Int) ≤ (m : Int) ∨ 100 < yh ∨ 10 < yt
      · have HNO := Lib.hid (show rPush L T xs = none by rw [hpd, if_pos hbad])
        clear hpd
        have r0 := HD.out.R.cell 0
        have r1 := HD.out.R.cell 1
        have y0 := HD.out.R.frozen 0
        have y1 := HD.out.R.frozen 1
        by_cases d1 : n ≤ m
        · have f1 : decide (n ≤ m) = true := decide_eq_true d1
          have f1' : decide ((n : Int) ≤ (m : Int)) = true := decide_eq_true (by omega)
          clear hbad
          as_aux_lemma =>
            go_wp2_with fail
            exact HRET.out _ _ _ _ _ rfl rfl HD.out HNO.out
        · have f1 : decide (n ≤ m) = false := decide_eq_false d1
          have f1' : decide ((n : Int) ≤ (m : Int)) = false := decide_eq_false (by omega)
          by_cases d2 : 100 < yh
          · have f2 : decide (100 < yh) = true := decide_eq_true d2
            clear hbad
            as_aux_lemma =>
              go_wp2_with fail
              exact HRET.out _ _ _ _ _ rfl rfl HD.out HNO.out
          · have f2 : decide (100 < yh) = false := decide_eq_false d2
            have d3 : 10 < yt := by omega
            have f3 : decide (10 < yt) = true := decide_eq_true d3
            clear hbad
            as_aux_lemma =>
              go_wp2_with fail
              exact HRET.out _ _ _ _ _ rfl rfl HD.out HNO.out
      · have d1 : ¬ n ≤ m := by omega
        have f1 : decide (n ≤ m) = false := decide_eq_false d1
        have f1' : decide ((n : Int) ≤ (m : Int)) = false := decide_eq_false (by omega)
        have d2 : ¬ 100 < yh := by omega
        have f2 : decide (100 < yh) = false := decide_eq_false d2
        have d3 : ¬ 10 < yt := by omega
        have f3 : decide (10 < yt) = false := decide_eq_false d3
        rw [if_neg hbad] at hpd
        clear hbad
        have hml : m < L'.length := by rw [HL.out]; omega
        have hmn : (m : Int) < (n : Int) := by omega
        have hm0 : (0 : Int) ≤ (m : Int) := by omega
        obtain ⟨q0, q1, z0, z1⟩ := HD.out.cells (getD_at hml)
        generalize hs : L'.getD m unk = s at q0 q1 hpd
        have HS := Lib.hid hs
        clear hs
        obtain ⟨sh, st⟩ := s
        simp only at q0 q1 hpd
        by_cases hneg : sh < 0
        · have fneg : decide (sh < 0) = true := decide_eq_true hneg
          rw [if_pos hneg] at hpd
          have HPD := Lib.hid hpd
          clear hpd
          have D2 := Lib.hid (HD.out.set (k := m) hml (yh, yt)).drew
          have N2 := Lib.hid ((HN.out.setN hr (m * 2) (.int .i64 yh)).setN hr (m * 2 + 1) (.int .i64 yt)).drew
          go_wp2_with fail
          refine wp_region_last (S := fun V => V.cell? ⟨g1, j, none⟩ = some (.int .i64 (m : Int)) ∧ V.cell? ⟨g2, j * 2, none⟩ = some (.int .i64 yh) ∧ V.cell? ⟨g2, j * 2 + 1, none⟩ = some (.int .i64 yt)) 10 (by kernel_rfl) (by kernel_rfl) (by kernel_rfl) (by kernel_rfl) ⟨k1, k2, k3⟩ (fun hHeld => ?_)
          refine wpAnyH_take (i := 0) (oi := ⟨some 225, _, _, _, _, _⟩) (v := ?_) rfl (by kernel_rfl) (by kernel_rfl) (by kernel_rfl) (fun _ _ _ h => HQ.out _ _ _ _ _ h) (Or.inl ⟨by kernel_rfl, ?_⟩) (by assumption) ?_
          rotate_left
          · intro w hSw
            go_simp
            try with_reducible rfl
          try simp only [Act.put, List.setIfInBounds_toArray, List.set_cons_zero, List.set_cons_succ]
          refine wpAnyH_take (i := 1) (oi := ⟨some 226, _, _, _, _, _⟩) (v := ?_) rfl (by kernel_rfl) (by kernel_rfl) (by kernel_rfl) (fun _ _ _ h => HQ.out _ _ _ _ _ h) (Or.inl ⟨by kernel_rfl, ?_⟩) (by assumption) ?_
          rotate_left
          · intro w hSw
            go_simp
            try with_reducible rfl
          try simp only [Act.put, List.setIfInBounds_toArray, List.set_cons_zero, List.set_cons_succ]
          refine wpAnyH_take (i := 2) (oi := ⟨some 227, _, _, _, _, _⟩) (v := ?_) rfl (by kernel_rfl) (by kernel_rfl) (by kernel_rfl) (fun _ _ _ h => HQ.out _ _ _ _ _ h) (Or.inl ⟨by kernel_rfl, ?_⟩) (by assumption) ?_
          rotate_left
          · intro w hSw
            go_simp
            try with_reducible rfl
          try simp only [Act.put, List.setIfInBounds_toArray, List.set_cons_zero, List.set_cons_succ]
          refine wpAnyH_take (i := 3) (oi := ⟨some 228, _, _, _, _, _⟩) (v := ?_) rfl (by kernel_rfl) (by kernel_rfl) (by kernel_rfl) (fun _ _ _ h => HQ.out _ _ _ _ _ h) (Or.inl ⟨by kernel_rfl, ?_⟩) (by assumption) ?_
          rotate_left
          · intro w hSw
            go_simp
            try with_reducible rfl
          try simp only [Act.put, List.setIfInBounds_toArray, List.set_cons_zero, List.set_cons_succ]
          refine wpAnyH_take (i := 4) (oi := ⟨some 229, _, _, _, _, _⟩) (v := ?_) rfl (by kernel_rfl) (by kernel_rfl) (by kernel_rfl) (fun _ _ _ h => HQ.out _ _ _ _ _ h) (Or.inl ⟨by kernel_rfl, ?_⟩) (by assumption) ?_
          rotate_left
          · intro w hSw
            go_simp
            try with_reducible rfl
          try simp only [Act.put, List.setIfInBounds_toArray, List.set_cons_zero, List.set_cons_succ]
          refine wpAnyH_take (i := 5) (oi := ⟨some 230, _, _, _, _, _⟩) (v := ?_) rfl (by kernel_rfl) (by kernel_rfl) (by kernel_rfl) (fun _ _ _ h => HQ.out _ _ _ _ _ h) (Or.inl ⟨by kernel_rfl, ?_⟩) (by assumption) ?_
          rotate_left
          · intro w hSw
            go_simp
            try with_reducible rfl
          try simp only [Act.put, List.setIfInBounds_toArray, List.set_cons_zero, List.set_cons_succ]
          refine wpAnyH_take (i := 6) (oi := ⟨some 231, _, _, _, _, _⟩) (v := ?_) rfl (by kernel_rfl) (by kernel_rfl) (by kernel_rfl) (fun _ _ _ h => HQ.out _ _ _ _ _ h) (Or.inl ⟨by kernel_rfl, ?_⟩) (by assumption) ?_
          rotate_left
          · intro w hSw
            go_simp
            try with_reducible rfl
          try simp only [Act.put, List.setIfInBounds_toArray, List.set_cons_zero, List.set_cons_succ]
          refine wpAnyH_take (i := 7) (oi := ⟨some 232, _, _, _, _, _⟩) (v := ?_) rfl (by kernel_rfl) (by kernel_rfl) (by kernel_rfl) (fun _ _ _ h => HQ.out _ _ _ _ _ h) (Or.inl ⟨by kernel_rfl, ?_⟩) (by assumption) ?_
          rotate_left
          · intro w hSw
            go_simp
            try with_reducible rfl
          try simp only [Act.put, List.setIfInBounds_toArray, List.set_cons_zero, List.set_cons_succ]
          refine wpAnyH_take (i := 8) (oi := ⟨some 233, _, _, _, _, _⟩) (v := ?_) rfl (by kernel_rfl) (by kernel_rfl) (by kernel_rfl) (fun _ _ _ h => HQ.out _ _ _ _ _ h) (Or.inl ⟨by kernel_rfl, ?_⟩) (by assumption) ?_
          rotate_left
          · intro w hSw
            go_simp
            try with_reducible rfl
          try simp only [Act.put, List.setIfInBounds_toArray, List.set_cons_zero, List.set_cons_succ]
          refine wpAnyH_take (i := 9) (oi := ⟨some 234, _, _, _, _, _⟩) (v := ?_) rfl (by kernel_rfl) (by kernel_rfl) (by kernel_rfl) (fun _ _ _ h => HQ.out _ _ _ _ _ h) (Or.inl ⟨by kernel_rfl, ?_⟩) (by assumption) ?_
          rotate_left
          · intro w hSw
            go_simp
            try with_reducible rfl
          try simp only [Act.put, List.setIfInBounds_toArray, List.set_cons_zero, List.set_cons_succ]
          refine wpAnyH_done (by kernel_rfl) ?_ _
          refine lastPost_run (o := ⟨none, _, _, _, _, _⟩) rfl (fun K hK => ?_)
          go_simp
          refine hK.out _ _ ?_
          clear hK K

          clear k1 k2 k3 q0 q1 z0 z1 HD HN hHeld
          generalize ((wr.setCell ⟨r, m * 2, none⟩ (.int .i64 yh)).setCell ⟨r, m * 2 + 1, none⟩ (.int .i64 yt)).drew = W2 at D2 N2 ⊢
          obtain ⟨g1', g2', e1, e2, k1, _, _, _, _⟩ := N2.out.cells (show xs[j]? = some ((m : Int), (yh, yt)) by rw [List.getElem?_eq_getElem hlt, HY.out])
          obtain rfl : g1 = g1' := by injection e1 with e1; injection e1
          clear e1 e2
          have DA := Lib.hid (D2.out.next (below_new W2 (.cells #[.int .i64 (m : Int)] 3)))
          have NA := Lib.hid (N2.out.next (below_new W2 (.cells #[.int .i64 (m : Int)] 3)))
          have MA := Lib.hid (Blk.new W2 3 #[.int .i64 (m : Int)])
          have hml2 : m < T'.length + 1000 := by have := HL.out; omega
          go_wp2_with (at_builtin; refine wpList_append_any _ rfl (.tmp 235) (.tmp 240) 61 rfl (w0.heap.size + 3) 3 i3 _ 1 8 Tryd.underlying61 fi3 nz0 nz1 nz2 rfl (by omega) u9 T'.length (T'.reverse.map fun k => Value.int .i64 (k : Nat)) rfl DA.out.tr (W2.heap.size + 1) (some ⟨W2.heap.size, 0, none⟩) 1 1 [.int .i64 (m : Int)] rfl (reads_blkN (vs := [.int .i64 (m : Int)]) MA.out rfl) (by simp [Value.oneCell']) (by unfold maxLen; omega) (by omega) (Nat.le_trans DA.out.rb.1 (Nat.le_of_lt DA.out.rb.2)) ?_; intro v3 W3 o3 g3 e3; have D3 := Lib.hid (DA.out.push g3 o3); have N3 := Lib.hid (NA.out.grown DA.out.tr g3 HA.out); have A3 := Lib.hid (apart_grown NA.out HA.out e3); clear o3 g3 e3)
          go_roundw
          case rel => exact ⟨j + 1, L'.set m (yh, yt), m :: T', by omega, by go_num, D3, N3, A3, HPD, Lib.hid (by rw [List.length_set]; exact HL.out), by simp only [List.length_cons]; omega⟩
          case measure => simp [intOf]; omega
        · have fneg : decide (sh < 0) = false := decide_eq_false hneg
          rw [if_neg hneg] at hpd
          by_cases he : (sh, st) = (yh, yt)
          · rw [if_neg (fun h => h he)] at hpd
            have HPD := Lib.hid hpd
            clear hpd
            obtain ⟨rfl, rfl⟩ := Prod.mk.inj he
            clear he
            have en := fun w => run_ne2 w 79 Tryd.underlying79 sh st sh st
            simp only [beq_self_eq_true, Bool.and_self, Bool.not_true] at en
            go_wp2_with fail
            go_quiet (fail)
            go_wp2_with fail
            go_roundw
            case rel => exact ⟨j + 1, L', T', by omega, by go_num, Lib.hid (HD.out.drewN _), Lib.hid (HN.out.drewN _), HA, HPD, HL, by omega⟩
            case measure => simp [intOf]; omega
          · have fe : (sh == yh && st == yt) = false := by
              rw [Bool.eq_false_iff]
              intro hh
              simp at hh
              exact he (by rw [hh.1, hh.2])
            have HNO := Lib.hid (show rPush L T xs = none by rw [hpd, if_pos he])
            clear hpd he
            have en := fun w => run_ne2 w 79 Tryd.underlying79 sh st yh yt
            simp only [fe, Bool.not_false] at en
            have r0 := HD.out.R.cell 0
            have r1 := HD.out.R.cell 1
            have y0 := HD.out.R.frozen 0
            have y1 := HD.out.R.frozen 1
            go_wp2_with fail
            go_quiet (fail)
            go_wp2_with fail
            exact HRET.out _ _ _ _ _ rfl rfl (HD.out.drewN _) HNO.out
    · have hl : ¬ (j : Int) < (xs.length : Int) := by omega
      obtain rfl : j = xs.length := by omega
      have HSO := Lib.hid (show rPush L T xs = some (L', T') by rw [HP.out, List.drop_length]; rfl)
      go_wp2_with fail
      exact HEND.out _ _ _ _ _ _ _ _ _ _ _ _ _ _ _ _ _ _ _ _ _ _ _ _ _ _ _ _ _ _ _ _ _ _ _ _ _ _ _ _ _ _ _ _ _ _ _ _ _ _ _ _ _ _ _ _ _ _ _ _ _ _ _ _ _ _ _ _ _ _ _ _ _ _ _ HD.out HSO.out
end Go.Proofs.YtiphicejaljhiaaDoor
