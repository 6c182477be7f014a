/- Pieces of the document's tokens: the ways of one round. -/
import Derived.Test.YtphojigdapaaiaaDoorARb
namespace Go.Proofs.YtphojigdapaaiaaDoor
open Go.ChangeShapes Go.WideShapes Go.ChangeAt Go.RowKit
set_option linter.unusedVariables false
set_option linter.unusedSimpArgs false
set_option maxRecDepth 100000 in
set_option maxHeartbeats 16000000 in
theorem tokDi {u1 u10 u11 u12 u13 u14 u15 u16 u17 u18 u19 u20 u21 u22 u23 u24 u25 u194 u195 u196 u197 u198 u199 u200 u201 u8 u9 u26 u27 u28 u29 u30 u31 u32 u33 u34 u35 u36 u37 u38 u39 u40 u41 u42 u43 u44 u45 u46 u47 u48 u49 u50 u51 u52 u53 u54 u55 u56 u57 u58 u59 u60 u61 u62 u63 u64 u65 u66 u67 u68 u69 u70 u71 u72 u73 u74 u75 u76 u77 u78 u79 u80 u81 u82 u83 u84 u85 u86 u87 u88 u89 u90 u91 u92 u93 u94 u95 u96 u97 u98 u99 u100 u101 u102 u103 u104 u105 u106 u107 u108 u109 u110 u111 u112 u113 u114 u115 u116 u117 u118 u119 u120 u121 u122 u123 u124 u125 u126 u127 u128 u129 u130 u131 u132 u133 u134 u135 u136 u137 u138 u139 u140 u141 u142 u143 u144 u145 u146 u147 u148 u149 u150 u151 u152 u153 u154 u155 u156 u157 u158 u159 u160 u161 u162 u163 u164 u165 u166 u167 u168 u169 u170 u171 u172 u173 u174 u175 u176 u177 u178 u179 u180 u181 u182 u183 u184 u185 u186 u187 u188 u189 u190 u191 u192 u193 : Value} {Q : Exit → Act → World → Prop} (s : ByteArray) (hs : s.size ≤ 3000) (w0 w : World) (gb rb tb k : Nat) (x : Int) (A : Option Addr) (c : Nat) (T : List Tok) (hlt : k < s.size) (hx : ((s[k]'hlt).toNat : Int) = x) (hst : TokSt w0 w gb rb A c T) (hfr : (Value.slice A T.length c).ownBlock ≠ some tb) (htb : Blk w tb 109 #[.int .i64 0, .string ⟨#[]⟩, .int .i64 (k : Int)]) (htl : w0.heap.size ≤ tb)
    (hQ : ∀ c (a : Act) d v w', Q (.panic c) (a.put d v) w' → Q (.panic c) a w')
    (hnorm : ∀ (j : Nat) (J κ : Int) (σ : ByteArray) (w' : World) (v8 v9 v26 v27 v28 v29 v30 v31 v32 v33 v34 v35 v36 v37 v38 v39 v40 v41 v42 v43 v44 v45 v46 v47 v48 v49 v50 v51 v52 v53 v54 v55 v56 v57 v58 v59 v60 v61 v62 v63 v64 v65 v66 v67 v68 v69 v70 v71 v72 v73 v74 v75 v76 v77 v78 v79 v80 v81 v82 v83 v84 v85 v86 v87 v88 v89 v90 v91 v92 v93 v94 v95 v96 v97 v98 v99 v100 v101 v102 v103 v104 v105 v106 v107 v108 v109 v110 v111 v112 v113 v114 v115 v116 v117 v118 v119 v120 v121 v122 v123 v124 v125 v126 v127 v128 v129 v130 v131 v132 v133 v134 v135 v136 v137 v138 v139 v140 v141 v142 v143 v144 v145 v146 v147 v148 v149 v150 v151 v152 v153 v154 v155 v156 v157 v158 v159 v160 v161 v162 v163 v164 v165 v166 v167 v168 v169 v170 v171 v172 v173 v174 v175 v176 v177 v178 v179 v180 v181 v182 v183 v184 v185 v186 v187 v188 v189 v190 v191 v192 v193 : Value), J = (j : Int) → k < j → j ≤ s.size → TokSt w0 w' gb rb A c T → Blk w' tb 109 #[.int .i64 κ, .string σ, .int .i64 (k : Int)] → Q .normal ⟨#[.string s, u1, ptr rb, ptr gb, .int .i64 (k : Int), .int .u8 x, .int .i64 J, ptr tb, v8, v9, u10, u11, u12, u13, u14, u15, u16, u17, u18, u19, u20, u21, u22, u23, u24, u25, v26, v27, v28, v29, v30, v31, v32, v33, v34, v35, v36, v37, v38, v39, v40, v41, v42, v43, v44, v45, v46, v47, v48, v49, v50, v51, v52, v53, v54, v55, v56, v57, v58, v59, v60, v61, v62, v63, v64, v65, v66, v67, v68, v69, v70, v71, v72, v73, v74, v75, v76, v77, v78, v79, v80, v81, v82, v83, v84, v85, v86, v87, v88, v89, v90, v91, v92, v93, v94, v95, v96, v97, v98, v99, v100, v101, v102, v103, v104, v105, v106, v107, v108, v109, v110, v111, v112, v113, v114, v115, v116, v117, v118, v119, v120, v121, v122, v123, v124, v125, v126, v127, v128, v129, v130, v131, v132, v133, v134, v135, v136, v137, v138, v139, v140, v141, v142, v143, v144, v145, v146, v147, v148, v149, v150, v151, v152, v153, v154, v155, v156, v157, v158, v159, v160, v161, v162, v163, v164, v165, v166, v167, v168, v169, v170, v171, v172, v173, v174, v175, v176, v177, v178, v179, v180, v181, v182, v183, v184, v185, v186, v187, v188, v189, v190, v191, v192, v193, u194, u195, u196, u197, u198, u199, u200, u201], []⟩ w')
    (hcont : ∀ (j : Nat) (J : Int) (w' : World) (v6 v8 v9 v26 v27 v28 v29 v30 v31 v32 v33 v34 v35 v36 v37 v38 v39 v40 v41 v42 v43 v44 v45 v46 v47 v48 v49 v50 v51 v52 v53 v54 v55 v56 v57 v58 v59 v60 v61 v62 v63 v64 v65 v66 v67 v68 v69 v70 v71 v72 v73 v74 v75 v76 v77 v78 v79 v80 v81 v82 v83 v84 v85 v86 v87 v88 v89 v90 v91 v92 v93 v94 v95 v96 v97 v98 v99 v100 v101 v102 v103 v104 v105 v106 v107 v108 v109 v110 v111 v112 v113 v114 v115 v116 v117 v118 v119 v120 v121 v122 v123 v124 v125 v126 v127 v128 v129 v130 v131 v132 v133 v134 v135 v136 v137 v138 v139 v140 v141 v142 v143 v144 v145 v146 v147 v148 v149 v150 v151 v152 v153 v154 v155 v156 v157 v158 v159 v160 v161 v162 v163 v164 v165 v166 v167 v168 v169 v170 v171 v172 v173 v174 v175 v176 v177 v178 v179 v180 v181 v182 v183 v184 v185 v186 v187 v188 v189 v190 v191 v192 v193 : Value), J = (j : Int) → k < j → j ≤ s.size → TokSt w0 w' gb rb A c T → Q (.exit 1) ⟨#[.string s, u1, ptr rb, ptr gb, .int .i64 J, .int .u8 x, v6, ptr tb, v8, v9, u10, u11, u12, u13, u14, u15, u16, u17, u18, u19, u20, u21, u22, u23, u24, u25, v26, v27, v28, v29, v30, v31, v32, v33, v34, v35, v36, v37, v38, v39, v40, v41, v42, v43, v44, v45, v46, v47, v48, v49, v50, v51, v52, v53, v54, v55, v56, v57, v58, v59, v60, v61, v62, v63, v64, v65, v66, v67, v68, v69, v70, v71, v72, v73, v74, v75, v76, v77, v78, v79, v80, v81, v82, v83, v84, v85, v86, v87, v88, v89, v90, v91, v92, v93, v94, v95, v96, v97, v98, v99, v100, v101, v102, v103, v104, v105, v106, v107, v108, v109, v110, v111, v112, v113, v114, v115, v116, v117, v118, v119, v120, v121, v122, v123, v124, v125, v126, v127, v128, v129, v130, v131, v132, v133, v134, v135, v136, v137, v138, v139, v140, v141, v142, v143, v144, v145, v146, v147, v148, v149, v150, v151, v152, v153, v154, v155, v156, v157, v158, v159, v160, v161, v162, v163, v164, v165, v166, v167, v168, v169, v170, v171, v172, v173, v174, v175, v176, v177, v178, v179, v180, v181, v182, v183, v184, v185, v186, v187, v188, v189, v190, v191, v192, v193, u194, u195, u196, u197, u198, u199, u200, u201], []⟩ w')
    (hret : ∀ (a : Act) (X Y : Int) (w' : World), TokSt w0 w' gb rb A c T → a.defers = [] → a.tmps.getD 2 undef = ptr rb → Q .ret a (((w'.setCell ⟨rb, 0, none⟩ (.slice none 0 0)).setCell ⟨rb, 1, none⟩ (.int .i64 X)).setCell ⟨rb, 2, none⟩ (.int .i64 Y))) (hc : 48 ≤ x ∧ x ≤ 57) :
    Code.wp Tryd.prog (block43 2) Q ⟨#[.string s, u1, ptr rb, ptr gb, .int .i64 (k : Int), .int .u8 x, .int .i64 ((k : Int) + 1), ptr tb, u8, u9, u10, u11, u12, u13, u14, u15, u16, u17, u18, u19, u20, u21, u22, u23, u24, u25, u26, u27, u28, u29, u30, u31, u32, u33, u34, u35, u36, u37, u38, u39, u40, u41, u42, u43, u44, u45, u46, u47, u48, u49, u50, u51, u52, u53, u54, u55, u56, u57, u58, u59, u60, u61, u62, u63, u64, u65, u66, u67, u68, u69, u70, u71, u72, u73, u74, u75, u76, u77, u78, u79, u80, u81, u82, u83, u84, u85, u86, u87, u88, u89, u90, u91, u92, u93, u94, u95, u96, u97, u98, u99, u100, u101, u102, u103, u104, u105, u106, u107, u108, u109, u110, u111, u112, u113, u114, u115, u116, u117, u118, u119, u120, u121, u122, u123, u124, u125, u126, u127, u128, u129, u130, u131, u132, u133, u134, u135, u136, u137, u138, u139, u140, u141, u142, u143, u144, u145, u146, u147, u148, u149, u150, u151, u152, u153, u154, u155, u156, u157, u158, u159, u160, u161, u162, u163, u164, u165, u166, u167, u168, u169, u170, u171, u172, u173, u174, u175, u176, u177, u178, u179, u180, u181, u182, u183, u184, u185, u186, u187, u188, u189, u190, u191, u192, u193, u194, u195, u196, u197, u198, u199, u200, u201], []⟩ w := by
  have HN := Lib.hid hnorm
  have HQ := Lib.hid hQ
  clear hQ
  have HC := Lib.hid hcont
  have HT := Lib.hid hret
  have HST := Lib.hid hst
  have HFR := Lib.hid hfr
  have HTB := Lib.hid htb
  have HTL := Lib.hid htl
  have HX := Lib.hid hx
  clear hnorm hcont hret hst hfr htb htl hx
  have hlk : (k : Int) < (s.size : Int) := by omega
  have hk0 : (0 : Int) ≤ (k : Int) := by omega
  conv => arg 2; whnf
  have e32 : (x == 32) = false := beq_false_of_ne (by omega)
  have e9 : (x == 9) = false := beq_false_of_ne (by omega)
  have e10 : (x == 10) = false := beq_false_of_ne (by omega)
  have e35 : (x == 35) = false := beq_false_of_ne (by omega)
  have e95 : (x == 95) = false := beq_false_of_ne (by omega)
  have e34 : (x == 34) = false := beq_false_of_ne (by omega)
  have hsb : sB x = false := by unfold sB; rw [e95, decide_eq_false (show ¬ 97 ≤ x by omega)]; rfl
  have hgb : gB x = false := by unfold gB; rw [decide_eq_false (show ¬ 65 ≤ x by omega)]; rfl
  have hdb : dB x = true := by simp [dB, hc.1, hc.2]
  go_wp2_with fail
  refine (c56 x w).mono ?_
  rintro e _ ⟨he, rfl⟩
  rw [hsb] at he
  subst he
  clear hsb
  go_wp2_with fail
  refine (c57 x w).mono ?_
  rintro e _ ⟨he, rfl⟩
  rw [hgb] at he
  subst he
  clear hgb
  go_wp2_with fail
  refine (c60 x w).mono ?_
  rintro e _ ⟨he, rfl⟩
  rw [hdb] at he
  subst he
  clear hdb
  go_wp2_with fail
  go_loopw [6] (fun i wr => ∃ j : Nat, k < j ∧ j ≤ s.size ∧ i = .int .i64 j ∧ wr = w) (fun i _ => s.size - (intOf i).toNat)
  case atStart => exact ⟨k + 1, by omega, by omega, by go_num, rfl⟩
  case round =>
    obtain ⟨j, hj1, hj2, rfl, rfl⟩ := hrel
    have t1 : wr.cell? ⟨tb, 1, none⟩ = some (.string ⟨#[]⟩) := HTB.out.cell 1
    have ft1 := HTB.out.frozen 1
    have s1 : (k : Int) ≤ (j : Int) := by omega
    have s2 : (j : Int) ≤ (s.size : Int) := by omega
    have hj0 : (0 : Int) ≤ (j : Int) := by omega
    by_cases hjs : j < s.size
    · have hjk : (j : Int) < (s.size : Int) := by omega
      go_wp2_with fail
      refine (c60 _ wr).mono ?_
      rintro e _ ⟨rfl, rfl⟩
      cases hv : dB (((s[j]'hjs).toNat : Int)) with
      | true =>
        clear t1 ft1
        go_wp2_with fail
        all_goals exact ⟨⟨j + 1, by omega, by omega, by go_num, by first | rfl | trivial⟩, by simp [intOf]; omega⟩
      | false =>
        have s3 : (k : Int) ≤ (j : Int) := by omega
        clear t1 ft1
        go_upto_region 33 with fail
        have HSd := Lib.hid (show TokSt w0 wr.drew gb rb A c T from ⟨HST.out.g, HST.out.r, HST.out.own, Below.drew HST.out.low, HST.out.gle, HST.out.rle, HST.out.ne⟩)
        have HTBd := Lib.hid (show Blk wr.drew tb 109 #[.int .i64 0, .string ⟨#[]⟩, .int .i64 (k : Int)] from HTB.out)
        refine wp_region_held_drew (S := fun V => True) (by kernel_rfl) trivial (fun hHeld => ?_)
        generalize wr.drew = d at HSd HTBd ⊢
        refine wpAnyH_take (i := 0) (oi := ⟨some 143, _, _, _, _, _⟩) (v := ?_) rfl (by kernel_rfl) (by kernel_rfl) (by kernel_rfl) (fun _ _ _ h => HQ.out _ _ _ _ _ h) (Or.inl ⟨by kernel_rfl, ?_⟩) (by assumption) ?_
        rotate_left
        · intro V hSw
          go_simp
          try with_reducible rfl
        try simp only [Act.put, List.setIfInBounds_toArray, List.set_cons_zero, List.set_cons_succ]
        refine wpAnyH_take (i := 1) (oi := ⟨some 144, _, _, _, _, _⟩) (v := ?_) rfl (by kernel_rfl) (by kernel_rfl) (by kernel_rfl) (fun _ _ _ h => HQ.out _ _ _ _ _ h) (Or.inl ⟨by kernel_rfl, ?_⟩) (by assumption) ?_
        rotate_left
        · intro V hSw
          go_simp
          try with_reducible rfl
        try simp only [Act.put, List.setIfInBounds_toArray, List.set_cons_zero, List.set_cons_succ]
        refine wpAnyH_take (i := 2) (oi := ⟨some 145, _, _, _, _, _⟩) (v := ?_) rfl (by kernel_rfl) (by kernel_rfl) (by kernel_rfl) (fun _ _ _ h => HQ.out _ _ _ _ _ h) (Or.inl ⟨by kernel_rfl, ?_⟩) (by assumption) ?_
        rotate_left
        · intro V hSw
          go_simp
          try with_reducible rfl
        try simp only [Act.put, List.setIfInBounds_toArray, List.set_cons_zero, List.set_cons_succ]
        refine wpAnyH_take (i := 3) (oi := ⟨some 146, _, _, _, _, _⟩) (v := ?_) rfl (by kernel_rfl) (by kernel_rfl) (by kernel_rfl) (fun _ _ _ h => HQ.out _ _ _ _ _ h) (Or.inl ⟨by kernel_rfl, ?_⟩) (by assumption) ?_
        rotate_left
        · intro V hSw
          go_simp
          try with_reducible rfl
        try simp only [Act.put, List.setIfInBounds_toArray, List.set_cons_zero, List.set_cons_succ]
        refine wpAnyH_take (i := 4) (oi := ⟨some 147, _, _, _, _, _⟩) (v := ?_) rfl (by kernel_rfl) (by kernel_rfl) (by kernel_rfl) (fun _ _ _ h => HQ.out _ _ _ _ _ h) (Or.inl ⟨by kernel_rfl, ?_⟩) (by assumption) ?_
        rotate_left
        · intro V hSw
          go_simp
          try with_reducible rfl
        try simp only [Act.put, List.setIfInBounds_toArray, List.set_cons_zero, List.set_cons_succ]
        have d0 : d.cell? ⟨tb, 0, none⟩ = some (.int .i64 0) := HTBd.out.cell 0
        have g0 := HTBd.out.frozen 0
        have HS3 := Lib.hid (HSd.out.tok HTBd.out HFR.out HTL.out 0 (.int .i64 3))
        have hb3 := HTBd.out.set_ 0 (.int .i64 3)
        simp only [List.setIfInBounds_toArray, List.set_cons_zero, List.set_cons_succ] at hb3
        have HTB3 := Lib.hid hb3
        clear hb3
        refine wpAnyH_ready (rs := [5]) (by kernel_rfl) (by simp) ?_
        refine AllReadyH.cons (o := ⟨none, _, _, _, _, _⟩) rfl (fun K hK => ?_) AllReadyH.nil
        go_simp
        refine hK.out _ _ trivial (fun hHeld => ?_)
        clear hK K d0 g0
        try simp only [Act.put, List.setIfInBounds_toArray, List.set_cons_zero, List.set_cons_succ]
        generalize d.setCell ⟨tb, 0, none⟩ (.int .i64 3) = d3 at HS3 HTB3 ⊢
        refine wpAnyH_take (i := 6) (oi := ⟨some 148, _, _, _, _, _⟩) (v := ?_) rfl (by kernel_rfl) (by kernel_rfl) (by kernel_rfl) (fun _ _ _ h => HQ.out _ _ _ _ _ h) (Or.inl ⟨by kernel_rfl, ?_⟩) (by assumption) ?_
        rotate_left
        · intro V hSw
          go_simp
          try with_reducible rfl
        try simp only [Act.put, List.setIfInBounds_toArray, List.set_cons_zero, List.set_cons_succ]
        have d1 : d3.cell? ⟨tb, 1, none⟩ = some (.string ⟨#[]⟩) := HTB3.out.cell 1
        have g1 := HTB3.out.frozen 1
        have HS4 := Lib.hid (HS3.out.tok HTB3.out HFR.out HTL.out 1 (.string (s.extract k j)))
        have hb4 := HTB3.out.set_ 1 (.string (s.extract k j))
        simp only [List.setIfInBounds_toArray, List.set_cons_zero, List.set_cons_succ] at hb4
        have HTB4 := Lib.hid hb4
        clear hb4
        refine wpAnyH_ready (rs := [7]) (by kernel_rfl) (by simp) ?_
        refine AllReadyH.cons (o := ⟨none, _, _, _, _, _⟩) rfl (fun K hK => ?_) AllReadyH.nil
        go_simp
        refine hK.out _ _ trivial (fun hHeld => ?_)
        clear hK K d1 g1
        try simp only [Act.put, List.setIfInBounds_toArray, List.set_cons_zero, List.set_cons_succ]
        generalize d3.setCell ⟨tb, 1, none⟩ (.string (s.extract k j)) = d4 at HS4 HTB4 ⊢
        refine wpAnyH_done (by kernel_rfl) ?_ _
        have t1 : d4.cell? ⟨tb, 1, none⟩ = some (.string (s.extract k j)) := HTB4.out.cell 1
        go_wp2_with fail
        clear t1
        refine (c61 (s.extract k j) (by rw [ByteArray.size_extract]; omega) d4).mono ?_
        rintro e w5 ⟨v, r, rfl, hb5⟩
        have HS5 := Lib.hid (HS4.out.next hb5)
        have HTB5 := Lib.hid (HTB4.out.next hb5)
        clear hb5
        have r0 : w5.cell? ⟨rb, 0, none⟩ = some (.slice none 0 0) := HS5.out.r.cell 0
        have r1 : w5.cell? ⟨rb, 1, none⟩ = some (.int .i64 0) := HS5.out.r.cell 1
        have r2 : w5.cell? ⟨rb, 2, none⟩ = some (.int .i64 0) := HS5.out.r.cell 2
        have f0 := HS5.out.r.frozen 0
        have f1 := HS5.out.r.frozen 1
        have f2 := HS5.out.r.frozen 2
        have hfd : (Instr.field 112 (.agg #[.int .i64 v, .bool r]) 1).run Tryd.prog w5 = .ok (.bool r) w5 := run_field112 v r w5
        cases r with
        | false =>
          go_wp2_with fail
          exact HT.out _ _ _ _ HS5.out rfl rfl
        | true =>
          go_wp2_with fail
          refine (c56 _ w5).mono ?_
          rintro e _ ⟨rfl, rfl⟩
          cases h1 : sB (((s[j]'hjs).toNat : Int)) with
          | true =>
            go_wp2_with fail
            exact HT.out _ _ _ _ HS5.out rfl rfl
          | false =>
            go_wp2_with fail
            refine (c57 _ w5).mono ?_
            rintro e _ ⟨rfl, rfl⟩
            cases h2 : gB (((s[j]'hjs).toNat : Int)) with
            | true =>
              go_wp2_with fail
              exact HT.out _ _ _ _ HS5.out rfl rfl
            | false =>
              go_wp2_with fail
              exact HN.out (j) _ _ _ _ _ _ _ _ _ _ _ _ _ _ _ _ _ _ _ _ _ _ _ _ _ _ _ _ _ _ _ _ _ _ _ _ _ _ _ _ _ _ _ _ _ _ _ _ _ _ _ _ _ _ _ _ _ _ _ _ _ _ _ _ _ _ _ _ _ _ _ _ _ _ _ _ _ _ _ _ _ _ _ _ _ _ _ _ _ _ _ _ _ _ _ _ _ _ _ _ _ _ _ _ _ _ _ _ _ _ _ _ _ _ _ _ _ _ _ _ _ _ _ _ _ _ _ _ _ _ _ _ _ _ _ _ _ _ _ _ _ _ _ _ _ _ _ _ _ _ _ _ _ _ _ _ _ _ _ _ _ _ _ _ _ _ _ _ _ _ _ _ _ _ (by omega) (by omega) (by omega) HS5.out HTB5.out
    · have hjk : ¬ ((j : Int) < (s.size : Int)) := by omega
      have s3 : (k : Int) ≤ (j : Int) := by omega
      clear t1 ft1
      go_upto_region 33 with fail
      have HSd := Lib.hid (show TokSt w0 wr.drew gb rb A c T from ⟨HST.out.g, HST.out.r, HST.out.own, Below.drew HST.out.low, HST.out.gle, HST.out.rle, HST.out.ne⟩)
      have HTBd := Lib.hid (show Blk wr.drew tb 109 #[.int .i64 0, .string ⟨#[]⟩, .int .i64 (k : Int)] from HTB.out)
      refine wp_region_held_drew (S := fun V => True) (by kernel_rfl) trivial (fun hHeld => ?_)
      generalize wr.drew = d at HSd HTBd ⊢
      refine wpAnyH_take (i := 0) (oi := ⟨some 143, _, _, _, _, _⟩) (v := ?_) rfl (by kernel_rfl) (by kernel_rfl) (by kernel_rfl) (fun _ _ _ h => HQ.out _ _ _ _ _ h) (Or.inl ⟨by kernel_rfl, ?_⟩) (by assumption) ?_
      rotate_left
      · intro V hSw
        go_simp
        try with_reducible rfl
      try simp only [Act.put, List.setIfInBounds_toArray, List.set_cons_zero, List.set_cons_succ]
      refine wpAnyH_take (i := 1) (oi := ⟨some 144, _, _, _, _, _⟩) (v := ?_) rfl (by kernel_rfl) (by kernel_rfl) (by kernel_rfl) (fun _ _ _ h => HQ.out _ _ _ _ _ h) (Or.inl ⟨by kernel_rfl, ?_⟩) (by assumption) ?_
      rotate_left
      · intro V hSw
        go_simp
        try with_reducible rfl
      try simp only [Act.put, List.setIfInBounds_toArray, List.set_cons_zero, List.set_cons_succ]
      refine wpAnyH_take (i := 2) (oi := ⟨some 145, _, _, _, _, _⟩) (v := ?_) rfl (by kernel_rfl) (by kernel_rfl) (by kernel_rfl) (fun _ _ _ h => HQ.out _ _ _ _ _ h) (Or.inl ⟨by kernel_rfl, ?_⟩) (by assumption) ?_
      rotate_left
      · intro V hSw
        go_simp
        try with_reducible rfl
      try simp only [Act.put, List.setIfInBounds_toArray, List.set_cons_zero, List.set_cons_succ]
      refine wpAnyH_take (i := 3) (oi := ⟨some 146, _, _, _, _, _⟩) (v := ?_) rfl (by kernel_rfl) (by kernel_rfl) (by kernel_rfl) (fun _ _ _ h => HQ.out _ _ _ _ _ h) (Or.inl ⟨by kernel_rfl, ?_⟩) (by assumption) ?_
      rotate_left
      · intro V hSw
        go_simp
        try with_reducible rfl
      try simp only [Act.put, List.setIfInBounds_toArray, List.set_cons_zero, List.set_cons_succ]
      refine wpAnyH_take (i := 4) (oi := ⟨some 147, _, _, _, _, _⟩) (v := ?_) rfl (by kernel_rfl) (by kernel_rfl) (by kernel_rfl) (fun _ _ _ h => HQ.out _ _ _ _ _ h) (Or.inl ⟨by kernel_rfl, ?_⟩) (by assumption) ?_
      rotate_left
      · intro V hSw
        go_simp
        try with_reducible rfl
      try simp only [Act.put, List.setIfInBounds_toArray, List.set_cons_zero, List.set_cons_succ]
      have d0 : d.cell? ⟨tb, 0, none⟩ = some (.int .i64 0) := HTBd.out.cell 0
      have g0 := HTBd.out.frozen 0
      have HS3 := Lib.hid (HSd.out.tok HTBd.out HFR.out HTL.out 0 (.int .i64 3))
      have hb3 := HTBd.out.set_ 0 (.int .i64 3)
      simp only [List.setIfInBounds_toArray, List.set_cons_zero, List.set_cons_succ] at hb3
      have HTB3 := Lib.hid hb3
      clear hb3
      refine wpAnyH_ready (rs := [5]) (by kernel_rfl) (by simp) ?_
      refine AllReadyH.cons (o := ⟨none, _, _, _, _, _⟩) rfl (fun K hK => ?_) AllReadyH.nil
      go_simp
      refine hK.out _ _ trivial (fun hHeld => ?_)
      clear hK K d0 g0
      try simp only [Act.put, List.setIfInBounds_toArray, List.set_cons_zero, List.set_cons_succ]
      generalize d.setCell ⟨tb, 0, none⟩ (.int .i64 3) = d3 at HS3 HTB3 ⊢
      refine wpAnyH_take (i := 6) (oi := ⟨some 148, _, _, _, _, _⟩) (v := ?_) rfl (by kernel_rfl) (by kernel_rfl) (by kernel_rfl) (fun _ _ _ h => HQ.out _ _ _ _ _ h) (Or.inl ⟨by kernel_rfl, ?_⟩) (by assumption) ?_
      rotate_left
      · intro V hSw
        go_simp
        try with_reducible rfl
      try simp only [Act.put, List.setIfInBounds_toArray, List.set_cons_zero, List.set_cons_succ]
      have d1 : d3.cell? ⟨tb, 1, none⟩ = some (.string ⟨#[]⟩) := HTB3.out.cell 1
      have g1 := HTB3.out.frozen 1
      have HS4 := Lib.hid (HS3.out.tok HTB3.out HFR.out HTL.out 1 (.string (s.extract k j)))
      have hb4 := HTB3.out.set_ 1 (.string (s.extract k j))
      simp only [List.setIfInBounds_toArray, List.set_cons_zero, List.set_cons_succ] at hb4
      have HTB4 := Lib.hid hb4
      clear hb4
      refine wpAnyH_ready (rs := [7]) (by kernel_rfl) (by simp) ?_
      refine AllReadyH.cons (o := ⟨none, _, _, _, _, _⟩) rfl (fun K hK => ?_) AllReadyH.nil
      go_simp
      refine hK.out _ _ trivial (fun hHeld => ?_)
      clear hK K d1 g1
      try simp only [Act.put, List.setIfInBounds_toArray, List.set_cons_zero, List.set_cons_succ]
      generalize d3.setCell ⟨tb, 1, none⟩ (.string (s.extract k j)) = d4 at HS4 HTB4 ⊢
      refine wpAnyH_done (by kernel_rfl) ?_ _
      have t1 : d4.cell? ⟨tb, 1, none⟩ = some (.string (s.extract k j)) := HTB4.out.cell 1
      go_wp2_with fail
      clear t1
      refine (c61 (s.extract k j) (by rw [ByteArray.size_extract]; omega) d4).mono ?_
      rintro e w5 ⟨v, r, rfl, hb5⟩
      have HS5 := Lib.hid (HS4.out.next hb5)
      have HTB5 := Lib.hid (HTB4.out.next hb5)
      clear hb5
      have r0 : w5.cell? ⟨rb, 0, none⟩ = some (.slice none 0 0) := HS5.out.r.cell 0
      have r1 : w5.cell? ⟨rb, 1, none⟩ = some (.int .i64 0) := HS5.out.r.cell 1
      have r2 : w5.cell? ⟨rb, 2, none⟩ = some (.int .i64 0) := HS5.out.r.cell 2
      have f0 := HS5.out.r.frozen 0
      have f1 := HS5.out.r.frozen 1
      have f2 := HS5.out.r.frozen 2
      have hfd : (Instr.field 112 (.agg #[.int .i64 v, .bool r]) 1).run Tryd.prog w5 = .ok (.bool r) w5 := run_field112 v r w5
      cases r with
      | false =>
        go_wp2_with fail
        exact HT.out _ _ _ _ HS5.out rfl rfl
      | true =>
        go_wp2_with fail
        all_goals exact HN.out (j) _ _ _ _ _ _ _ _ _ _ _ _ _ _ _ _ _ _ _ _ _ _ _ _ _ _ _ _ _ _ _ _ _ _ _ _ _ _ _ _ _ _ _ _ _ _ _ _ _ _ _ _ _ _ _ _ _ _ _ _ _ _ _ _ _ _ _ _ _ _ _ _ _ _ _ _ _ _ _ _ _ _ _ _ _ _ _ _ _ _ _ _ _ _ _ _ _ _ _ _ _ _ _ _ _ _ _ _ _ _ _ _ _ _ _ _ _ _ _ _ _ _ _ _ _ _ _ _ _ _ _ _ _ _ _ _ _ _ _ _ _ _ _ _ _ _ _ _ _ _ _ _ _ _ _ _ _ _ _ _ _ _ _ _ _ _ _ _ _ _ _ _ _ _ (by omega) (by omega) (by omega) HS5.out HTB5.out
set_option maxRecDepth 100000 in
set_option maxHeartbeats 16000000 in
theorem tokQu {u1 u10 u11 u12 u13 u14 u15 u16 u17 u18 u19 u20 u21 u22 u23 u24 u25 u194 u195 u196 u197 u198 u199 u200 u201 u8 u9 u26 u27 u28 u29 u30 u31 u32 u33 u34 u35 u36 u37 u38 u39 u40 u41 u42 u43 u44 u45 u46 u47 u48 u49 u50 u51 u52 u53 u54 u55 u56 u57 u58 u59 u60 u61 u62 u63 u64 u65 u66 u67 u68 u69 u70 u71 u72 u73 u74 u75 u76 u77 u78 u79 u80 u81 u82 u83 u84 u85 u86 u87 u88 u89 u90 u91 u92 u93 u94 u95 u96 u97 u98 u99 u100 u101 u102 u103 u104 u105 u106 u107 u108 u109 u110 u111 u112 u113 u114 u115 u116 u117 u118 u119 u120 u121 u122 u123 u124 u125 u126 u127 u128 u129 u130 u131 u132 u133 u134 u135 u136 u137 u138 u139 u140 u141 u142 u143 u144 u145 u146 u147 u148 u149 u150 u151 u152 u153 u154 u155 u156 u157 u158 u159 u160 u161 u162 u163 u164 u165 u166 u167 u168 u169 u170 u171 u172 u173 u174 u175 u176 u177 u178 u179 u180 u181 u182 u183 u184 u185 u186 u187 u188 u189 u190 u191 u192 u193 : Value} {Q : Exit → Act → World → Prop} (s : ByteArray) (hs : s.size ≤ 3000) (w0 w : World) (gb rb tb k : Nat) (x : Int) (A : Option Addr) (c : Nat) (T : List Tok) (hlt : k < s.size) (hx : ((s[k]'hlt).toNat : Int) = x) (hst : TokSt w0 w gb rb A c T) (hfr : (Value.slice A T.length c).ownBlock ≠ some tb) (htb : Blk w tb 109 #[.int .i64 0, .string ⟨#[]⟩, .int .i64 (k : Int)]) (htl : w0.heap.size ≤ tb)
    (hQ : ∀ c (a : Act) d v w', Q (.panic c) (a.put d v) w' → Q (.panic c) a w')
    (hnorm : ∀ (j : Nat) (J κ : Int) (σ : ByteArray) (w' : World) (v8 v9 v26 v27 v28 v29 v30 v31 v32 v33 v34 v35 v36 v37 v38 v39 v40 v41 v42 v43 v44 v45 v46 v47 v48 v49 v50 v51 v52 v53 v54 v55 v56 v57 v58 v59 v60 v61 v62 v63 v64 v65 v66 v67 v68 v69 v70 v71 v72 v73 v74 v75 v76 v77 v78 v79 v80 v81 v82 v83 v84 v85 v86 v87 v88 v89 v90 v91 v92 v93 v94 v95 v96 v97 v98 v99 v100 v101 v102 v103 v104 v105 v106 v107 v108 v109 v110 v111 v112 v113 v114 v115 v116 v117 v118 v119 v120 v121 v122 v123 v124 v125 v126 v127 v128 v129 v130 v131 v132 v133 v134 v135 v136 v137 v138 v139 v140 v141 v142 v143 v144 v145 v146 v147 v148 v149 v150 v151 v152 v153 v154 v155 v156 v157 v158 v159 v160 v161 v162 v163 v164 v165 v166 v167 v168 v169 v170 v171 v172 v173 v174 v175 v176 v177 v178 v179 v180 v181 v182 v183 v184 v185 v186 v187 v188 v189 v190 v191 v192 v193 : Value), J = (j : Int) → k < j → j ≤ s.size → TokSt w0 w' gb rb A c T → Blk w' tb 109 #[.int .i64 κ, .string σ, .int .i64 (k : Int)] → Q .normal ⟨#[.string s, u1, ptr rb, ptr gb, .int .i64 (k : Int), .int .u8 x, .int .i64 J, ptr tb, v8, v9, u10, u11, u12, u13, u14, u15, u16, u17, u18, u19, u20, u21, u22, u23, u24, u25, v26, v27, v28, v29, v30, v31, v32, v33, v34, v35, v36, v37, v38, v39, v40, v41, v42, v43, v44, v45, v46, v47, v48, v49, v50, v51, v52, v53, v54, v55, v56, v57, v58, v59, v60, v61, v62, v63, v64, v65, v66, v67, v68, v69, v70, v71, v72, v73, v74, v75, v76, v77, v78, v79, v80, v81, v82, v83, v84, v85, v86, v87, v88, v89, v90, v91, v92, v93, v94, v95, v96, v97, v98, v99, v100, v101, v102, v103, v104, v105, v106, v107, v108, v109, v110, v111, v112, v113, v114, v115, v116, v117, v118, v119, v120, v121, v122, v123, v124, v125, v126, v127, v128, v129, v130, v131, v132, v133, v134, v135, v136, v137, v138, v139, v140, v141, v142, v143, v144, v145, v146, v147, v148, v149, v150, v151, v152, v153, v154, v155, v156, v157, v158, v159, v160, v161, v162, v163, v164, v165, v166, v167, v168, v169, v170, v171, v172, v173, v174, v175, v176, v177, v178, v179, v180, v181, v182, v183, v184, v185, v186, v187, v188, v189, v190, v191, v192, v193, u194, u195, u196, u197, u198, u199, u200, u201], []⟩ w')
    (hcont : ∀ (j : Nat) (J : Int) (w' : World) (v6 v8 v9 v26 v27 v28 v29 v30 v31 v32 v33 v34 v35 v36 v37 v38 v39 v40 v41 v42 v43 v44 v45 v46 v47 v48 v49 v50 v51 v52 v53 v54 v55 v56 v57 v58 v59 v60 v61 v62 v63 v64 v65 v66 v67 v68 v69 v70 v71 v72 v73 v74 v75 v76 v77 v78 v79 v80 v81 v82 v83 v84 v85 v86 v87 v88 v89 v90 v91 v92 v93 v94 v95 v96 v97 v98 v99 v100 v101 v102 v103 v104 v105 v106 v107 v108 v109 v110 v111 v112 v113 v114 v115 v116 v117 v118 v119 v120 v121 v122 v123 v124 v125 v126 v127 v128 v129 v130 v131 v132 v133 v134 v135 v136 v137 v138 v139 v140 v141 v142 v143 v144 v145 v146 v147 v148 v149 v150 v151 v152 v153 v154 v155 v156 v157 v158 v159 v160 v161 v162 v163 v164 v165 v166 v167 v168 v169 v170 v171 v172 v173 v174 v175 v176 v177 v178 v179 v180 v181 v182 v183 v184 v185 v186 v187 v188 v189 v190 v191 v192 v193 : Value), J = (j : Int) → k < j → j ≤ s.size → TokSt w0 w' gb rb A c T → Q (.exit 1) ⟨#[.string s, u1, ptr rb, ptr gb, .int .i64 J, .int .u8 x, v6, ptr tb, v8, v9, u10, u11, u12, u13, u14, u15, u16, u17, u18, u19, u20, u21, u22, u23, u24, u25, v26, v27, v28, v29, v30, v31, v32, v33, v34, v35, v36, v37, v38, v39, v40, v41, v42, v43, v44, v45, v46, v47, v48, v49, v50, v51, v52, v53, v54, v55, v56, v57, v58, v59, v60, v61, v62, v63, v64, v65, v66, v67, v68, v69, v70, v71, v72, v73, v74, v75, v76, v77, v78, v79, v80, v81, v82, v83, v84, v85, v86, v87, v88, v89, v90, v91, v92, v93, v94, v95, v96, v97, v98, v99, v100, v101, v102, v103, v104, v105, v106, v107, v108, v109, v110, v111, v112, v113, v114, v115, v116, v117, v118, v119, v120, v121, v122, v123, v124, v125, v126, v127, v128, v129, v130, v131, v132, v133, v134, v135, v136, v137, v138, v139, v140, v141, v142, v143, v144, v145, v146, v147, v148, v149, v150, v151, v152, v153, v154, v155, v156, v157, v158, v159, v160, v161, v162, v163, v164, v165, v166, v167, v168, v169, v170, v171, v172, v173, v174, v175, v176, v177, v178, v179, v180, v181, v182, v183, v184, v185, v186, v187, v188, v189, v190, v191, v192, v193, u194, u195, u196, u197, u198, u199, u200, u201], []⟩ w')
    (hret : ∀ (a : Act) (X Y : Int) (w' : World), TokSt w0 w' gb rb A c T → a.defers = [] → a.tmps.getD 2 undef = ptr rb → Q .ret a (((w'.setCell ⟨rb, 0, none⟩ (.slice none 0 0)).setCell ⟨rb, 1, none⟩ (.int .i64 X)).setCell ⟨rb, 2, none⟩ (.int .i64 Y))) (hc : x = 34) :
    Code.wp Tryd.prog (block43 2) Q ⟨#[.string s, u1, ptr rb, ptr gb, .int .i64 (k : Int), .int .u8 x, .int .i64 ((k : Int) + 1), ptr tb, u8, u9, u10, u11, u12, u13, u14, u15, u16, u17, u18, u19, u20, u21, u22, u23, u24, u25, u26, u27, u28, u29, u30, u31, u32, u33, u34, u35, u36, u37, u38, u39, u40, u41, u42, u43, u44, u45, u46, u47, u48, u49, u50, u51, u52, u53, u54, u55, u56, u57, u58, u59, u60, u61, u62, u63, u64, u65, u66, u67, u68, u69, u70, u71, u72, u73, u74, u75, u76, u77, u78, u79, u80, u81, u82, u83, u84, u85, u86, u87, u88, u89, u90, u91, u92, u93, u94, u95, u96, u97, u98, u99, u100, u101, u102, u103, u104, u105, u106, u107, u108, u109, u110, u111, u112, u113, u114, u115, u116, u117, u118, u119, u120, u121, u122, u123, u124, u125, u126, u127, u128, u129, u130, u131, u132, u133, u134, u135, u136, u137, u138, u139, u140, u141, u142, u143, u144, u145, u146, u147, u148, u149, u150, u151, u152, u153, u154, u155, u156, u157, u158, u159, u160, u161, u162, u163, u164, u165, u166, u167, u168, u169, u170, u171, u172, u173, u174, u175, u176, u177, u178, u179, u180, u181, u182, u183, u184, u185, u186, u187, u188, u189, u190, u191, u192, u193, u194, u195, u196, u197, u198, u199, u200, u201], []⟩ w := by
  have HN := Lib.hid hnorm
  have HQ := Lib.hid hQ
  clear hQ
  have HC := Lib.hid hcont
  have HT := Lib.hid hret
  have HST := Lib.hid hst
  have HFR := Lib.hid hfr
  have HTB := Lib.hid htb
  have HTL := Lib.hid htl
  have HX := Lib.hid hx
  clear hnorm hcont hret hst hfr htb htl hx
  have hlk : (k : Int) < (s.size : Int) := by omega
  have hk0 : (0 : Int) ≤ (k : Int) := by omega
  conv => arg 2; whnf
  subst hc
  have s2 : (k : Int) ≤ (s.size : Int) := by omega
  have hsb : sB 34 = false := rfl
  have hgb : gB 34 = false := rfl
  have hdb : dB 34 = false := rfl
  go_wp2_with fail
  refine (c56 34 w).mono ?_
  rintro e _ ⟨he, rfl⟩
  rw [hsb] at he
  subst he
  clear hsb
  go_wp2_with fail
  refine (c57 34 w).mono ?_
  rintro e _ ⟨he, rfl⟩
  rw [hgb] at he
  subst he
  clear hgb
  go_wp2_with fail
  refine (c60 34 w).mono ?_
  rintro e _ ⟨he, rfl⟩
  rw [hdb] at he
  subst he
  clear hdb
  go_wp2_with fail
  have hex : s.extract k s.size = s.extract k s.size := rfl
  refine (c62 (s.extract k s.size) (by rw [ByteArray.size_extract]; omega) (by rw [ByteArray.size_extract]; omega) w).mono ?_
  rintro e w5 ⟨qs, n, rfl, hn, hb5⟩
  have hn2 : k + n ≤ s.size := by rw [ByteArray.size_extract] at hn; omega
  have HS5 := Lib.hid (HST.out.next hb5)
  have HTB5 := Lib.hid (HTB.out.next hb5)
  have hX := Blk.new w5 115 #[.string qs, .int .i64 (n : Int)]
  have hb8 := below_new w5 (.cells #[.string qs, .int .i64 (n : Int)] 115)
  have HS8 := Lib.hid (HS5.out.next hb8)
  have HTB8 := Lib.hid (HTB5.out.next hb8)
  generalize hw8 : w5.alloc (.cells #[.string qs, .int .i64 (n : Int)] 115) = w8 at hX hb8 HS8 HTB8
  have HXB8 := Lib.hid hX
  clear hX hb8 hb5 hn
  go_upto_region 38 with fail
  clear hw8
  generalize w5.heap.size = xb at HXB8 ⊢
  have x1 : w8.cell? ⟨xb, 1, none⟩ = some (.int .i64 (n : Int)) := HXB8.out.cell 1
  have r0 : w8.cell? ⟨rb, 0, none⟩ = some (.slice none 0 0) := HS8.out.r.cell 0
  have r1 : w8.cell? ⟨rb, 1, none⟩ = some (.int .i64 0) := HS8.out.r.cell 1
  have r2 : w8.cell? ⟨rb, 2, none⟩ = some (.int .i64 0) := HS8.out.r.cell 2
  have f0 := HS8.out.r.frozen 0
  have f1 := HS8.out.r.frozen 1
  have f2 := HS8.out.r.frozen 2
  by_cases hn0 : n = 0
  · have hz : ((n : Int) == 0) = true := beq_iff_eq.2 (by omega)
    go_wp2_with fail
    exact HT.out _ _ _ _ HS8.out rfl rfl
  · have hz : ((n : Int) == 0) = false := beq_false_of_ne (by omega)
    have hw : wrap64 ((k : Int) + (n : Int)) = (k : Int) + (n : Int) := by unfold wrap64; omega
    have hw2 : IntKind.i64.wrap ((k : Int) + (n : Int)) = (k : Int) + (n : Int) := IntWalk.i64_in _ (by omega)
    go_upto_region 40 with fail
    clear x1 r0 r1 r2 f0 f1 f2
    have HSd := Lib.hid (show TokSt w0 w8.drew gb rb A c T from ⟨HS8.out.g, HS8.out.r, HS8.out.own, Below.drew HS8.out.low, HS8.out.gle, HS8.out.rle, HS8.out.ne⟩)
    have HTBd := Lib.hid (show Blk w8.drew tb 109 #[.int .i64 0, .string ⟨#[]⟩, .int .i64 (k : Int)] from HTB8.out)
    have HXBd := Lib.hid (show Blk w8.drew xb 115 #[.string qs, .int .i64 (n : Int)] from HXB8.out)
    refine wp_region_held_drew (S := fun V => V.cell? ⟨xb, 0, none⟩ = some (.string qs) ∧ V.cell? ⟨xb, 1, none⟩ = some (.int .i64 (n : Int))) (by kernel_rfl) ⟨HXBd.out.cell 0, HXBd.out.cell 1⟩ (fun hHeld => ?_)
    generalize w8.drew = d at HSd HTBd HXBd hHeld ⊢
    refine wpAnyH_take (i := 0) (oi := ⟨some 186, _, _, _, _, _⟩) (v := ?_) rfl (by kernel_rfl) (by kernel_rfl) (by kernel_rfl) (fun _ _ _ h => HQ.out _ _ _ _ _ h) (Or.inl ⟨by kernel_rfl, ?_⟩) (by assumption) ?_
    rotate_left
    · intro V hSw
      obtain ⟨z0, z1⟩ := hSw
      go_simp
      try with_reducible rfl
    try simp only [Act.put, List.setIfInBounds_toArray, List.set_cons_zero, List.set_cons_succ]
    refine wpAnyH_take (i := 1) (oi := ⟨some 187, _, _, _, _, _⟩) (v := ?_) rfl (by kernel_rfl) (by kernel_rfl) (by kernel_rfl) (fun _ _ _ h => HQ.out _ _ _ _ _ h) (Or.inl ⟨by kernel_rfl, ?_⟩) (by assumption) ?_
    rotate_left
    · intro V hSw
      obtain ⟨z0, z1⟩ := hSw
      go_simp
      try with_reducible rfl
    try simp only [Act.put, List.setIfInBounds_toArray, List.set_cons_zero, List.set_cons_succ]
    refine wpAnyH_take (i := 2) (oi := ⟨some 188, _, _, _, _, _⟩) (v := ?_) rfl (by kernel_rfl) (by kernel_rfl) (by kernel_rfl) (fun _ _ _ h => HQ.out _ _ _ _ _ h) (Or.inl ⟨by kernel_rfl, ?_⟩) (by assumption) ?_
    rotate_left
    · intro V hSw
      obtain ⟨z0, z1⟩ := hSw
      go_simp
      try with_reducible rfl
    try simp only [Act.put, List.setIfInBounds_toArray, List.set_cons_zero, List.set_cons_succ]
    refine wpAnyH_take (i := 3) (oi := ⟨some 189, _, _, _, _, _⟩) (v := ?_) rfl (by kernel_rfl) (by kernel_rfl) (by kernel_rfl) (fun _ _ _ h => HQ.out _ _ _ _ _ h) (Or.inl ⟨by kernel_rfl, ?_⟩) (by assumption) ?_
    rotate_left
    · intro V hSw
      obtain ⟨z0, z1⟩ := hSw
      go_simp
      try with_reducible rfl
    try simp only [Act.put, List.setIfInBounds_toArray, List.set_cons_zero, List.set_cons_succ]
    refine wpAnyH_take (i := 4) (oi := ⟨some 190, _, _, _, _, _⟩) (v := ?_) rfl (by kernel_rfl) (by kernel_rfl) (by kernel_rfl) (fun _ _ _ h => HQ.out _ _ _ _ _ h) (Or.inl ⟨by kernel_rfl, ?_⟩) (by assumption) ?_
    rotate_left
    · intro V hSw
      obtain ⟨z0, z1⟩ := hSw
      go_simp
      try with_reducible rfl
    try simp only [Act.put, List.setIfInBounds_toArray, List.set_cons_zero, List.set_cons_succ]
    refine wpAnyH_take (i := 5) (oi := ⟨some 191, _, _, _, _, _⟩) (v := ?_) rfl (by kernel_rfl) (by kernel_rfl) (by kernel_rfl) (fun _ _ _ h => HQ.out _ _ _ _ _ h) (Or.inl ⟨by kernel_rfl, ?_⟩) (by assumption) ?_
    rotate_left
    · intro V hSw
      obtain ⟨z0, z1⟩ := hSw
      go_simp
      try with_reducible rfl
    try simp only [Act.put, List.setIfInBounds_toArray, List.set_cons_zero, List.set_cons_succ]
    refine wpAnyH_take (i := 6) (oi := ⟨some 192, _, _, _, _, _⟩) (v := ?_) rfl (by kernel_rfl) (by kernel_rfl) (by kernel_rfl) (fun _ _ _ h => HQ.out _ _ _ _ _ h) (Or.inl ⟨by kernel_rfl, ?_⟩) (by assumption) ?_
    rotate_left
    · intro V hSw
      obtain ⟨z0, z1⟩ := hSw
      go_simp
      try with_reducible rfl
    try simp only [Act.put, List.setIfInBounds_toArray, List.set_cons_zero, List.set_cons_succ]
    have d0 : d.cell? ⟨tb, 0, none⟩ = some (.int .i64 0) := HTBd.out.cell 0
    have g0 := HTBd.out.frozen 0
    have HS3 := Lib.hid (HSd.out.tok HTBd.out HFR.out HTL.out 0 (.int .i64 4))
    have HXB3 := Lib.hid (HXBd.out.far (p := ⟨tb, 0, none⟩) (HXBd.out.ne_ HTBd.out (by decide)) (.int .i64 4))
    have hb3 := HTBd.out.set_ 0 (.int .i64 4)
    simp only [List.setIfInBounds_toArray, List.set_cons_zero, List.set_cons_succ] at hb3
    have HTB3 := Lib.hid hb3
    clear hb3
    refine wpAnyH_ready (rs := [7]) (by kernel_rfl) (by simp) ?_
    refine AllReadyH.cons (o := ⟨none, _, _, _, _, _⟩) rfl (fun K hK => ?_) AllReadyH.nil
    go_simp
    refine hK.out _ _ ⟨HXB3.out.cell 0, HXB3.out.cell 1⟩ (fun hHeld => ?_)
    clear hK K d0 g0
    try simp only [Act.put, List.setIfInBounds_toArray, List.set_cons_zero, List.set_cons_succ]
    generalize d.setCell ⟨tb, 0, none⟩ (.int .i64 4) = d3 at HS3 HTB3 HXB3 hHeld ⊢
    refine wpAnyH_take (i := 8) (oi := ⟨some 193, _, _, _, _, _⟩) (v := ?_) rfl (by kernel_rfl) (by kernel_rfl) (by kernel_rfl) (fun _ _ _ h => HQ.out _ _ _ _ _ h) (Or.inl ⟨by kernel_rfl, ?_⟩) (by assumption) ?_
    rotate_left
    · intro V hSw
      obtain ⟨z0, z1⟩ := hSw
      go_simp
      try with_reducible rfl
    try simp only [Act.put, List.setIfInBounds_toArray, List.set_cons_zero, List.set_cons_succ]
    have d1 : d3.cell? ⟨tb, 1, none⟩ = some (.string ⟨#[]⟩) := HTB3.out.cell 1
    have g1 := HTB3.out.frozen 1
    have HS4 := Lib.hid (HS3.out.tok HTB3.out HFR.out HTL.out 1 (.string qs))
    have HXB4 := Lib.hid (HXB3.out.far (p := ⟨tb, 1, none⟩) (HXB3.out.ne_ HTB3.out (by decide)) (.string qs))
    have hb4 := HTB3.out.set_ 1 (.string qs)
    simp only [List.setIfInBounds_toArray, List.set_cons_zero, List.set_cons_succ] at hb4
    have HTB4 := Lib.hid hb4
    clear hb4
    refine wpAnyH_ready (rs := [9]) (by kernel_rfl) (by simp) ?_
    refine AllReadyH.cons (o := ⟨none, _, _, _, _, _⟩) rfl (fun K hK => ?_) AllReadyH.nil
    go_simp
    refine hK.out _ _ ⟨HXB4.out.cell 0, HXB4.out.cell 1⟩ (fun hHeld => ?_)
    clear hK K d1 g1
    try simp only [Act.put, List.setIfInBounds_toArray, List.set_cons_zero, List.set_cons_succ]
    generalize d3.setCell ⟨tb, 1, none⟩ (.string qs) = d4 at HS4 HTB4 HXB4 hHeld ⊢
    refine wpAnyH_take (i := 10) (oi := ⟨some 6, _, _, _, _, _⟩) (v := ?_) rfl (by kernel_rfl) (by kernel_rfl) (by kernel_rfl) (fun _ _ _ h => HQ.out _ _ _ _ _ h) (Or.inl ⟨by kernel_rfl, ?_⟩) (by assumption) ?_
    rotate_left
    · intro V hSw
      obtain ⟨z0, z1⟩ := hSw
      go_simp
      try with_reducible rfl
    try simp only [Act.put, List.setIfInBounds_toArray, List.set_cons_zero, List.set_cons_succ]
    refine wpAnyH_done (by kernel_rfl) ?_ _
    exact HN.out (k + n) _ _ _ _ _ _ _ _ _ _ _ _ _ _ _ _ _ _ _ _ _ _ _ _ _ _ _ _ _ _ _ _ _ _ _ _ _ _ _ _ _ _ _ _ _ _ _ _ _ _ _ _ _ _ _ _ _ _ _ _ _ _ _ _ _ _ _ _ _ _ _ _ _ _ _ _ _ _ _ _ _ _ _ _ _ _ _ _ _ _ _ _ _ _ _ _ _ _ _ _ _ _ _ _ _ _ _ _ _ _ _ _ _ _ _ _ _ _ _ _ _ _ _ _ _ _ _ _ _ _ _ _ _ _ _ _ _ _ _ _ _ _ _ _ _ _ _ _ _ _ _ _ _ _ _ _ _ _ _ _ _ _ _ _ _ _ _ _ _ _ _ _ _ _ (by omega) (by omega) (by omega) HS4.out HTB4.out
set_option maxRecDepth 100000 in
set_option maxHeartbeats 16000000 in
theorem tokSi {u1 u10 u11 u12 u13 u14 u15 u16 u17 u18 u19 u20 u21 u22 u23 u24 u25 u194 u195 u196 u197 u198 u199 u200 u201 u8 u9 u26 u27 u28 u29 u30 u31 u32 u33 u34 u35 u36 u37 u38 u39 u40 u41 u42 u43 u44 u45 u46 u47 u48 u49 u50 u51 u52 u53 u54 u55 u56 u57 u58 u59 u60 u61 u62 u63 u64 u65 u66 u67 u68 u69 u70 u71 u72 u73 u74 u75 u76 u77 u78 u79 u80 u81 u82 u83 u84 u85 u86 u87 u88 u89 u90 u91 u92 u93 u94 u95 u96 u97 u98 u99 u100 u101 u102 u103 u104 u105 u106 u107 u108 u109 u110 u111 u112 u113 u114 u115 u116 u117 u118 u119 u120 u121 u122 u123 u124 u125 u126 u127 u128 u129 u130 u131 u132 u133 u134 u135 u136 u137 u138 u139 u140 u141 u142 u143 u144 u145 u146 u147 u148 u149 u150 u151 u152 u153 u154 u155 u156 u157 u158 u159 u160 u161 u162 u163 u164 u165 u166 u167 u168 u169 u170 u171 u172 u173 u174 u175 u176 u177 u178 u179 u180 u181 u182 u183 u184 u185 u186 u187 u188 u189 u190 u191 u192 u193 : Value} {Q : Exit → Act → World → Prop} (s : ByteArray) (hs : s.size ≤ 3000) (w0 w : World) (gb rb tb k : Nat) (x : Int) (A : Option Addr) (c : Nat) (T : List Tok) (hlt : k < s.size) (hx : ((s[k]'hlt).toNat : Int) = x) (hst : TokSt w0 w gb rb A c T) (hfr : (Value.slice A T.length c).ownBlock ≠ some tb) (htb : Blk w tb 109 #[.int .i64 0, .string ⟨#[]⟩, .int .i64 (k : Int)]) (htl : w0.heap.size ≤ tb)
    (hQ : ∀ c (a : Act) d v w', Q (.panic c) (a.put d v) w' → Q (.panic c) a w')
    (hnorm : ∀ (j : Nat) (J κ : Int) (σ : ByteArray) (w' : World) (v8 v9 v26 v27 v28 v29 v30 v31 v32 v33 v34 v35 v36 v37 v38 v39 v40 v41 v42 v43 v44 v45 v46 v47 v48 v49 v50 v51 v52 v53 v54 v55 v56 v57 v58 v59 v60 v61 v62 v63 v64 v65 v66 v67 v68 v69 v70 v71 v72 v73 v74 v75 v76 v77 v78 v79 v80 v81 v82 v83 v84 v85 v86 v87 v88 v89 v90 v91 v92 v93 v94 v95 v96 v97 v98 v99 v100 v101 v102 v103 v104 v105 v106 v107 v108 v109 v110 v111 v112 v113 v114 v115 v116 v117 v118 v119 v120 v121 v122 v123 v124 v125 v126 v127 v128 v129 v130 v131 v132 v133 v134 v135 v136 v137 v138 v139 v140 v141 v142 v143 v144 v145 v146 v147 v148 v149 v150 v151 v152 v153 v154 v155 v156 v157 v158 v159 v160 v161 v162 v163 v164 v165 v166 v167 v168 v169 v170 v171 v172 v173 v174 v175 v176 v177 v178 v179 v180 v181 v182 v183 v184 v185 v186 v187 v188 v189 v190 v191 v192 v193 : Value), J = (j : Int) → k < j → j ≤ s.size → TokSt w0 w' gb rb A c T → Blk w' tb 109 #[.int .i64 κ, .string σ, .int .i64 (k : Int)] → Q .normal ⟨#[.string s, u1, ptr rb, ptr gb, .int .i64 (k : Int), .int .u8 x, .int .i64 J, ptr tb, v8, v9, u10, u11, u12, u13, u14, u15, u16, u17, u18, u19, u20, u21, u22, u23, u24, u25, v26, v27, v28, v29, v30, v31, v32, v33, v34, v35, v36, v37, v38, v39, v40, v41, v42, v43, v44, v45, v46, v47, v48, v49, v50, v51, v52, v53, v54, v55, v56, v57, v58, v59, v60, v61, v62, v63, v64, v65, v66, v67, v68, v69, v70, v71, v72, v73, v74, v75, v76, v77, v78, v79, v80, v81, v82, v83, v84, v85, v86, v87, v88, v89, v90, v91, v92, v93, v94, v95, v96, v97, v98, v99, v100, v101, v102, v103, v104, v105, v106, v107, v108, v109, v110, v111, v112, v113, v114, v115, v116, v117, v118, v119, v120, v121, v122, v123, v124, v125, v126, v127, v128, v129, v130, v131, v132, v133, v134, v135, v136, v137, v138, v139, v140, v141, v142, v143, v144, v145, v146, v147, v148, v149, v150, v151, v152, v153, v154, v155, v156, v157, v158, v159, v160, v161, v162, v163, v164, v165, v166, v167, v168, v169, v170, v171, v172, v173, v174, v175, v176, v177, v178, v179, v180, v181, v182, v183, v184, v185, v186, v187, v188, v189, v190, v191, v192, v193, u194, u195, u196, u197, u198, u199, u200, u201], []⟩ w')
    (hcont : ∀ (j : Nat) (J : Int) (w' : World) (v6 v8 v9 v26 v27 v28 v29 v30 v31 v32 v33 v34 v35 v36 v37 v38 v39 v40 v41 v42 v43 v44 v45 v46 v47 v48 v49 v50 v51 v52 v53 v54 v55 v56 v57 v58 v59 v60 v61 v62 v63 v64 v65 v66 v67 v68 v69 v70 v71 v72 v73 v74 v75 v76 v77 v78 v79 v80 v81 v82 v83 v84 v85 v86 v87 v88 v89 v90 v91 v92 v93 v94 v95 v96 v97 v98 v99 v100 v101 v102 v103 v104 v105 v106 v107 v108 v109 v110 v111 v112 v113 v114 v115 v116 v117 v118 v119 v120 v121 v122 v123 v124 v125 v126 v127 v128 v129 v130 v131 v132 v133 v134 v135 v136 v137 v138 v139 v140 v141 v142 v143 v144 v145 v146 v147 v148 v149 v150 v151 v152 v153 v154 v155 v156 v157 v158 v159 v160 v161 v162 v163 v164 v165 v166 v167 v168 v169 v170 v171 v172 v173 v174 v175 v176 v177 v178 v179 v180 v181 v182 v183 v184 v185 v186 v187 v188 v189 v190 v191 v192 v193 : Value), J = (j : Int) → k < j → j ≤ s.size → TokSt w0 w' gb rb A c T → Q (.exit 1) ⟨#[.string s, u1, ptr rb, ptr gb, .int .i64 J, .int .u8 x, v6, ptr tb, v8, v9, u10, u11, u12, u13, u14, u15, u16, u17, u18, u19, u20, u21, u22, u23, u24, u25, v26, v27, v28, v29, v30, v31, v32, v33, v34, v35, v36, v37, v38, v39, v40, v41, v42, v43, v44, v45, v46, v47, v48, v49, v50, v51, v52, v53, v54, v55, v56, v57, v58, v59, v60, v61, v62, v63, v64, v65, v66, v67, v68, v69, v70, v71, v72, v73, v74, v75, v76, v77, v78, v79, v80, v81, v82, v83, v84, v85, v86, v87, v88, v89, v90, v91, v92, v93, v94, v95, v96, v97, v98, v99, v100, v101, v102, v103, v104, v105, v106, v107, v108, v109, v110, v111, v112, v113, v114, v115, v116, v117, v118, v119, v120, v121, v122, v123, v124, v125, v126, v127, v128, v129, v130, v131, v132, v133, v134, v135, v136, v137, v138, v139, v140, v141, v142, v143, v144, v145, v146, v147, v148, v149, v150, v151, v152, v153, v154, v155, v156, v157, v158, v159, v160, v161, v162, v163, v164, v165, v166, v167, v168, v169, v170, v171, v172, v173, v174, v175, v176, v177, v178, v179, v180, v181, v182, v183, v184, v185, v186, v187, v188, v189, v190, v191, v192, v193, u194, u195, u196, u197, u198, u199, u200, u201], []⟩ w')
    (hret : ∀ (a : Act) (X Y : Int) (w' : World), TokSt w0 w' gb rb A c T → a.defers = [] → a.tmps.getD 2 undef = ptr rb → Q .ret a (((w'.setCell ⟨rb, 0, none⟩ (.slice none 0 0)).setCell ⟨rb, 1, none⟩ (.int .i64 X)).setCell ⟨rb, 2, none⟩ (.int .i64 Y))) (hc : x ≠ 32 ∧ x ≠ 9 ∧ x ≠ 10 ∧ x ≠ 35 ∧ x ≠ 95 ∧ x ≠ 34 ∧ ¬ (97 ≤ x ∧ x ≤ 122) ∧ ¬ (65 ≤ x ∧ x ≤ 90) ∧ ¬ (48 ≤ x ∧ x ≤ 57)) :
    Code.wp Tryd.prog (block43 2) Q ⟨#[.string s, u1, ptr rb, ptr gb, .int .i64 (k : Int), .int .u8 x, .int .i64 ((k : Int) + 1), ptr tb, u8, u9, u10, u11, u12, u13, u14, u15, u16, u17, u18, u19, u20, u21, u22, u23, u24, u25, u26, u27, u28, u29, u30, u31, u32, u33, u34, u35, u36, u37, u38, u39, u40, u41, u42, u43, u44, u45, u46, u47, u48, u49, u50, u51, u52, u53, u54, u55, u56, u57, u58, u59, u60, u61, u62, u63, u64, u65, u66, u67, u68, u69, u70, u71, u72, u73, u74, u75, u76, u77, u78, u79, u80, u81, u82, u83, u84, u85, u86, u87, u88, u89, u90, u91, u92, u93, u94, u95, u96, u97, u98, u99, u100, u101, u102, u103, u104, u105, u106, u107, u108, u109, u110, u111, u112, u113, u114, u115, u116, u117, u118, u119, u120, u121, u122, u123, u124, u125, u126, u127, u128, u129, u130, u131, u132, u133, u134, u135, u136, u137, u138, u139, u140, u141, u142, u143, u144, u145, u146, u147, u148, u149, u150, u151, u152, u153, u154, u155, u156, u157, u158, u159, u160, u161, u162, u163, u164, u165, u166, u167, u168, u169, u170, u171, u172, u173, u174, u175, u176, u177, u178, u179, u180, u181, u182, u183, u184, u185, u186, u187, u188, u189, u190, u191, u192, u193, u194, u195, u196, u197, u198, u199, u200, u201], []⟩ w := by
  have HN := Lib.hid hnorm
  have HQ := Lib.hid hQ
  clear hQ
  have HC := Lib.hid hcont
  have HT := Lib.hid hret
  have HST := Lib.hid hst
  have HFR := Lib.hid hfr
  have HTB := Lib.hid htb
  have HTL := Lib.hid htl
  have HX := Lib.hid hx
  clear hnorm hcont hret hst hfr htb htl hx
  have hlk : (k : Int) < (s.size : Int) := by omega
  have hk0 : (0 : Int) ≤ (k : Int) := by omega
  conv => arg 2; whnf
  obtain ⟨n1, n2, n3, n4, n5, n6, n7, n8, n9⟩ := hc
  have e32 : (x == 32) = false := beq_false_of_ne n1
  have e9 : (x == 9) = false := beq_false_of_ne n2
  have e10 : (x == 10) = false := beq_false_of_ne n3
  have e35 : (x == 35) = false := beq_false_of_ne n4
  have e95 : (x == 95) = false := beq_false_of_ne n5
  have e34 : (x == 34) = false := beq_false_of_ne n6
  have hsb : sB x = false := by
    unfold sB
    rw [e95]
    by_cases h1 : 97 ≤ x
    · rw [decide_eq_false (show ¬ x ≤ 122 from fun h => n7 ⟨h1, h⟩)]; simp
    · rw [decide_eq_false h1]; rfl
  have hgb : gB x = false := by
    unfold gB
    by_cases h1 : 65 ≤ x
    · rw [decide_eq_false (show ¬ x ≤ 90 from fun h => n8 ⟨h1, h⟩)]; simp
    · rw [decide_eq_false h1]; rfl
  have hdb : dB x = false := by
    unfold dB
    by_cases h1 : 48 ≤ x
    · rw [decide_eq_false (show ¬ x ≤ 57 from fun h => n9 ⟨h1, h⟩)]; simp
    · rw [decide_eq_false h1]; rfl
  clear n1 n2 n3 n4 n5 n6 n7 n8 n9
  go_wp2_with fail
  refine (c56 x w).mono ?_
  rintro e _ ⟨he, rfl⟩
  rw [hsb] at he
  subst he
  clear hsb
  go_wp2_with fail
  refine (c57 x w).mono ?_
  rintro e _ ⟨he, rfl⟩
  rw [hgb] at he
  subst he
  clear hgb
  go_wp2_with fail
  refine (c60 x w).mono ?_
  rintro e _ ⟨he, rfl⟩
  rw [hdb] at he
  subst he
  clear hdb
  go_wp2_with fail
  have s2 : (k : Int) ≤ (s.size : Int) := by omega
  refine (c63 (s.extract k s.size) (by rw [ByteArray.size_extract]; omega) (by rw [ByteArray.size_extract]; omega) w).mono ?_
  rintro e w5 ⟨n, rfl, hn, hb5⟩
  have hn2 : k + n ≤ s.size := by rw [ByteArray.size_extract] at hn; omega
  have HS5 := Lib.hid (HST.out.next hb5)
  have HTB5 := Lib.hid (HTB.out.next hb5)
  clear hb5 hn HST HTB
  have HST := HS5
  have HTB := HTB5
  clear HS5 HTB5
  have r0 : w5.cell? ⟨rb, 0, none⟩ = some (.slice none 0 0) := HST.out.r.cell 0
  have r1 : w5.cell? ⟨rb, 1, none⟩ = some (.int .i64 0) := HST.out.r.cell 1
  have r2 : w5.cell? ⟨rb, 2, none⟩ = some (.int .i64 0) := HST.out.r.cell 2
  have f0 := HST.out.r.frozen 0
  have f1 := HST.out.r.frozen 1
  have f2 := HST.out.r.frozen 2
  by_cases hn0 : n = 0
  · have hz : ((n : Int) == 0) = true := beq_iff_eq.2 (by omega)
    go_wp2_with fail
    exact HT.out _ _ _ _ HST.out rfl rfl
  · have hz : ((n : Int) == 0) = false := beq_false_of_ne (by omega)
    have hw : wrap64 ((k : Int) + (n : Int)) = (k : Int) + (n : Int) := by unfold wrap64; omega
    obtain ⟨j, hj⟩ : ∃ j : Nat, (k : Int) + (n : Int) = (j : Int) := ⟨k + n, by omega⟩
    rw [hj] at hw
    have hkj : k < j := by omega
    have hjs : j ≤ s.size := by omega
    have i1 : (k : Int) ≤ (j : Int) := by omega
    have i2 : (j : Int) ≤ (s.size : Int) := by omega
    clear r0 r1 r2 f0 f1 f2
    go_upto_region 13 with fail
    have HSd := Lib.hid (show TokSt w0 w5.drew gb rb A c T from ⟨HST.out.g, HST.out.r, HST.out.own, Below.drew HST.out.low, HST.out.gle, HST.out.rle, HST.out.ne⟩)
    have HTBd := Lib.hid (show Blk w5.drew tb 109 #[.int .i64 0, .string ⟨#[]⟩, .int .i64 (k : Int)] from HTB.out)
    refine wp_region_held_drew (S := fun V => True) (by kernel_rfl) trivial (fun hHeld => ?_)
    generalize w5.drew = d at HSd HTBd ⊢
    refine wpAnyH_take (i := 0) (oi := ⟨some 37, _, _, _, _, _⟩) (v := ?_) rfl (by kernel_rfl) (by kernel_rfl) (by kernel_rfl) (fun _ _ _ h => HQ.out _ _ _ _ _ h) (Or.inl ⟨by kernel_rfl, ?_⟩) (by assumption) ?_
    rotate_left
    · intro V hSw
      go_simp
      try with_reducible rfl
    try simp only [Act.put, List.setIfInBounds_toArray, List.set_cons_zero, List.set_cons_succ]
    refine wpAnyH_take (i := 1) (oi := ⟨some 38, _, _, _, _, _⟩) (v := ?_) rfl (by kernel_rfl) (by kernel_rfl) (by kernel_rfl) (fun _ _ _ h => HQ.out _ _ _ _ _ h) (Or.inl ⟨by kernel_rfl, ?_⟩) (by assumption) ?_
    rotate_left
    · intro V hSw
      go_simp
      try with_reducible rfl
    try simp only [Act.put, List.setIfInBounds_toArray, List.set_cons_zero, List.set_cons_succ]
    refine wpAnyH_take (i := 2) (oi := ⟨some 39, _, _, _, _, _⟩) (v := ?_) rfl (by kernel_rfl) (by kernel_rfl) (by kernel_rfl) (fun _ _ _ h => HQ.out _ _ _ _ _ h) (Or.inl ⟨by kernel_rfl, ?_⟩) (by assumption) ?_
    rotate_left
    · intro V hSw
      go_simp
      try with_reducible rfl
    try simp only [Act.put, List.setIfInBounds_toArray, List.set_cons_zero, List.set_cons_succ]
    refine wpAnyH_take (i := 3) (oi := ⟨some 40, _, _, _, _, _⟩) (v := ?_) rfl (by kernel_rfl) (by kernel_rfl) (by kernel_rfl) (fun _ _ _ h => HQ.out _ _ _ _ _ h) (Or.inl ⟨by kernel_rfl, ?_⟩) (by assumption) ?_
    rotate_left
    · intro V hSw
      go_simp
      try with_reducible rfl
    try simp only [Act.put, List.setIfInBounds_toArray, List.set_cons_zero, List.set_cons_succ]
    refine wpAnyH_take (i := 4) (oi := ⟨some 41, _, _, _, _, _⟩) (v := ?_) rfl (by kernel_rfl) (by kernel_rfl) (by kernel_rfl) (fun _ _ _ h => HQ.out _ _ _ _ _ h) (Or.inl ⟨by kernel_rfl, ?_⟩) (by assumption) ?_
    rotate_left
    · intro V hSw
      go_simp
      try with_reducible rfl
    try simp only [Act.put, List.setIfInBounds_toArray, List.set_cons_zero, List.set_cons_succ]
    have d0 : d.cell? ⟨tb, 0, none⟩ = some (.int .i64 0) := HTBd.out.cell 0
    have g0 := HTBd.out.frozen 0
    have HS3 := Lib.hid (HSd.out.tok HTBd.out HFR.out HTL.out 0 (.int .i64 6))
    have hb3 := HTBd.out.set_ 0 (.int .i64 6)
    simp only [List.setIfInBounds_toArray, List.set_cons_zero, List.set_cons_succ] at hb3
    have HTB3 := Lib.hid hb3
    clear hb3
    refine wpAnyH_ready (rs := [5]) (by kernel_rfl) (by simp) ?_
    refine AllReadyH.cons (o := ⟨none, _, _, _, _, _⟩) rfl (fun K hK => ?_) AllReadyH.nil
    go_simp
    refine hK.out _ _ trivial (fun hHeld => ?_)
    clear hK K d0 g0
    try simp only [Act.put, List.setIfInBounds_toArray, List.set_cons_zero, List.set_cons_succ]
    generalize d.setCell ⟨tb, 0, none⟩ (.int .i64 6) = d3 at HS3 HTB3 ⊢
    refine wpAnyH_take (i := 6) (oi := ⟨some 42, _, _, _, _, _⟩) (v := ?_) rfl (by kernel_rfl) (by kernel_rfl) (by kernel_rfl) (fun _ _ _ h => HQ.out _ _ _ _ _ h) (Or.inl ⟨by kernel_rfl, ?_⟩) (by assumption) ?_
    rotate_left
    · intro V hSw
      go_simp
      try with_reducible rfl
    try simp only [Act.put, List.setIfInBounds_toArray, List.set_cons_zero, List.set_cons_succ]
    have d1 : d3.cell? ⟨tb, 1, none⟩ = some (.string ⟨#[]⟩) := HTB3.out.cell 1
    have g1 := HTB3.out.frozen 1
    have HS4 := Lib.hid (HS3.out.tok HTB3.out HFR.out HTL.out 1 (.string (s.extract k j)))
    have hb4 := HTB3.out.set_ 1 (.string (s.extract k j))
    simp only [List.setIfInBounds_toArray, List.set_cons_zero, List.set_cons_succ] at hb4
    have HTB4 := Lib.hid hb4
    clear hb4
    refine wpAnyH_ready (rs := [7]) (by kernel_rfl) (by simp) ?_
    refine AllReadyH.cons (o := ⟨none, _, _, _, _, _⟩) rfl (fun K hK => ?_) AllReadyH.nil
    go_simp
    refine hK.out _ _ trivial (fun hHeld => ?_)
    clear hK K d1 g1
    try simp only [Act.put, List.setIfInBounds_toArray, List.set_cons_zero, List.set_cons_succ]
    generalize d3.setCell ⟨tb, 1, none⟩ (.string (s.extract k j)) = d4 at HS4 HTB4 ⊢
    refine wpAnyH_done (by kernel_rfl) ?_ _
    exact HN.out (j) _ _ _ _ _ _ _ _ _ _ _ _ _ _ _ _ _ _ _ _ _ _ _ _ _ _ _ _ _ _ _ _ _ _ _ _ _ _ _ _ _ _ _ _ _ _ _ _ _ _ _ _ _ _ _ _ _ _ _ _ _ _ _ _ _ _ _ _ _ _ _ _ _ _ _ _ _ _ _ _ _ _ _ _ _ _ _ _ _ _ _ _ _ _ _ _ _ _ _ _ _ _ _ _ _ _ _ _ _ _ _ _ _ _ _ _ _ _ _ _ _ _ _ _ _ _ _ _ _ _ _ _ _ _ _ _ _ _ _ _ _ _ _ _ _ _ _ _ _ _ _ _ _ _ _ _ _ _ _ _ _ _ _ _ _ _ _ _ _ _ _ _ _ _ (by omega) (by omega) (by omega) HS4.out HTB4.out
set_option maxRecDepth 100000 in
set_option maxHeartbeats 16000000 in
theorem tokUa {u1 u10 u11 u12 u13 u14 u15 u16 u17 u18 u19 u20 u21 u22 u23 u24 u25 u194 u195 u196 u197 u198 u199 u200 u201 u8 u9 u26 u27 u28 u29 u30 u31 u32 u33 u34 u35 u36 u37 u38 u39 u40 u41 u42 u43 u44 u45 u46 u47 u48 u49 u50 u51 u52 u53 u54 u55 u56 u57 u58 u59 u60 u61 u62 u63 u64 u65 u66 u67 u68 u69 u70 u71 u72 u73 u74 u75 u76 u77 u78 u79 u80 u81 u82 u83 u84 u85 u86 u87 u88 u89 u90 u91 u92 u93 u94 u95 u96 u97 u98 u99 u100 u101 u102 u103 u104 u105 u106 u107 u108 u109 u110 u111 u112 u113 u114 u115 u116 u117 u118 u119 u120 u121 u122 u123 u124 u125 u126 u127 u128 u129 u130 u131 u132 u133 u134 u135 u136 u137 u138 u139 u140 u141 u142 u143 u144 u145 u146 u147 u148 u149 u150 u151 u152 u153 u154 u155 u156 u157 u158 u159 u160 u161 u162 u163 u164 u165 u166 u167 u168 u169 u170 u171 u172 u173 u174 u175 u176 u177 u178 u179 u180 u181 u182 u183 u184 u185 u186 u187 u188 u189 u190 u191 u192 u193 : Value} {Q : Exit → Act → World → Prop} (s : ByteArray) (hs : s.size ≤ 3000) (w0 w : World) (gb rb tb k : Nat) (x : Int) (A : Option Addr) (c : Nat) (T : List Tok) (hlt : k < s.size) (hx : ((s[k]'hlt).toNat : Int) = x) (hst : TokSt w0 w gb rb A c T) (hfr : (Value.slice A T.length c).ownBlock ≠ some tb) (htb : Blk w tb 109 #[.int .i64 0, .string ⟨#[]⟩, .int .i64 (k : Int)]) (htl : w0.heap.size ≤ tb)
    (hQ : ∀ c (a : Act) d v w', Q (.panic c) (a.put d v) w' → Q (.panic c) a w')
    (hnorm : ∀ (j : Nat) (J κ : Int) (σ : ByteArray) (w' : World) (v8 v9 v26 v27 v28 v29 v30 v31 v32 v33 v34 v35 v36 v37 v38 v39 v40 v41 v42 v43 v44 v45 v46 v47 v48 v49 v50 v51 v52 v53 v54 v55 v56 v57 v58 v59 v60 v61 v62 v63 v64 v65 v66 v67 v68 v69 v70 v71 v72 v73 v74 v75 v76 v77 v78 v79 v80 v81 v82 v83 v84 v85 v86 v87 v88 v89 v90 v91 v92 v93 v94 v95 v96 v97 v98 v99 v100 v101 v102 v103 v104 v105 v106 v107 v108 v109 v110 v111 v112 v113 v114 v115 v116 v117 v118 v119 v120 v121 v122 v123 v124 v125 v126 v127 v128 v129 v130 v131 v132 v133 v134 v135 v136 v137 v138 v139 v140 v141 v142 v143 v144 v145 v146 v147 v148 v149 v150 v151 v152 v153 v154 v155 v156 v157 v158 v159 v160 v161 v162 v163 v164 v165 v166 v167 v168 v169 v170 v171 v172 v173 v174 v175 v176 v177 v178 v179 v180 v181 v182 v183 v184 v185 v186 v187 v188 v189 v190 v191 v192 v193 : Value), J = (j : Int) → k < j → j ≤ s.size → TokSt w0 w' gb rb A c T → Blk w' tb 109 #[.int .i64 κ, .string σ, .int .i64 (k : Int)] → Q .normal ⟨#[.string s, u1, ptr rb, ptr gb, .int .i64 (k : Int), .int .u8 x, .int .i64 J, ptr tb, v8, v9, u10, u11, u12, u13, u14, u15, u16, u17, u18, u19, u20, u21, u22, u23, u24, u25, v26, v27, v28, v29, v30, v31, v32, v33, v34, v35, v36, v37, v38, v39, v40, v41, v42, v43, v44, v45, v46, v47, v48, v49, v50, v51, v52, v53, v54, v55, v56, v57, v58, v59, v60, v61, v62, v63, v64, v65, v66, v67, v68, v69, v70, v71, v72, v73, v74, v75, v76, v77, v78, v79, v80, v81, v82, v83, v84, v85, v86, v87, v88, v89, v90, v91, v92, v93, v94, v95, v96, v97, v98, v99, v100, v101, v102, v103, v104, v105, v106, v107, v108, v109, v110, v111, v112, v113, v114, v115, v116, v117, v118, v119, v120, v121, v122, v123, v124, v125, v126, v127, v128, v129, v130, v131, v132, v133, v134, v135, v136, v137, v138, v139, v140, v141, v142, v143, v144, v145, v146, v147, v148, v149, v150, v151, v152, v153, v154, v155, v156, v157, v158, v159, v160, v161, v162, v163, v164, v165, v166, v167, v168, v169, v170, v171, v172, v173, v174, v175, v176, v177, v178, v179, v180, v181, v182, v183, v184, v185, v186, v187, v188, v189, v190, v191, v192, v193, u194, u195, u196, u197, u198, u199, u200, u201], []⟩ w')
    (hcont : ∀ (j : Nat) (J : Int) (w' : World) (v6 v8 v9 v26 v27 v28 v29 v30 v31 v32 v33 v34 v35 v36 v37 v38 v39 v40 v41 v42 v43 v44 v45 v46 v47 v48 v49 v50 v51 v52 v53 v54 v55 v56 v57 v58 v59 v60 v61 v62 v63 v64 v65 v66 v67 v68 v69 v70 v71 v72 v73 v74 v75 v76 v77 v78 v79 v80 v81 v82 v83 v84 v85 v86 v87 v88 v89 v90 v91 v92 v93 v94 v95 v96 v97 v98 v99 v100 v101 v102 v103 v104 v105 v106 v107 v108 v109 v110 v111 v112 v113 v114 v115 v116 v117 v118 v119 v120 v121 v122 v123 v124 v125 v126 v127 v128 v129 v130 v131 v132 v133 v134 v135 v136 v137 v138 v139 v140 v141 v142 v143 v144 v145 v146 v147 v148 v149 v150 v151 v152 v153 v154 v155 v156 v157 v158 v159 v160 v161 v162 v163 v164 v165 v166 v167 v168 v169 v170 v171 v172 v173 v174 v175 v176 v177 v178 v179 v180 v181 v182 v183 v184 v185 v186 v187 v188 v189 v190 v191 v192 v193 : Value), J = (j : Int) → k < j → j ≤ s.size → TokSt w0 w' gb rb A c T → Q (.exit 1) ⟨#[.string s, u1, ptr rb, ptr gb, .int .i64 J, .int .u8 x, v6, ptr tb, v8, v9, u10, u11, u12, u13, u14, u15, u16, u17, u18, u19, u20, u21, u22, u23, u24, u25, v26, v27, v28, v29, v30, v31, v32, v33, v34, v35, v36, v37, v38, v39, v40, v41, v42, v43, v44, v45, v46, v47, v48, v49, v50, v51, v52, v53, v54, v55, v56, v57, v58, v59, v60, v61, v62, v63, v64, v65, v66, v67, v68, v69, v70, v71, v72, v73, v74, v75, v76, v77, v78, v79, v80, v81, v82, v83, v84, v85, v86, v87, v88, v89, v90, v91, v92, v93, v94, v95, v96, v97, v98, v99, v100, v101, v102, v103, v104, v105, v106, v107, v108, v109, v110, v111, v112, v113, v114, v115, v116, v117, v118, v119, v120, v121, v122, v123, v124, v125, v126, v127, v128, v129, v130, v131, v132, v133, v134, v135, v136, v137, v138, v139, v140, v141, v142, v143, v144, v145, v146, v147, v148, v149, v150, v151, v152, v153, v154, v155, v156, v157, v158, v159, v160, v161, v162, v163, v164, v165, v166, v167, v168, v169, v170, v171, v172, v173, v174, v175, v176, v177, v178, v179, v180, v181, v182, v183, v184, v185, v186, v187, v188, v189, v190, v191, v192, v193, u194, u195, u196, u197, u198, u199, u200, u201], []⟩ w')
    (hret : ∀ (a : Act) (X Y : Int) (w' : World), TokSt w0 w' gb rb A c T → a.defers = [] → a.tmps.getD 2 undef = ptr rb → Q .ret a (((w'.setCell ⟨rb, 0, none⟩ (.slice none 0 0)).setCell ⟨rb, 1, none⟩ (.int .i64 X)).setCell ⟨rb, 2, none⟩ (.int .i64 Y))) (hc : x = 95 ∧ k + 1 = s.size) :
    Code.wp Tryd.prog (block43 2) Q ⟨#[.string s, u1, ptr rb, ptr gb, .int .i64 (k : Int), .int .u8 x, .int .i64 ((k : Int) + 1), ptr tb, u8, u9, u10, u11, u12, u13, u14, u15, u16, u17, u18, u19, u20, u21, u22, u23, u24, u25, u26, u27, u28, u29, u30, u31, u32, u33, u34, u35, u36, u37, u38, u39, u40, u41, u42, u43, u44, u45, u46, u47, u48, u49, u50, u51, u52, u53, u54, u55, u56, u57, u58, u59, u60, u61, u62, u63, u64, u65, u66, u67, u68, u69, u70, u71, u72, u73, u74, u75, u76, u77, u78, u79, u80, u81, u82, u83, u84, u85, u86, u87, u88, u89, u90, u91, u92, u93, u94, u95, u96, u97, u98, u99, u100, u101, u102, u103, u104, u105, u106, u107, u108, u109, u110, u111, u112, u113, u114, u115, u116, u117, u118, u119, u120, u121, u122, u123, u124, u125, u126, u127, u128, u129, u130, u131, u132, u133, u134, u135, u136, u137, u138, u139, u140, u141, u142, u143, u144, u145, u146, u147, u148, u149, u150, u151, u152, u153, u154, u155, u156, u157, u158, u159, u160, u161, u162, u163, u164, u165, u166, u167, u168, u169, u170, u171, u172, u173, u174, u175, u176, u177, u178, u179, u180, u181, u182, u183, u184, u185, u186, u187, u188, u189, u190, u191, u192, u193, u194, u195, u196, u197, u198, u199, u200, u201], []⟩ w := by
  have HN := Lib.hid hnorm
  have HQ := Lib.hid hQ
  clear hQ
  have HC := Lib.hid hcont
  have HT := Lib.hid hret
  have HST := Lib.hid hst
  have HFR := Lib.hid hfr
  have HTB := Lib.hid htb
  have HTL := Lib.hid htl
  have HX := Lib.hid hx
  clear hnorm hcont hret hst hfr htb htl hx
  have hlk : (k : Int) < (s.size : Int) := by omega
  have hk0 : (0 : Int) ≤ (k : Int) := by omega
  conv => arg 2; whnf
  obtain ⟨rfl, hk1⟩ := hc
  have hne : ((k : Int) + 1 == (s.size : Int)) = true := beq_iff_eq.2 (by omega)
  have hsb : sB 95 = true := rfl
  have hdb : dB 95 = false := rfl
  have HK1 := Lib.hid hk1
  clear hk1
  go_wp2_with fail
  refine (c56 95 w).mono ?_
  rintro e _ ⟨he, rfl⟩
  rw [hsb] at he
  subst he
  clear hsb
  go_wp2_with fail
  refine (c60 95 w).mono ?_
  rintro e _ ⟨he, rfl⟩
  rw [hdb] at he
  subst he
  clear hdb
  go_wp2_with fail
  have s2 : (k : Int) ≤ (s.size : Int) := by omega
  refine (c63 (s.extract k s.size) (by rw [ByteArray.size_extract]; omega) (by rw [ByteArray.size_extract]; omega) w).mono ?_
  rintro e w5 ⟨n, rfl, hn, hb5⟩
  have hn2 : k + n ≤ s.size := by rw [ByteArray.size_extract] at hn; omega
  have HS5 := Lib.hid (HST.out.next hb5)
  have HTB5 := Lib.hid (HTB.out.next hb5)
  clear hb5 hn HST HTB
  have HST := HS5
  have HTB := HTB5
  clear HS5 HTB5
  have r0 : w5.cell? ⟨rb, 0, none⟩ = some (.slice none 0 0) := HST.out.r.cell 0
  have r1 : w5.cell? ⟨rb, 1, none⟩ = some (.int .i64 0) := HST.out.r.cell 1
  have r2 : w5.cell? ⟨rb, 2, none⟩ = some (.int .i64 0) := HST.out.r.cell 2
  have f0 := HST.out.r.frozen 0
  have f1 := HST.out.r.frozen 1
  have f2 := HST.out.r.frozen 2
  by_cases hn0 : n = 0
  · have hz : ((n : Int) == 0) = true := beq_iff_eq.2 (by omega)
    go_wp2_with fail
    exact HT.out _ _ _ _ HST.out rfl rfl
  · have hz : ((n : Int) == 0) = false := beq_false_of_ne (by omega)
    have hw : wrap64 ((k : Int) + (n : Int)) = (k : Int) + (n : Int) := by unfold wrap64; omega
    obtain ⟨j, hj⟩ : ∃ j : Nat, (k : Int) + (n : Int) = (j : Int) := ⟨k + n, by omega⟩
    rw [hj] at hw
    have hkj : k < j := by omega
    have hjs : j ≤ s.size := by omega
    have i1 : (k : Int) ≤ (j : Int) := by omega
    have i2 : (j : Int) ≤ (s.size : Int) := by omega
    clear r0 r1 r2 f0 f1 f2
    go_upto_region 13 with fail
    have HSd := Lib.hid (show TokSt w0 w5.drew gb rb A c T from ⟨HST.out.g, HST.out.r, HST.out.own, Below.drew HST.out.low, HST.out.gle, HST.out.rle, HST.out.ne⟩)
    have HTBd := Lib.hid (show Blk w5.drew tb 109 #[.int .i64 0, .string ⟨#[]⟩, .int .i64 (k : Int)] from HTB.out)
    refine wp_region_held_drew (S := fun V => True) (by kernel_rfl) trivial (fun hHeld => ?_)
    generalize w5.drew = d at HSd HTBd ⊢
    refine wpAnyH_take (i := 0) (oi := ⟨some 37, _, _, _, _, _⟩) (v := ?_) rfl (by kernel_rfl) (by kernel_rfl) (by kernel_rfl) (fun _ _ _ h => HQ.out _ _ _ _ _ h) (Or.inl ⟨by kernel_rfl, ?_⟩) (by assumption) ?_
    rotate_left
    · intro V hSw
      go_simp
      try with_reducible rfl
    try simp only [Act.put, List.setIfInBounds_toArray, List.set_cons_zero, List.set_cons_succ]
    refine wpAnyH_take (i := 1) (oi := ⟨some 38, _, _, _, _, _⟩) (v := ?_) rfl (by kernel_rfl) (by kernel_rfl) (by kernel_rfl) (fun _ _ _ h => HQ.out _ _ _ _ _ h) (Or.inl ⟨by kernel_rfl, ?_⟩) (by assumption) ?_
    rotate_left
    · intro V hSw
      go_simp
      try with_reducible rfl
    try simp only [Act.put, List.setIfInBounds_toArray, List.set_cons_zero, List.set_cons_succ]
    refine wpAnyH_take (i := 2) (oi := ⟨some 39, _, _, _, _, _⟩) (v := ?_) rfl (by kernel_rfl) (by kernel_rfl) (by kernel_rfl) (fun _ _ _ h => HQ.out _ _ _ _ _ h) (Or.inl ⟨by kernel_rfl, ?_⟩) (by assumption) ?_
    rotate_left
    · intro V hSw
      go_simp
      try with_reducible rfl
    try simp only [Act.put, List.setIfInBounds_toArray, List.set_cons_zero, List.set_cons_succ]
    refine wpAnyH_take (i := 3) (oi := ⟨some 40, _, _, _, _, _⟩) (v := ?_) rfl (by kernel_rfl) (by kernel_rfl) (by kernel_rfl) (fun _ _ _ h => HQ.out _ _ _ _ _ h) (Or.inl ⟨by kernel_rfl, ?_⟩) (by assumption) ?_
    rotate_left
    · intro V hSw
      go_simp
      try with_reducible rfl
    try simp only [Act.put, List.setIfInBounds_toArray, List.set_cons_zero, List.set_cons_succ]
    refine wpAnyH_take (i := 4) (oi := ⟨some 41, _, _, _, _, _⟩) (v := ?_) rfl (by kernel_rfl) (by kernel_rfl) (by kernel_rfl) (fun _ _ _ h => HQ.out _ _ _ _ _ h) (Or.inl ⟨by kernel_rfl, ?_⟩) (by assumption) ?_
    rotate_left
    · intro V hSw
      go_simp
      try with_reducible rfl
    try simp only [Act.put, List.setIfInBounds_toArray, List.set_cons_zero, List.set_cons_succ]
    have d0 : d.cell? ⟨tb, 0, none⟩ = some (.int .i64 0) := HTBd.out.cell 0
    have g0 := HTBd.out.frozen 0
    have HS3 := Lib.hid (HSd.out.tok HTBd.out HFR.out HTL.out 0 (.int .i64 6))
    have hb3 := HTBd.out.set_ 0 (.int .i64 6)
    simp only [List.setIfInBounds_toArray, List.set_cons_zero, List.set_cons_succ] at hb3
    have HTB3 := Lib.hid hb3
    clear hb3
    refine wpAnyH_ready (rs := [5]) (by kernel_rfl) (by simp) ?_
    refine AllReadyH.cons (o := ⟨none, _, _, _, _, _⟩) rfl (fun K hK => ?_) AllReadyH.nil
    go_simp
    refine hK.out _ _ trivial (fun hHeld => ?_)
    clear hK K d0 g0
    try simp only [Act.put, List.setIfInBounds_toArray, List.set_cons_zero, List.set_cons_succ]
    generalize d.setCell ⟨tb, 0, none⟩ (.int .i64 6) = d3 at HS3 HTB3 ⊢
    refine wpAnyH_take (i := 6) (oi := ⟨some 42, _, _, _, _, _⟩) (v := ?_) rfl (by kernel_rfl) (by kernel_rfl) (by kernel_rfl) (fun _ _ _ h => HQ.out _ _ _ _ _ h) (Or.inl ⟨by kernel_rfl, ?_⟩) (by assumption) ?_
    rotate_left
    · intro V hSw
      go_simp
      try with_reducible rfl
    try simp only [Act.put, List.setIfInBounds_toArray, List.set_cons_zero, List.set_cons_succ]
    have d1 : d3.cell? ⟨tb, 1, none⟩ = some (.string ⟨#[]⟩) := HTB3.out.cell 1
    have g1 := HTB3.out.frozen 1
    have HS4 := Lib.hid (HS3.out.tok HTB3.out HFR.out HTL.out 1 (.string (s.extract k j)))
    have hb4 := HTB3.out.set_ 1 (.string (s.extract k j))
    simp only [List.setIfInBounds_toArray, List.set_cons_zero, List.set_cons_succ] at hb4
    have HTB4 := Lib.hid hb4
    clear hb4
    refine wpAnyH_ready (rs := [7]) (by kernel_rfl) (by simp) ?_
    refine AllReadyH.cons (o := ⟨none, _, _, _, _, _⟩) rfl (fun K hK => ?_) AllReadyH.nil
    go_simp
    refine hK.out _ _ trivial (fun hHeld => ?_)
    clear hK K d1 g1
    try simp only [Act.put, List.setIfInBounds_toArray, List.set_cons_zero, List.set_cons_succ]
    generalize d3.setCell ⟨tb, 1, none⟩ (.string (s.extract k j)) = d4 at HS4 HTB4 ⊢
    refine wpAnyH_done (by kernel_rfl) ?_ _
    exact HN.out (j) _ _ _ _ _ _ _ _ _ _ _ _ _ _ _ _ _ _ _ _ _ _ _ _ _ _ _ _ _ _ _ _ _ _ _ _ _ _ _ _ _ _ _ _ _ _ _ _ _ _ _ _ _ _ _ _ _ _ _ _ _ _ _ _ _ _ _ _ _ _ _ _ _ _ _ _ _ _ _ _ _ _ _ _ _ _ _ _ _ _ _ _ _ _ _ _ _ _ _ _ _ _ _ _ _ _ _ _ _ _ _ _ _ _ _ _ _ _ _ _ _ _ _ _ _ _ _ _ _ _ _ _ _ _ _ _ _ _ _ _ _ _ _ _ _ _ _ _ _ _ _ _ _ _ _ _ _ _ _ _ _ _ _ _ _ _ _ _ _ _ _ _ _ _ (by omega) (by omega) (by omega) HS4.out HTB4.out
set_option maxRecDepth 100000 in
set_option maxHeartbeats 16000000 in
theorem tokUb {u1 u10 u11 u12 u13 u14 u15 u16 u17 u18 u19 u20 u21 u22 u23 u24 u25 u194 u195 u196 u197 u198 u199 u200 u201 u8 u9 u26 u27 u28 u29 u30 u31 u32 u33 u34 u35 u36 u37 u38 u39 u40 u41 u42 u43 u44 u45 u46 u47 u48 u49 u50 u51 u52 u53 u54 u55 u56 u57 u58 u59 u60 u61 u62 u63 u64 u65 u66 u67 u68 u69 u70 u71 u72 u73 u74 u75 u76 u77 u78 u79 u80 u81 u82 u83 u84 u85 u86 u87 u88 u89 u90 u91 u92 u93 u94 u95 u96 u97 u98 u99 u100 u101 u102 u103 u104 u105 u106 u107 u108 u109 u110 u111 u112 u113 u114 u115 u116 u117 u118 u119 u120 u121 u122 u123 u124 u125 u126 u127 u128 u129 u130 u131 u132 u133 u134 u135 u136 u137 u138 u139 u140 u141 u142 u143 u144 u145 u146 u147 u148 u149 u150 u151 u152 u153 u154 u155 u156 u157 u158 u159 u160 u161 u162 u163 u164 u165 u166 u167 u168 u169 u170 u171 u172 u173 u174 u175 u176 u177 u178 u179 u180 u181 u182 u183 u184 u185 u186 u187 u188 u189 u190 u191 u192 u193 : Value} {Q : Exit → Act → World → Prop} (s : ByteArray) (hs : s.size ≤ 3000) (w0 w : World) (gb rb tb k : Nat) (x : Int) (A : Option Addr) (c : Nat) (T : List Tok) (hlt : k < s.size) (hx : ((s[k]'hlt).toNat : Int) = x) (hst : TokSt w0 w gb rb A c T) (hfr : (Value.slice A T.length c).ownBlock ≠ some tb) (htb : Blk w tb 109 #[.int .i64 0, .string ⟨#[]⟩, .int .i64 (k : Int)]) (htl : w0.heap.size ≤ tb)
    (hQ : ∀ c (a : Act) d v w', Q (.panic c) (a.put d v) w' → Q (.panic c) a w')
    (hnorm : ∀ (j : Nat) (J κ : Int) (σ : ByteArray) (w' : World) (v8 v9 v26 v27 v28 v29 v30 v31 v32 v33 v34 v35 v36 v37 v38 v39 v40 v41 v42 v43 v44 v45 v46 v47 v48 v49 v50 v51 v52 v53 v54 v55 v56 v57 v58 v59 v60 v61 v62 v63 v64 v65 v66 v67 v68 v69 v70 v71 v72 v73 v74 v75 v76 v77 v78 v79 v80 v81 v82 v83 v84 v85 v86 v87 v88 v89 v90 v91 v92 v93 v94 v95 v96 v97 v98 v99 v100 v101 v102 v103 v104 v105 v106 v107 v108 v109 v110 v111 v112 v113 v114 v115 v116 v117 v118 v119 v120 v121 v122 v123 v124 v125 v126 v127 v128 v129 v130 v131 v132 v133 v134 v135 v136 v137 v138 v139 v140 v141 v142 v143 v144 v145 v146 v147 v148 v149 v150 v151 v152 v153 v154 v155 v156 v157 v158 v159 v160 v161 v162 v163 v164 v165 v166 v167 v168 v169 v170 v171 v172 v173 v174 v175 v176 v177 v178 v179 v180 v181 v182 v183 v184 v185 v186 v187 v188 v189 v190 v191 v192 v193 : Value), J = (j : Int) → k < j → j ≤ s.size → TokSt w0 w' gb rb A c T → Blk w' tb 109 #[.int .i64 κ, .string σ, .int .i64 (k : Int)] → Q .normal ⟨#[.string s, u1, ptr rb, ptr gb, .int .i64 (k : Int), .int .u8 x, .int .i64 J, ptr tb, v8, v9, u10, u11, u12, u13, u14, u15, u16, u17, u18, u19, u20, u21, u22, u23, u24, u25, v26, v27, v28, v29, v30, v31, v32, v33, v34, v35, v36, v37, v38, v39, v40, v41, v42, v43, v44, v45, v46, v47, v48, v49, v50, v51, v52, v53, v54, v55, v56, v57, v58, v59, v60, v61, v62, v63, v64, v65, v66, v67, v68, v69, v70, v71, v72, v73, v74, v75, v76, v77, v78, v79, v80, v81, v82, v83, v84, v85, v86, v87, v88, v89, v90, v91, v92, v93, v94, v95, v96, v97, v98, v99, v100, v101, v102, v103, v104, v105, v106, v107, v108, v109, v110, v111, v112, v113, v114, v115, v116, v117, v118, v119, v120, v121, v122, v123, v124, v125, v126, v127, v128, v129, v130, v131, v132, v133, v134, v135, v136, v137, v138, v139, v140, v141, v142, v143, v144, v145, v146, v147, v148, v149, v150, v151, v152, v153, v154, v155, v156, v157, v158, v159, v160, v161, v162, v163, v164, v165, v166, v167, v168, v169, v170, v171, v172, v173, v174, v175, v176, v177, v178, v179, v180, v181, v182, v183, v184, v185, v186, v187, v188, v189, v190, v191, v192, v193, u194, u195, u196, u197, u198, u199, u200, u201], []⟩ w')
    (hcont : ∀ (j : Nat) (J : Int) (w' : World) (v6 v8 v9 v26 v27 v28 v29 v30 v31 v32 v33 v34 v35 v36 v37 v38 v39 v40 v41 v42 v43 v44 v45 v46 v47 v48 v49 v50 v51 v52 v53 v54 v55 v56 v57 v58 v59 v60 v61 v62 v63 v64 v65 v66 v67 v68 v69 v70 v71 v72 v73 v74 v75 v76 v77 v78 v79 v80 v81 v82 v83 v84 v85 v86 v87 v88 v89 v90 v91 v92 v93 v94 v95 v96 v97 v98 v99 v100 v101 v102 v103 v104 v105 v106 v107 v108 v109 v110 v111 v112 v113 v114 v115 v116 v117 v118 v119 v120 v121 v122 v123 v124 v125 v126 v127 v128 v129 v130 v131 v132 v133 v134 v135 v136 v137 v138 v139 v140 v141 v142 v143 v144 v145 v146 v147 v148 v149 v150 v151 v152 v153 v154 v155 v156 v157 v158 v159 v160 v161 v162 v163 v164 v165 v166 v167 v168 v169 v170 v171 v172 v173 v174 v175 v176 v177 v178 v179 v180 v181 v182 v183 v184 v185 v186 v187 v188 v189 v190 v191 v192 v193 : Value), J = (j : Int) → k < j → j ≤ s.size → TokSt w0 w' gb rb A c T → Q (.exit 1) ⟨#[.string s, u1, ptr rb, ptr gb, .int .i64 J, .int .u8 x, v6, ptr tb, v8, v9, u10, u11, u12, u13, u14, u15, u16, u17, u18, u19, u20, u21, u22, u23, u24, u25, v26, v27, v28, v29, v30, v31, v32, v33, v34, v35, v36, v37, v38, v39, v40, v41, v42, v43, v44, v45, v46, v47, v48, v49, v50, v51, v52, v53, v54, v55, v56, v57, v58, v59, v60, v61, v62, v63, v64, v65, v66, v67, v68, v69, v70, v71, v72, v73, v74, v75, v76, v77, v78, v79, v80, v81, v82, v83, v84, v85, v86, v87, v88, v89, v90, v91, v92, v93, v94, v95, v96, v97, v98, v99, v100, v101, v102, v103, v104, v105, v106, v107, v108, v109, v110, v111, v112, v113, v114, v115, v116, v117, v118, v119, v120, v121, v122, v123, v124, v125, v126, v127, v128, v129, v130, v131, v132, v133, v134, v135, v136, v137, v138, v139, v140, v141, v142, v143, v144, v145, v146, v147, v148, v149, v150, v151, v152, v153, v154, v155, v156, v157, v158, v159, v160, v161, v162, v163, v164, v165, v166, v167, v168, v169, v170, v171, v172, v173, v174, v175, v176, v177, v178, v179, v180, v181, v182, v183, v184, v185, v186, v187, v188, v189, v190, v191, v192, v193, u194, u195, u196, u197, u198, u199, u200, u201], []⟩ w')
    (hret : ∀ (a : Act) (X Y : Int) (w' : World), TokSt w0 w' gb rb A c T → a.defers = [] → a.tmps.getD 2 undef = ptr rb → Q .ret a (((w'.setCell ⟨rb, 0, none⟩ (.slice none 0 0)).setCell ⟨rb, 1, none⟩ (.int .i64 X)).setCell ⟨rb, 2, none⟩ (.int .i64 Y))) (hc : x = 95 ∧ ∃ h : k + 1 < s.size, vB ((s[k + 1]'h).toNat : Int) = false) :
    Code.wp Tryd.prog (block43 2) Q ⟨#[.string s, u1, ptr rb, ptr gb, .int .i64 (k : Int), .int .u8 x, .int .i64 ((k : Int) + 1), ptr tb, u8, u9, u10, u11, u12, u13, u14, u15, u16, u17, u18, u19, u20, u21, u22, u23, u24, u25, u26, u27, u28, u29, u30, u31, u32, u33, u34, u35, u36, u37, u38, u39, u40, u41, u42, u43, u44, u45, u46, u47, u48, u49, u50, u51, u52, u53, u54, u55, u56, u57, u58, u59, u60, u61, u62, u63, u64, u65, u66, u67, u68, u69, u70, u71, u72, u73, u74, u75, u76, u77, u78, u79, u80, u81, u82, u83, u84, u85, u86, u87, u88, u89, u90, u91, u92, u93, u94, u95, u96, u97, u98, u99, u100, u101, u102, u103, u104, u105, u106, u107, u108, u109, u110, u111, u112, u113, u114, u115, u116, u117, u118, u119, u120, u121, u122, u123, u124, u125, u126, u127, u128, u129, u130, u131, u132, u133, u134, u135, u136, u137, u138, u139, u140, u141, u142, u143, u144, u145, u146, u147, u148, u149, u150, u151, u152, u153, u154, u155, u156, u157, u158, u159, u160, u161, u162, u163, u164, u165, u166, u167, u168, u169, u170, u171, u172, u173, u174, u175, u176, u177, u178, u179, u180, u181, u182, u183, u184, u185, u186, u187, u188, u189, u190, u191, u192, u193, u194, u195, u196, u197, u198, u199, u200, u201], []⟩ w := by
  have HN := Lib.hid hnorm
  have HQ := Lib.hid hQ
  clear hQ
  have HC := Lib.hid hcont
  have HT := Lib.hid hret
  have HST := Lib.hid hst
  have HFR := Lib.hid hfr
  have HTB := Lib.hid htb
  have HTL := Lib.hid htl
  have HX := Lib.hid hx
  clear hnorm hcont hret hst hfr htb htl hx
  have hlk : (k : Int) < (s.size : Int) := by omega
  have hk0 : (0 : Int) ≤ (k : Int) := by omega
  conv => arg 2; whnf
  obtain ⟨rfl, hk1, hv1⟩ := hc
  have hkk : (k : Int) + 1 < (s.size : Int) := by omega
  have hk10 : (0 : Int) ≤ (k : Int) + 1 := by omega
  have htn : ((k : Int) + 1).toNat = k + 1 := by omega
  have hne : ((k : Int) + 1 == (s.size : Int)) = false := beq_false_of_ne (by omega)
  have hsb : sB 95 = true := rfl
  have hdb : dB 95 = false := rfl
  go_wp2_with fail
  refine (c56 95 w).mono ?_
  rintro e _ ⟨he, rfl⟩
  rw [hsb] at he
  subst he
  clear hsb
  go_wp2_with fail
  refine (c58 _ w).mono ?_
  rintro e _ ⟨he, rfl⟩
  rw [hv1] at he
  subst he
  clear hv1
  go_wp2_with fail
  refine (c60 95 w).mono ?_
  rintro e _ ⟨he, rfl⟩
  rw [hdb] at he
  subst he
  clear hdb
  go_wp2_with fail
  have s2 : (k : Int) ≤ (s.size : Int) := by omega
  refine (c63 (s.extract k s.size) (by rw [ByteArray.size_extract]; omega) (by rw [ByteArray.size_extract]; omega) w).mono ?_
  rintro e w5 ⟨n, rfl, hn, hb5⟩
  have hn2 : k + n ≤ s.size := by rw [ByteArray.size_extract] at hn; omega
  have HS5 := Lib.hid (HST.out.next hb5)
  have HTB5 := Lib.hid (HTB.out.next hb5)
  clear hb5 hn HST HTB
  have HST := HS5
  have HTB := HTB5
  clear HS5 HTB5
  have r0 : w5.cell? ⟨rb, 0, none⟩ = some (.slice none 0 0) := HST.out.r.cell 0
  have r1 : w5.cell? ⟨rb, 1, none⟩ = some (.int .i64 0) := HST.out.r.cell 1
  have r2 : w5.cell? ⟨rb, 2, none⟩ = some (.int .i64 0) := HST.out.r.cell 2
  have f0 := HST.out.r.frozen 0
  have f1 := HST.out.r.frozen 1
  have f2 := HST.out.r.frozen 2
  by_cases hn0 : n = 0
  · have hz : ((n : Int) == 0) = true := beq_iff_eq.2 (by omega)
    go_wp2_with fail
    exact HT.out _ _ _ _ HST.out rfl rfl
  · have hz : ((n : Int) == 0) = false := beq_false_of_ne (by omega)
    have hw : wrap64 ((k : Int) + (n : Int)) = (k : Int) + (n : Int) := by unfold wrap64; omega
    obtain ⟨j, hj⟩ : ∃ j : Nat, (k : Int) + (n : Int) = (j : Int) := ⟨k + n, by omega⟩
    rw [hj] at hw
    have hkj : k < j := by omega
    have hjs : j ≤ s.size := by omega
    have i1 : (k : Int) ≤ (j : Int) := by omega
    have i2 : (j : Int) ≤ (s.size : Int) := by omega
    clear r0 r1 r2 f0 f1 f2
    go_upto_region 13 with fail
    have HSd := Lib.hid (show TokSt w0 w5.drew gb rb A c T from ⟨HST.out.g, HST.out.r, HST.out.own, Below.drew HST.out.low, HST.out.gle, HST.out.rle, HST.out.ne⟩)
    have HTBd := Lib.hid (show Blk w5.drew tb 109 #[.int .i64 0, .string ⟨#[]⟩, .int .i64 (k : Int)] from HTB.out)
    refine wp_region_held_drew (S := fun V => True) (by kernel_rfl) trivial (fun hHeld => ?_)
    generalize w5.drew = d at HSd HTBd ⊢
    refine wpAnyH_take (i := 0) (oi := ⟨some 37, _, _, _, _, _⟩) (v := ?_) rfl (by kernel_rfl) (by kernel_rfl) (by kernel_rfl) (fun _ _ _ h => HQ.out _ _ _ _ _ h) (Or.inl ⟨by kernel_rfl, ?_⟩) (by assumption) ?_
    rotate_left
    · intro V hSw
      go_simp
      try with_reducible rfl
    try simp only [Act.put, List.setIfInBounds_toArray, List.set_cons_zero, List.set_cons_succ]
    refine wpAnyH_take (i := 1) (oi := ⟨some 38, _, _, _, _, _⟩) (v := ?_) rfl (by kernel_rfl) (by kernel_rfl) (by kernel_rfl) (fun _ _ _ h => HQ.out _ _ _ _ _ h) (Or.inl ⟨by kernel_rfl, ?_⟩) (by assumption) ?_
    rotate_left
    · intro V hSw
      go_simp
      try with_reducible rfl
    try simp only [Act.put, List.setIfInBounds_toArray, List.set_cons_zero, List.set_cons_succ]
    refine wpAnyH_take (i := 2) (oi := ⟨some 39, _, _, _, _, _⟩) (v := ?_) rfl (by kernel_rfl) (by kernel_rfl) (by kernel_rfl) (fun _ _ _ h => HQ.out _ _ _ _ _ h) (Or.inl ⟨by kernel_rfl, ?_⟩) (by assumption) ?_
    rotate_left
    · intro V hSw
      go_simp
      try with_reducible rfl
    try simp only [Act.put, List.setIfInBounds_toArray, List.set_cons_zero, List.set_cons_succ]
    refine wpAnyH_take (i := 3) (oi := ⟨some 40, _, _, _, _, _⟩) (v := ?_) rfl (by kernel_rfl) (by kernel_rfl) (by kernel_rfl) (fun _ _ _ h => HQ.out _ _ _ _ _ h) (Or.inl ⟨by kernel_rfl, ?_⟩) (by assumption) ?_
    rotate_left
    · intro V hSw
      go_simp
      try with_reducible rfl
    try simp only [Act.put, List.setIfInBounds_toArray, List.set_cons_zero, List.set_cons_succ]
    refine wpAnyH_take (i := 4) (oi := ⟨some 41, _, _, _, _, _⟩) (v := ?_) rfl (by kernel_rfl) (by kernel_rfl) (by kernel_rfl) (fun _ _ _ h => HQ.out _ _ _ _ _ h) (Or.inl ⟨by kernel_rfl, ?_⟩) (by assumption) ?_
    rotate_left
    · intro V hSw
      go_simp
      try with_reducible rfl
    try simp only [Act.put, List.setIfInBounds_toArray, List.set_cons_zero, List.set_cons_succ]
    have d0 : d.cell? ⟨tb, 0, none⟩ = some (.int .i64 0) := HTBd.out.cell 0
    have g0 := HTBd.out.frozen 0
    have HS3 := Lib.hid (HSd.out.tok HTBd.out HFR.out HTL.out 0 (.int .i64 6))
    have hb3 := HTBd.out.set_ 0 (.int .i64 6)
    simp only [List.setIfInBounds_toArray, List.set_cons_zero, List.set_cons_succ] at hb3
    have HTB3 := Lib.hid hb3
    clear hb3
    refine wpAnyH_ready (rs := [5]) (by kernel_rfl) (by simp) ?_
    refine AllReadyH.cons (o := ⟨none, _, _, _, _, _⟩) rfl (fun K hK => ?_) AllReadyH.nil
    go_simp
    refine hK.out _ _ trivial (fun hHeld => ?_)
    clear hK K d0 g0
    try simp only [Act.put, List.setIfInBounds_toArray, List.set_cons_zero, List.set_cons_succ]
    generalize d.setCell ⟨tb, 0, none⟩ (.int .i64 6) = d3 at HS3 HTB3 ⊢
    refine wpAnyH_take (i := 6) (oi := ⟨some 42, _, _, _, _, _⟩) (v := ?_) rfl (by kernel_rfl) (by kernel_rfl) (by kernel_rfl) (fun _ _ _ h => HQ.out _ _ _ _ _ h) (Or.inl ⟨by kernel_rfl, ?_⟩) (by assumption) ?_
    rotate_left
    · intro V hSw
      go_simp
      try with_reducible rfl
    try simp only [Act.put, List.setIfInBounds_toArray, List.set_cons_zero, List.set_cons_succ]
    have d1 : d3.cell? ⟨tb, 1, none⟩ = some (.string ⟨#[]⟩) := HTB3.out.cell 1
    have g1 := HTB3.out.frozen 1
    have HS4 := Lib.hid (HS3.out.tok HTB3.out HFR.out HTL.out 1 (.string (s.extract k j)))
    have hb4 := HTB3.out.set_ 1 (.string (s.extract k j))
    simp only [List.setIfInBounds_toArray, List.set_cons_zero, List.set_cons_succ] at hb4
    have HTB4 := Lib.hid hb4
    clear hb4
    refine wpAnyH_ready (rs := [7]) (by kernel_rfl) (by simp) ?_
    refine AllReadyH.cons (o := ⟨none, _, _, _, _, _⟩) rfl (fun K hK => ?_) AllReadyH.nil
    go_simp
    refine hK.out _ _ trivial (fun hHeld => ?_)
    clear hK K d1 g1
    try simp only [Act.put, List.setIfInBounds_toArray, List.set_cons_zero, List.set_cons_succ]
    generalize d3.setCell ⟨tb, 1, none⟩ (.string (s.extract k j)) = d4 at HS4 HTB4 ⊢
    refine wpAnyH_done (by kernel_rfl) ?_ _
    exact HN.out (j) _ _ _ _ _ _ _ _ _ _ _ _ _ _ _ _ _ _ _ _ _ _ _ _ _ _ _ _ _ _ _ _ _ _ _ _ _ _ _ _ _ _ _ _ _ _ _ _ _ _ _ _ _ _ _ _ _ _ _ _ _ _ _ _ _ _ _ _ _ _ _ _ _ _ _ _ _ _ _ _ _ _ _ _ _ _ _ _ _ _ _ _ _ _ _ _ _ _ _ _ _ _ _ _ _ _ _ _ _ _ _ _ _ _ _ _ _ _ _ _ _ _ _ _ _ _ _ _ _ _ _ _ _ _ _ _ _ _ _ _ _ _ _ _ _ _ _ _ _ _ _ _ _ _ _ _ _ _ _ _ _ _ _ _ _ _ _ _ _ _ _ _ _ _ (by omega) (by omega) (by omega) HS4.out HTB4.out
end Go.Proofs.YtphojigdapaaiaaDoor
