/- The document's tokens, exactly: the ways of one round. -/
import Derived.Test.YtphojigdapaaiaaDoorZBe
import Derived.Test.YtphojigdapaaiaaDoorZBf
import Derived.Deep.CutBlock
import Derived.Test.YtphojigdapaaiaaDoorZBd
import Derived.Test.YtphojigdapaaiaaDoorSHp
namespace Go.Proofs.YtphojigdapaaiaaDoor
open Go.ChangeShapes Go.WideShapes Go.ChangeAt Go.RowKit
set_option linter.unusedVariables false
set_option linter.unusedSimpArgs false
set_option maxRecDepth 100000 in
set_option maxHeartbeats 16000000 in
theorem xtokDi {u1 u10 u11 u12 u13 u14 u15 u16 u17 u18 u19 u20 u21 u22 u23 u24 u25 u194 u195 u196 u197 u198 u199 u200 u201 u8 u9 u26 u27 u28 u29 u30 u31 u32 u33 u34 u35 u36 u37 u38 u39 u40 u41 u42 u43 u44 u45 u46 u47 u48 u49 u50 u51 u52 u53 u54 u55 u56 u57 u58 u59 u60 u61 u62 u63 u64 u65 u66 u67 u68 u69 u70 u71 u72 u73 u74 u75 u76 u77 u78 u79 u80 u81 u82 u83 u84 u85 u86 u87 u88 u89 u90 u91 u92 u93 u94 u95 u96 u97 u98 u99 u100 u101 u102 u103 u104 u105 u106 u107 u108 u109 u110 u111 u112 u113 u114 u115 u116 u117 u118 u119 u120 u121 u122 u123 u124 u125 u126 u127 u128 u129 u130 u131 u132 u133 u134 u135 u136 u137 u138 u139 u140 u141 u142 u143 u144 u145 u146 u147 u148 u149 u150 u151 u152 u153 u154 u155 u156 u157 u158 u159 u160 u161 u162 u163 u164 u165 u166 u167 u168 u169 u170 u171 u172 u173 u174 u175 u176 u177 u178 u179 u180 u181 u182 u183 u184 u185 u186 u187 u188 u189 u190 u191 u192 u193 : Value} {Q : Exit → Act → World → Prop} (s : ByteArray) (hs : s.size ≤ 3000) (w0 w : World) (gb rb tb k : Nat) (x : Int) (A : Option Addr) (c : Nat) (T : List Tok) (hlt : k < s.size) (hx : ((s[k]'hlt).toNat : Int) = x) (hst : TokSt w0 w gb rb A c T) (hfr : (Value.slice A T.length c).ownBlock ≠ some tb) (htb : Blk w tb 109 #[.int .i64 0, .string ⟨#[]⟩, .int .i64 (k : Int)]) (htl : w0.heap.size ≤ tb)
    (hQ : ∀ c (a : Act) d v w', Q (.panic c) (a.put d v) w' → Q (.panic c) a w')
    (hnorm : ∀ (j : Nat) (J κ : Int) (σ : ByteArray) (w' : World) (v8 v9 v26 v27 v28 v29 v30 v31 v32 v33 v34 v35 v36 v37 v38 v39 v40 v41 v42 v43 v44 v45 v46 v47 v48 v49 v50 v51 v52 v53 v54 v55 v56 v57 v58 v59 v60 v61 v62 v63 v64 v65 v66 v67 v68 v69 v70 v71 v72 v73 v74 v75 v76 v77 v78 v79 v80 v81 v82 v83 v84 v85 v86 v87 v88 v89 v90 v91 v92 v93 v94 v95 v96 v97 v98 v99 v100 v101 v102 v103 v104 v105 v106 v107 v108 v109 v110 v111 v112 v113 v114 v115 v116 v117 v118 v119 v120 v121 v122 v123 v124 v125 v126 v127 v128 v129 v130 v131 v132 v133 v134 v135 v136 v137 v138 v139 v140 v141 v142 v143 v144 v145 v146 v147 v148 v149 v150 v151 v152 v153 v154 v155 v156 v157 v158 v159 v160 v161 v162 v163 v164 v165 v166 v167 v168 v169 v170 v171 v172 v173 v174 v175 v176 v177 v178 v179 v180 v181 v182 v183 v184 v185 v186 v187 v188 v189 v190 v191 v192 v193 : Value), J = (j : Int) → k < j → j ≤ s.size → TokSt w0 w' gb rb A c T → Blk w' tb 109 #[.int .i64 κ, .string σ, .int .i64 (k : Int)] → StepOk (dr s k) (.tok κ (lis σ) (j - k)) → Q .normal ⟨#[.string s, u1, ptr rb, ptr gb, .int .i64 (k : Int), .int .u8 x, .int .i64 J, ptr tb, v8, v9, u10, u11, u12, u13, u14, u15, u16, u17, u18, u19, u20, u21, u22, u23, u24, u25, v26, v27, v28, v29, v30, v31, v32, v33, v34, v35, v36, v37, v38, v39, v40, v41, v42, v43, v44, v45, v46, v47, v48, v49, v50, v51, v52, v53, v54, v55, v56, v57, v58, v59, v60, v61, v62, v63, v64, v65, v66, v67, v68, v69, v70, v71, v72, v73, v74, v75, v76, v77, v78, v79, v80, v81, v82, v83, v84, v85, v86, v87, v88, v89, v90, v91, v92, v93, v94, v95, v96, v97, v98, v99, v100, v101, v102, v103, v104, v105, v106, v107, v108, v109, v110, v111, v112, v113, v114, v115, v116, v117, v118, v119, v120, v121, v122, v123, v124, v125, v126, v127, v128, v129, v130, v131, v132, v133, v134, v135, v136, v137, v138, v139, v140, v141, v142, v143, v144, v145, v146, v147, v148, v149, v150, v151, v152, v153, v154, v155, v156, v157, v158, v159, v160, v161, v162, v163, v164, v165, v166, v167, v168, v169, v170, v171, v172, v173, v174, v175, v176, v177, v178, v179, v180, v181, v182, v183, v184, v185, v186, v187, v188, v189, v190, v191, v192, v193, u194, u195, u196, u197, u198, u199, u200, u201], []⟩ w')
    (hcont : ∀ (j : Nat) (J : Int) (w' : World) (v6 v8 v9 v26 v27 v28 v29 v30 v31 v32 v33 v34 v35 v36 v37 v38 v39 v40 v41 v42 v43 v44 v45 v46 v47 v48 v49 v50 v51 v52 v53 v54 v55 v56 v57 v58 v59 v60 v61 v62 v63 v64 v65 v66 v67 v68 v69 v70 v71 v72 v73 v74 v75 v76 v77 v78 v79 v80 v81 v82 v83 v84 v85 v86 v87 v88 v89 v90 v91 v92 v93 v94 v95 v96 v97 v98 v99 v100 v101 v102 v103 v104 v105 v106 v107 v108 v109 v110 v111 v112 v113 v114 v115 v116 v117 v118 v119 v120 v121 v122 v123 v124 v125 v126 v127 v128 v129 v130 v131 v132 v133 v134 v135 v136 v137 v138 v139 v140 v141 v142 v143 v144 v145 v146 v147 v148 v149 v150 v151 v152 v153 v154 v155 v156 v157 v158 v159 v160 v161 v162 v163 v164 v165 v166 v167 v168 v169 v170 v171 v172 v173 v174 v175 v176 v177 v178 v179 v180 v181 v182 v183 v184 v185 v186 v187 v188 v189 v190 v191 v192 v193 : Value), J = (j : Int) → k < j → j ≤ s.size → TokSt w0 w' gb rb A c T → StepOk (dr s k) (.skip (j - k)) → Q (.exit 1) ⟨#[.string s, u1, ptr rb, ptr gb, .int .i64 J, .int .u8 x, v6, ptr tb, v8, v9, u10, u11, u12, u13, u14, u15, u16, u17, u18, u19, u20, u21, u22, u23, u24, u25, v26, v27, v28, v29, v30, v31, v32, v33, v34, v35, v36, v37, v38, v39, v40, v41, v42, v43, v44, v45, v46, v47, v48, v49, v50, v51, v52, v53, v54, v55, v56, v57, v58, v59, v60, v61, v62, v63, v64, v65, v66, v67, v68, v69, v70, v71, v72, v73, v74, v75, v76, v77, v78, v79, v80, v81, v82, v83, v84, v85, v86, v87, v88, v89, v90, v91, v92, v93, v94, v95, v96, v97, v98, v99, v100, v101, v102, v103, v104, v105, v106, v107, v108, v109, v110, v111, v112, v113, v114, v115, v116, v117, v118, v119, v120, v121, v122, v123, v124, v125, v126, v127, v128, v129, v130, v131, v132, v133, v134, v135, v136, v137, v138, v139, v140, v141, v142, v143, v144, v145, v146, v147, v148, v149, v150, v151, v152, v153, v154, v155, v156, v157, v158, v159, v160, v161, v162, v163, v164, v165, v166, v167, v168, v169, v170, v171, v172, v173, v174, v175, v176, v177, v178, v179, v180, v181, v182, v183, v184, v185, v186, v187, v188, v189, v190, v191, v192, v193, u194, u195, u196, u197, u198, u199, u200, u201], []⟩ w')
    (hret : ∀ (a : Act) (X Y : Int) (w' : World), TokSt w0 w' gb rb A c T → StepOk (dr s k) .err → a.defers = [] → a.tmps.getD 2 undef = ptr rb → Q .ret a (((w'.setCell ⟨rb, 0, none⟩ (.slice none 0 0)).setCell ⟨rb, 1, none⟩ (.int .i64 X)).setCell ⟨rb, 2, none⟩ (.int .i64 Y))) (hc : 48 ≤ x ∧ x ≤ 57) :
    Code.wp Tryd.prog (block43 2) Q ⟨#[.string s, u1, ptr rb, ptr gb, .int .i64 (k : Int), .int .u8 x, .int .i64 ((k : Int) + 1), ptr tb, u8, u9, u10, u11, u12, u13, u14, u15, u16, u17, u18, u19, u20, u21, u22, u23, u24, u25, u26, u27, u28, u29, u30, u31, u32, u33, u34, u35, u36, u37, u38, u39, u40, u41, u42, u43, u44, u45, u46, u47, u48, u49, u50, u51, u52, u53, u54, u55, u56, u57, u58, u59, u60, u61, u62, u63, u64, u65, u66, u67, u68, u69, u70, u71, u72, u73, u74, u75, u76, u77, u78, u79, u80, u81, u82, u83, u84, u85, u86, u87, u88, u89, u90, u91, u92, u93, u94, u95, u96, u97, u98, u99, u100, u101, u102, u103, u104, u105, u106, u107, u108, u109, u110, u111, u112, u113, u114, u115, u116, u117, u118, u119, u120, u121, u122, u123, u124, u125, u126, u127, u128, u129, u130, u131, u132, u133, u134, u135, u136, u137, u138, u139, u140, u141, u142, u143, u144, u145, u146, u147, u148, u149, u150, u151, u152, u153, u154, u155, u156, u157, u158, u159, u160, u161, u162, u163, u164, u165, u166, u167, u168, u169, u170, u171, u172, u173, u174, u175, u176, u177, u178, u179, u180, u181, u182, u183, u184, u185, u186, u187, u188, u189, u190, u191, u192, u193, u194, u195, u196, u197, u198, u199, u200, u201], []⟩ w := by
  have HN := Lib.hid hnorm
  have HQ := Lib.hid hQ
  clear hQ
  have HC := Lib.hid hcont
  have HT := Lib.hid hret
  have HST := Lib.hid hst
  have HFR := Lib.hid hfr
  have HTB := Lib.hid htb
  have HTL := Lib.hid htl
  have HX := Lib.hid hx
  clear hnorm hcont hret hst hfr htb htl hx
  have hlk : (k : Int) < (s.size : Int) := by omega
  have hk0 : (0 : Int) ≤ (k : Int) := by omega
  conv => arg 2; whnf
  have e32 : (x == 32) = false := beq_false_of_ne (by omega)
  have e9 : (x == 9) = false := beq_false_of_ne (by omega)
  have e10 : (x == 10) = false := beq_false_of_ne (by omega)
  have e35 : (x == 35) = false := beq_false_of_ne (by omega)
  have e95 : (x == 95) = false := beq_false_of_ne (by omega)
  have e34 : (x == 34) = false := beq_false_of_ne (by omega)
  have HCL := Lib.hid hc
  have hsb : sB x = false := by unfold sB; rw [e95, decide_eq_false (show ¬ 97 ≤ x by omega)]; rfl
  have hgb : gB x = false := by unfold gB; rw [decide_eq_false (show ¬ 65 ≤ x by omega)]; rfl
  have hdb : dB x = true := by simp [dB, hc.1, hc.2]
  go_wp2_with fail
  refine (c56 x w).mono ?_
  rintro e _ ⟨he, rfl⟩
  rw [hsb] at he
  subst he
  clear hsb
  go_wp2_with fail
  refine (c57 x w).mono ?_
  rintro e _ ⟨he, rfl⟩
  rw [hgb] at he
  subst he
  clear hgb
  go_wp2_with fail
  refine (c60 x w).mono ?_
  rintro e _ ⟨he, rfl⟩
  rw [hdb] at he
  subst he
  clear hdb
  go_wp2_with fail
  go_loopw [6] (fun i wr => ∃ j : Nat, k < j ∧ j ≤ s.size ∧ i = .int .i64 j ∧ wr = w ∧ ∀ i (h : i < s.size), k < i → i < j → dB ((s[i]'h).toNat : Int) = true) (fun i _ => s.size - (intOf i).toNat)
  case atStart => exact ⟨k + 1, by omega, by omega, by go_num, rfl, fun i h h1 h2 => by omega⟩
  case round =>
    obtain ⟨j, hj1, hj2, rfl, rfl, hal⟩ := hrel
    have HAL := Lib.hid hal
    clear hal
    have t1 : wr.cell? ⟨tb, 1, none⟩ = some (.string ⟨#[]⟩) := HTB.out.cell 1
    have ft1 := HTB.out.frozen 1
    have s1 : (k : Int) ≤ (j : Int) := by omega
    have s2 : (j : Int) ≤ (s.size : Int) := by omega
    have hj0 : (0 : Int) ≤ (j : Int) := by omega
    by_cases hjs : j < s.size
    · have hjk : (j : Int) < (s.size : Int) := by omega
      go_wp2_with fail
      refine (c60 _ wr).mono ?_
      rintro e _ ⟨rfl, rfl⟩
      cases hv : dB (((s[j]'hjs).toNat : Int)) with
      | true =>
        have HAL2 := Lib.hid (show ∀ i (h : i < s.size), k < i → i < j + 1 → dB ((s[i]'h).toNat : Int) = true from fun i h h1 h2 => by
          by_cases h3 : i = j
          · subst h3; exact hv
          · exact HAL.out i h h1 (by omega))
        clear t1 ft1
        go_wp2_with fail
        all_goals exact ⟨⟨j + 1, by omega, by omega, by go_num, by first | rfl | trivial, HAL2.out⟩, by simp [intOf]; omega⟩
      | false =>
        have HW := Lib.hid (step_one hlt HX.out HCL.out hj1 hj2 HAL.out (by rw [nextB_dr _ hjs]; exact hv))
        have s3 : (k : Int) ≤ (j : Int) := by omega
        clear t1 ft1
        go_upto_region 33 with fail
        have HSd := Lib.hid (show TokSt w0 wr.drew gb rb A c T from ⟨HST.out.g, HST.out.r, HST.out.own, Below.drew HST.out.low, HST.out.gle, HST.out.rle, HST.out.ne⟩)
        have HTBd := Lib.hid (show Blk wr.drew tb 109 #[.int .i64 0, .string ⟨#[]⟩, .int .i64 (k : Int)] from HTB.out)
        refine wp_region_held_drew (S := fun V => True) (by kernel_rfl) trivial (fun hHeld => ?_)
        generalize wr.drew = d at HSd HTBd ⊢
        refine wpAnyH_take (i := 0) (oi := ⟨some 143, _, _, _, _, _⟩) (v := ?_) rfl (by kernel_rfl) (by kernel_rfl) (by kernel_rfl) (fun _ _ _ h => HQ.out _ _ _ _ _ h) (Or.inl ⟨by kernel_rfl, ?_⟩) (by assumption) ?_
        rotate_left
        · intro V hSw
          go_simp
          try with_reducible rfl
        try simp only [Act.put, sLA, sL0, sL1]
        refine wpAnyH_take (i := 1) (oi := ⟨some 144, _, _, _, _, _⟩) (v := ?_) rfl (by kernel_rfl) (by kernel_rfl) (by kernel_rfl) (fun _ _ _ h => HQ.out _ _ _ _ _ h) (Or.inl ⟨by kernel_rfl, ?_⟩) (by assumption) ?_
        rotate_left
        · intro V hSw
          go_simp
          try with_reducible rfl
        try simp only [Act.put, sLA, sL0, sL1]
        refine wpAnyH_take (i := 2) (oi := ⟨some 145, _, _, _, _, _⟩) (v := ?_) rfl (by kernel_rfl) (by kernel_rfl) (by kernel_rfl) (fun _ _ _ h => HQ.out _ _ _ _ _ h) (Or.inl ⟨by kernel_rfl, ?_⟩) (by assumption) ?_
        rotate_left
        · intro V hSw
          go_simp
          try with_reducible rfl
        try simp only [Act.put, sLA, sL0, sL1]
        refine wpAnyH_take (i := 3) (oi := ⟨some 146, _, _, _, _, _⟩) (v := ?_) rfl (by kernel_rfl) (by kernel_rfl) (by kernel_rfl) (fun _ _ _ h => HQ.out _ _ _ _ _ h) (Or.inl ⟨by kernel_rfl, ?_⟩) (by assumption) ?_
        rotate_left
        · intro V hSw
          go_simp
          try with_reducible rfl
        try simp only [Act.put, sLA, sL0, sL1]
        refine wpAnyH_take (i := 4) (oi := ⟨some 147, _, _, _, _, _⟩) (v := ?_) rfl (by kernel_rfl) (by kernel_rfl) (by kernel_rfl) (fun _ _ _ h => HQ.out _ _ _ _ _ h) (Or.inl ⟨by kernel_rfl, ?_⟩) (by assumption) ?_
        rotate_left
        · intro V hSw
          go_simp
          try with_reducible rfl
        try simp only [Act.put, sLA, sL0, sL1]
        have d0 : d.cell? ⟨tb, 0, none⟩ = some (.int .i64 0) := HTBd.out.cell 0
        have g0 := HTBd.out.frozen 0
        have HS3 := Lib.hid (HSd.out.tok HTBd.out HFR.out HTL.out 0 (.int .i64 3))
        have hb3 := HTBd.out.set_ 0 (.int .i64 3)
        simp only [sLA, sL0, sL1] at hb3
        have HTB3 := Lib.hid hb3
        clear hb3
        refine wpAnyH_ready (rs := [5]) (by kernel_rfl) (by simp) ?_
        refine AllReadyH.cons (o := ⟨none, _, _, _, _, _⟩) rfl (fun K hK => ?_) AllReadyH.nil
        go_simp
        refine hK.out _ _ trivial (fun hHeld => ?_)
        clear hK K d0 g0
        try simp only [Act.put, sLA, sL0, sL1]
        generalize d.setCell ⟨tb, 0, none⟩ (.int .i64 3) = d3 at HS3 HTB3 ⊢
        refine wpAnyH_take (i := 6) (oi := ⟨some 148, _, _, _, _, _⟩) (v := ?_) rfl (by kernel_rfl) (by kernel_rfl) (by kernel_rfl) (fun _ _ _ h => HQ.out _ _ _ _ _ h) (Or.inl ⟨by kernel_rfl, ?_⟩) (by assumption) ?_
        rotate_left
        · intro V hSw
          go_simp
          try with_reducible rfl
        try simp only [Act.put, sLA, sL0, sL1]
        have d1 : d3.cell? ⟨tb, 1, none⟩ = some (.string ⟨#[]⟩) := HTB3.out.cell 1
        have g1 := HTB3.out.frozen 1
        have HS4 := Lib.hid (HS3.out.tok HTB3.out HFR.out HTL.out 1 (.string (s.extract k j)))
        have hb4 := HTB3.out.set_ 1 (.string (s.extract k j))
        simp only [sLA, sL0, sL1] at hb4
        have HTB4 := Lib.hid hb4
        clear hb4
        refine wpAnyH_ready (rs := [7]) (by kernel_rfl) (by simp) ?_
        refine AllReadyH.cons (o := ⟨none, _, _, _, _, _⟩) rfl (fun K hK => ?_) AllReadyH.nil
        go_simp
        refine hK.out _ _ trivial (fun hHeld => ?_)
        clear hK K d1 g1
        try simp only [Act.put, sLA, sL0, sL1]
        generalize d3.setCell ⟨tb, 1, none⟩ (.string (s.extract k j)) = d4 at HS4 HTB4 ⊢
        refine wpAnyH_done (by kernel_rfl) ?_ _
        have t1 : d4.cell? ⟨tb, 1, none⟩ = some (.string (s.extract k j)) := HTB4.out.cell 1
        go_wp2_with fail
        clear t1
        have HLN := Lib.hid (lis_len hlt HX.out (Nat.le_of_lt hj1) hj2)
        refine (x61 (s.extract k j) (by rw [ByteArray.size_extract]; omega) d4).mono ?_
        rintro e w5 ⟨v, r, rfl, hb5, hr1⟩
        have HR1 := Lib.hid hr1
        clear hr1
        have HS5 := Lib.hid (HS4.out.next hb5)
        have HTB5 := Lib.hid (HTB4.out.next hb5)
        clear hb5
        have r0 : w5.cell? ⟨rb, 0, none⟩ = some (.slice none 0 0) := HS5.out.r.cell 0
        have r1 : w5.cell? ⟨rb, 1, none⟩ = some (.int .i64 0) := HS5.out.r.cell 1
        have r2 : w5.cell? ⟨rb, 2, none⟩ = some (.int .i64 0) := HS5.out.r.cell 2
        have f0 := HS5.out.r.frozen 0
        have f1 := HS5.out.r.frozen 1
        have f2 := HS5.out.r.frozen 2
        have hfd : (Instr.field 112 (.agg #[.int .i64 v, .bool r]) 1).run Tryd.prog w5 = .ok (.bool r) w5 := run_field112 v r w5
        cases r with
        | false =>
          go_wp2_with fail
          exact HT.out _ _ _ _ HS5.out (step_digit_err HW.out (fun h => by have := HR1.out h; cases this)) rfl rfl
        | true =>
          go_wp2_with fail
          refine (c56 _ w5).mono ?_
          rintro e _ ⟨rfl, rfl⟩
          cases h1 : sB (((s[j]'hjs).toNat : Int)) with
          | true =>
            go_wp2_with fail
            exact HT.out _ _ _ _ HS5.out (step_digit_err HW.out (fun _ => by rw [nextB_dr _ hjs, h1]; rfl)) rfl rfl
          | false =>
            go_wp2_with fail
            refine (c57 _ w5).mono ?_
            rintro e _ ⟨rfl, rfl⟩
            cases h2 : gB (((s[j]'hjs).toNat : Int)) with
            | true =>
              go_wp2_with fail
              exact HT.out _ _ _ _ HS5.out (step_digit_err HW.out (fun _ => by rw [nextB_dr _ hjs, h2]; simp)) rfl rfl
            | false =>
              go_wp2_with fail
              exact HN.out (j) _ _ _ _ _ _ _ _ _ _ _ _ _ _ _ _ _ _ _ _ _ _ _ _ _ _ _ _ _ _ _ _ _ _ _ _ _ _ _ _ _ _ _ _ _ _ _ _ _ _ _ _ _ _ _ _ _ _ _ _ _ _ _ _ _ _ _ _ _ _ _ _ _ _ _ _ _ _ _ _ _ _ _ _ _ _ _ _ _ _ _ _ _ _ _ _ _ _ _ _ _ _ _ _ _ _ _ _ _ _ _ _ _ _ _ _ _ _ _ _ _ _ _ _ _ _ _ _ _ _ _ _ _ _ _ _ _ _ _ _ _ _ _ _ _ _ _ _ _ _ _ _ _ _ _ _ _ _ _ _ _ _ _ _ _ _ _ _ _ _ _ _ _ _ (by omega) (by omega) (by omega) HS5.out HTB5.out (step_digit_ok HW.out (by rw [nextB_dr _ hjs, h1, h2]; rfl) HLN.out)
    · have hjk : ¬ ((j : Int) < (s.size : Int)) := by omega
      have HW := Lib.hid (step_one hlt HX.out HCL.out hj1 hj2 HAL.out (by rw [show j = s.size by omega]; exact nextB_end _ _))
      have s3 : (k : Int) ≤ (j : Int) := by omega
      clear t1 ft1
      go_upto_region 33 with fail
      have HSd := Lib.hid (show TokSt w0 wr.drew gb rb A c T from ⟨HST.out.g, HST.out.r, HST.out.own, Below.drew HST.out.low, HST.out.gle, HST.out.rle, HST.out.ne⟩)
      have HTBd := Lib.hid (show Blk wr.drew tb 109 #[.int .i64 0, .string ⟨#[]⟩, .int .i64 (k : Int)] from HTB.out)
      refine wp_region_held_drew (S := fun V => True) (by kernel_rfl) trivial (fun hHeld => ?_)
      generalize wr.drew = d at HSd HTBd ⊢
      refine wpAnyH_take (i := 0) (oi := ⟨some 143, _, _, _, _, _⟩) (v := ?_) rfl (by kernel_rfl) (by kernel_rfl) (by kernel_rfl) (fun _ _ _ h => HQ.out _ _ _ _ _ h) (Or.inl ⟨by kernel_rfl, ?_⟩) (by assumption) ?_
      rotate_left
      · intro V hSw
        go_simp
        try with_reducible rfl
      try simp only [Act.put, sLA, sL0, sL1]
      refine wpAnyH_take (i := 1) (oi := ⟨some 144, _, _, _, _, _⟩) (v := ?_) rfl (by kernel_rfl) (by kernel_rfl) (by kernel_rfl) (fun _ _ _ h => HQ.out _ _ _ _ _ h) (Or.inl ⟨by kernel_rfl, ?_⟩) (by assumption) ?_
      rotate_left
      · intro V hSw
        go_simp
        try with_reducible rfl
      try simp only [Act.put, sLA, sL0, sL1]
      refine wpAnyH_take (i := 2) (oi := ⟨some 145, _, _, _, _, _⟩) (v := ?_) rfl (by kernel_rfl) (by kernel_rfl) (by kernel_rfl) (fun _ _ _ h => HQ.out _ _ _ _ _ h) (Or.inl ⟨by kernel_rfl, ?_⟩) (by assumption) ?_
      rotate_left
      · intro V hSw
        go_simp
        try with_reducible rfl
      try simp only [Act.put, sLA, sL0, sL1]
      refine wpAnyH_take (i := 3) (oi := ⟨some 146, _, _, _, _, _⟩) (v := ?_) rfl (by kernel_rfl) (by kernel_rfl) (by kernel_rfl) (fun _ _ _ h => HQ.out _ _ _ _ _ h) (Or.inl ⟨by kernel_rfl, ?_⟩) (by assumption) ?_
      rotate_left
      · intro V hSw
        go_simp
        try with_reducible rfl
      try simp only [Act.put, sLA, sL0, sL1]
      refine wpAnyH_take (i := 4) (oi := ⟨some 147, _, _, _, _, _⟩) (v := ?_) rfl (by kernel_rfl) (by kernel_rfl) (by kernel_rfl) (fun _ _ _ h => HQ.out _ _ _ _ _ h) (Or.inl ⟨by kernel_rfl, ?_⟩) (by assumption) ?_
      rotate_left
      · intro V hSw
        go_simp
        try with_reducible rfl
      try simp only [Act.put, sLA, sL0, sL1]
      have d0 : d.cell? ⟨tb, 0, none⟩ = some (.int .i64 0) := HTBd.out.cell 0
      have g0 := HTBd.out.frozen 0
      have HS3 := Lib.hid (HSd.out.tok HTBd.out HFR.out HTL.out 0 (.int .i64 3))
      have hb3 := HTBd.out.set_ 0 (.int .i64 3)
      simp only [sLA, sL0, sL1] at hb3
      have HTB3 := Lib.hid hb3
      clear hb3
      refine wpAnyH_ready (rs := [5]) (by kernel_rfl) (by simp) ?_
      refine AllReadyH.cons (o := ⟨none, _, _, _, _, _⟩) rfl (fun K hK => ?_) AllReadyH.nil
      go_simp
      refine hK.out _ _ trivial (fun hHeld => ?_)
      clear hK K d0 g0
      try simp only [Act.put, sLA, sL0, sL1]
      generalize d.setCell ⟨tb, 0, none⟩ (.int .i64 3) = d3 at HS3 HTB3 ⊢
      refine wpAnyH_take (i := 6) (oi := ⟨some 148, _, _, _, _, _⟩) (v := ?_) rfl (by kernel_rfl) (by kernel_rfl) (by kernel_rfl) (fun _ _ _ h => HQ.out _ _ _ _ _ h) (Or.inl ⟨by kernel_rfl, ?_⟩) (by assumption) ?_
      rotate_left
      · intro V hSw
        go_simp
        try with_reducible rfl
      try simp only [Act.put, sLA, sL0, sL1]
      have d1 : d3.cell? ⟨tb, 1, none⟩ = some (.string ⟨#[]⟩) := HTB3.out.cell 1
      have g1 := HTB3.out.frozen 1
      have HS4 := Lib.hid (HS3.out.tok HTB3.out HFR.out HTL.out 1 (.string (s.extract k j)))
      have hb4 := HTB3.out.set_ 1 (.string (s.extract k j))
      simp only [sLA, sL0, sL1] at hb4
      have HTB4 := Lib.hid hb4
      clear hb4
      refine wpAnyH_ready (rs := [7]) (by kernel_rfl) (by simp) ?_
      refine AllReadyH.cons (o := ⟨none, _, _, _, _, _⟩) rfl (fun K hK => ?_) AllReadyH.nil
      go_simp
      refine hK.out _ _ trivial (fun hHeld => ?_)
      clear hK K d1 g1
      try simp only [Act.put, sLA, sL0, sL1]
      generalize d3.setCell ⟨tb, 1, none⟩ (.string (s.extract k j)) = d4 at HS4 HTB4 ⊢
      refine wpAnyH_done (by kernel_rfl) ?_ _
      have t1 : d4.cell? ⟨tb, 1, none⟩ = some (.string (s.extract k j)) := HTB4.out.cell 1
      go_wp2_with fail
      clear t1
      have HLN := Lib.hid (lis_len hlt HX.out (Nat.le_of_lt hj1) hj2)
      refine (x61 (s.extract k j) (by rw [ByteArray.size_extract]; omega) d4).mono ?_
      rintro e w5 ⟨v, r, rfl, hb5, hr1⟩
      have HR1 := Lib.hid hr1
      clear hr1
      have HS5 := Lib.hid (HS4.out.next hb5)
      have HTB5 := Lib.hid (HTB4.out.next hb5)
      clear hb5
      have r0 : w5.cell? ⟨rb, 0, none⟩ = some (.slice none 0 0) := HS5.out.r.cell 0
      have r1 : w5.cell? ⟨rb, 1, none⟩ = some (.int .i64 0) := HS5.out.r.cell 1
      have r2 : w5.cell? ⟨rb, 2, none⟩ = some (.int .i64 0) := HS5.out.r.cell 2
      have f0 := HS5.out.r.frozen 0
      have f1 := HS5.out.r.frozen 1
      have f2 := HS5.out.r.frozen 2
      have hfd : (Instr.field 112 (.agg #[.int .i64 v, .bool r]) 1).run Tryd.prog w5 = .ok (.bool r) w5 := run_field112 v r w5
      cases r with
      | false =>
        go_wp2_with fail
        exact HT.out _ _ _ _ HS5.out (step_digit_err HW.out (fun h => by have := HR1.out h; cases this)) rfl rfl
      | true =>
        go_wp2_with fail
        all_goals exact HN.out (j) _ _ _ _ _ _ _ _ _ _ _ _ _ _ _ _ _ _ _ _ _ _ _ _ _ _ _ _ _ _ _ _ _ _ _ _ _ _ _ _ _ _ _ _ _ _ _ _ _ _ _ _ _ _ _ _ _ _ _ _ _ _ _ _ _ _ _ _ _ _ _ _ _ _ _ _ _ _ _ _ _ _ _ _ _ _ _ _ _ _ _ _ _ _ _ _ _ _ _ _ _ _ _ _ _ _ _ _ _ _ _ _ _ _ _ _ _ _ _ _ _ _ _ _ _ _ _ _ _ _ _ _ _ _ _ _ _ _ _ _ _ _ _ _ _ _ _ _ _ _ _ _ _ _ _ _ _ _ _ _ _ _ _ _ _ _ _ _ _ _ _ _ _ _ (by omega) (by omega) (by omega) HS5.out HTB5.out (step_digit_ok HW.out (by rw [show j = s.size by omega]; exact nextB_end _ _) HLN.out)
set_option maxRecDepth 100000 in
set_option maxHeartbeats 16000000 in
theorem xtokQu {u1 u10 u11 u12 u13 u14 u15 u16 u17 u18 u19 u20 u21 u22 u23 u24 u25 u194 u195 u196 u197 u198 u199 u200 u201 u8 u9 u26 u27 u28 u29 u30 u31 u32 u33 u34 u35 u36 u37 u38 u39 u40 u41 u42 u43 u44 u45 u46 u47 u48 u49 u50 u51 u52 u53 u54 u55 u56 u57 u58 u59 u60 u61 u62 u63 u64 u65 u66 u67 u68 u69 u70 u71 u72 u73 u74 u75 u76 u77 u78 u79 u80 u81 u82 u83 u84 u85 u86 u87 u88 u89 u90 u91 u92 u93 u94 u95 u96 u97 u98 u99 u100 u101 u102 u103 u104 u105 u106 u107 u108 u109 u110 u111 u112 u113 u114 u115 u116 u117 u118 u119 u120 u121 u122 u123 u124 u125 u126 u127 u128 u129 u130 u131 u132 u133 u134 u135 u136 u137 u138 u139 u140 u141 u142 u143 u144 u145 u146 u147 u148 u149 u150 u151 u152 u153 u154 u155 u156 u157 u158 u159 u160 u161 u162 u163 u164 u165 u166 u167 u168 u169 u170 u171 u172 u173 u174 u175 u176 u177 u178 u179 u180 u181 u182 u183 u184 u185 u186 u187 u188 u189 u190 u191 u192 u193 : Value} {Q : Exit → Act → World → Prop} (s : ByteArray) (hs : s.size ≤ 3000) (w0 w : World) (gb rb tb k : Nat) (x : Int) (A : Option Addr) (c : Nat) (T : List Tok) (hlt : k < s.size) (hx : ((s[k]'hlt).toNat : Int) = x) (hst : TokSt w0 w gb rb A c T) (hfr : (Value.slice A T.length c).ownBlock ≠ some tb) (htb : Blk w tb 109 #[.int .i64 0, .string ⟨#[]⟩, .int .i64 (k : Int)]) (htl : w0.heap.size ≤ tb)
    (hQ : ∀ c (a : Act) d v w', Q (.panic c) (a.put d v) w' → Q (.panic c) a w')
    (hnorm : ∀ (j : Nat) (J κ : Int) (σ : ByteArray) (w' : World) (v8 v9 v26 v27 v28 v29 v30 v31 v32 v33 v34 v35 v36 v37 v38 v39 v40 v41 v42 v43 v44 v45 v46 v47 v48 v49 v50 v51 v52 v53 v54 v55 v56 v57 v58 v59 v60 v61 v62 v63 v64 v65 v66 v67 v68 v69 v70 v71 v72 v73 v74 v75 v76 v77 v78 v79 v80 v81 v82 v83 v84 v85 v86 v87 v88 v89 v90 v91 v92 v93 v94 v95 v96 v97 v98 v99 v100 v101 v102 v103 v104 v105 v106 v107 v108 v109 v110 v111 v112 v113 v114 v115 v116 v117 v118 v119 v120 v121 v122 v123 v124 v125 v126 v127 v128 v129 v130 v131 v132 v133 v134 v135 v136 v137 v138 v139 v140 v141 v142 v143 v144 v145 v146 v147 v148 v149 v150 v151 v152 v153 v154 v155 v156 v157 v158 v159 v160 v161 v162 v163 v164 v165 v166 v167 v168 v169 v170 v171 v172 v173 v174 v175 v176 v177 v178 v179 v180 v181 v182 v183 v184 v185 v186 v187 v188 v189 v190 v191 v192 v193 : Value), J = (j : Int) → k < j → j ≤ s.size → TokSt w0 w' gb rb A c T → Blk w' tb 109 #[.int .i64 κ, .string σ, .int .i64 (k : Int)] → StepOk (dr s k) (.tok κ (lis σ) (j - k)) → Q .normal ⟨#[.string s, u1, ptr rb, ptr gb, .int .i64 (k : Int), .int .u8 x, .int .i64 J, ptr tb, v8, v9, u10, u11, u12, u13, u14, u15, u16, u17, u18, u19, u20, u21, u22, u23, u24, u25, v26, v27, v28, v29, v30, v31, v32, v33, v34, v35, v36, v37, v38, v39, v40, v41, v42, v43, v44, v45, v46, v47, v48, v49, v50, v51, v52, v53, v54, v55, v56, v57, v58, v59, v60, v61, v62, v63, v64, v65, v66, v67, v68, v69, v70, v71, v72, v73, v74, v75, v76, v77, v78, v79, v80, v81, v82, v83, v84, v85, v86, v87, v88, v89, v90, v91, v92, v93, v94, v95, v96, v97, v98, v99, v100, v101, v102, v103, v104, v105, v106, v107, v108, v109, v110, v111, v112, v113, v114, v115, v116, v117, v118, v119, v120, v121, v122, v123, v124, v125, v126, v127, v128, v129, v130, v131, v132, v133, v134, v135, v136, v137, v138, v139, v140, v141, v142, v143, v144, v145, v146, v147, v148, v149, v150, v151, v152, v153, v154, v155, v156, v157, v158, v159, v160, v161, v162, v163, v164, v165, v166, v167, v168, v169, v170, v171, v172, v173, v174, v175, v176, v177, v178, v179, v180, v181, v182, v183, v184, v185, v186, v187, v188, v189, v190, v191, v192, v193, u194, u195, u196, u197, u198, u199, u200, u201], []⟩ w')
    (hcont : ∀ (j : Nat) (J : Int) (w' : World) (v6 v8 v9 v26 v27 v28 v29 v30 v31 v32 v33 v34 v35 v36 v37 v38 v39 v40 v41 v42 v43 v44 v45 v46 v47 v48 v49 v50 v51 v52 v53 v54 v55 v56 v57 v58 v59 v60 v61 v62 v63 v64 v65 v66 v67 v68 v69 v70 v71 v72 v73 v74 v75 v76 v77 v78 v79 v80 v81 v82 v83 v84 v85 v86 v87 v88 v89 v90 v91 v92 v93 v94 v95 v96 v97 v98 v99 v100 v101 v102 v103 v104 v105 v106 v107 v108 v109 v110 v111 v112 v113 v114 v115 v116 v117 v118 v119 v120 v121 v122 v123 v124 v125 v126 v127 v128 v129 v130 v131 v132 v133 v134 v135 v136 v137 v138 v139 v140 v141 v142 v143 v144 v145 v146 v147 v148 v149 v150 v151 v152 v153 v154 v155 v156 v157 v158 v159 v160 v161 v162 v163 v164 v165 v166 v167 v168 v169 v170 v171 v172 v173 v174 v175 v176 v177 v178 v179 v180 v181 v182 v183 v184 v185 v186 v187 v188 v189 v190 v191 v192 v193 : Value), J = (j : Int) → k < j → j ≤ s.size → TokSt w0 w' gb rb A c T → StepOk (dr s k) (.skip (j - k)) → Q (.exit 1) ⟨#[.string s, u1, ptr rb, ptr gb, .int .i64 J, .int .u8 x, v6, ptr tb, v8, v9, u10, u11, u12, u13, u14, u15, u16, u17, u18, u19, u20, u21, u22, u23, u24, u25, v26, v27, v28, v29, v30, v31, v32, v33, v34, v35, v36, v37, v38, v39, v40, v41, v42, v43, v44, v45, v46, v47, v48, v49, v50, v51, v52, v53, v54, v55, v56, v57, v58, v59, v60, v61, v62, v63, v64, v65, v66, v67, v68, v69, v70, v71, v72, v73, v74, v75, v76, v77, v78, v79, v80, v81, v82, v83, v84, v85, v86, v87, v88, v89, v90, v91, v92, v93, v94, v95, v96, v97, v98, v99, v100, v101, v102, v103, v104, v105, v106, v107, v108, v109, v110, v111, v112, v113, v114, v115, v116, v117, v118, v119, v120, v121, v122, v123, v124, v125, v126, v127, v128, v129, v130, v131, v132, v133, v134, v135, v136, v137, v138, v139, v140, v141, v142, v143, v144, v145, v146, v147, v148, v149, v150, v151, v152, v153, v154, v155, v156, v157, v158, v159, v160, v161, v162, v163, v164, v165, v166, v167, v168, v169, v170, v171, v172, v173, v174, v175, v176, v177, v178, v179, v180, v181, v182, v183, v184, v185, v186, v187, v188, v189, v190, v191, v192, v193, u194, u195, u196, u197, u198, u199, u200, u201], []⟩ w')
    (hret : ∀ (a : Act) (X Y : Int) (w' : World), TokSt w0 w' gb rb A c T → StepOk (dr s k) .err → a.defers = [] → a.tmps.getD 2 undef = ptr rb → Q .ret a (((w'.setCell ⟨rb, 0, none⟩ (.slice none 0 0)).setCell ⟨rb, 1, none⟩ (.int .i64 X)).setCell ⟨rb, 2, none⟩ (.int .i64 Y))) (hc : x = 34) :
    Code.wp Tryd.prog (block43 2) Q ⟨#[.string s, u1, ptr rb, ptr gb, .int .i64 (k : Int), .int .u8 x, .int .i64 ((k : Int) + 1), ptr tb, u8, u9, u10, u11, u12, u13, u14, u15, u16, u17, u18, u19, u20, u21, u22, u23, u24, u25, u26, u27, u28, u29, u30, u31, u32, u33, u34, u35, u36, u37, u38, u39, u40, u41, u42, u43, u44, u45, u46, u47, u48, u49, u50, u51, u52, u53, u54, u55, u56, u57, u58, u59, u60, u61, u62, u63, u64, u65, u66, u67, u68, u69, u70, u71, u72, u73, u74, u75, u76, u77, u78, u79, u80, u81, u82, u83, u84, u85, u86, u87, u88, u89, u90, u91, u92, u93, u94, u95, u96, u97, u98, u99, u100, u101, u102, u103, u104, u105, u106, u107, u108, u109, u110, u111, u112, u113, u114, u115, u116, u117, u118, u119, u120, u121, u122, u123, u124, u125, u126, u127, u128, u129, u130, u131, u132, u133, u134, u135, u136, u137, u138, u139, u140, u141, u142, u143, u144, u145, u146, u147, u148, u149, u150, u151, u152, u153, u154, u155, u156, u157, u158, u159, u160, u161, u162, u163, u164, u165, u166, u167, u168, u169, u170, u171, u172, u173, u174, u175, u176, u177, u178, u179, u180, u181, u182, u183, u184, u185, u186, u187, u188, u189, u190, u191, u192, u193, u194, u195, u196, u197, u198, u199, u200, u201], []⟩ w := by
  have HN := Lib.hid hnorm
  have HQ := Lib.hid hQ
  clear hQ
  have HC := Lib.hid hcont
  have HT := Lib.hid hret
  have HST := Lib.hid hst
  have HFR := Lib.hid hfr
  have HTB := Lib.hid htb
  have HTL := Lib.hid htl
  have HX := Lib.hid hx
  clear hnorm hcont hret hst hfr htb htl hx
  have hlk : (k : Int) < (s.size : Int) := by omega
  have hk0 : (0 : Int) ≤ (k : Int) := by omega
  conv => arg 2; whnf
  subst hc
  have s2 : (k : Int) ≤ (s.size : Int) := by omega
  have hsb : sB 34 = false := rfl
  have hgb : gB 34 = false := rfl
  have hdb : dB 34 = false := rfl
  go_wp2_with fail
  refine (c56 34 w).mono ?_
  rintro e _ ⟨he, rfl⟩
  rw [hsb] at he
  subst he
  clear hsb
  go_wp2_with fail
  refine (c57 34 w).mono ?_
  rintro e _ ⟨he, rfl⟩
  rw [hgb] at he
  subst he
  clear hgb
  go_wp2_with fail
  refine (c60 34 w).mono ?_
  rintro e _ ⟨he, rfl⟩
  rw [hdb] at he
  subst he
  clear hdb
  go_wp2_with fail
  have hex : s.extract k s.size = s.extract k s.size := rfl
  refine (c62 (s.extract k s.size) (by rw [ByteArray.size_extract]; omega) (by rw [ByteArray.size_extract]; omega) w).mono ?_
  rintro e w5 ⟨qs, n, rfl, hn, hb5⟩
  have hn2 : k + n ≤ s.size := by rw [ByteArray.size_extract] at hn; omega
  have HS5 := Lib.hid (HST.out.next hb5)
  have HTB5 := Lib.hid (HTB.out.next hb5)
  have hX := Blk.new w5 115 #[.string qs, .int .i64 (n : Int)]
  have hb8 := below_new w5 (.cells #[.string qs, .int .i64 (n : Int)] 115)
  have HS8 := Lib.hid (HS5.out.next hb8)
  have HTB8 := Lib.hid (HTB5.out.next hb8)
  generalize hw8 : w5.alloc (.cells #[.string qs, .int .i64 (n : Int)] 115) = w8 at hX hb8 HS8 HTB8
  have HXB8 := Lib.hid hX
  clear hX hb8 hb5 hn
  go_upto_region 38 with fail
  clear hw8
  generalize w5.heap.size = xb at HXB8 ⊢
  have x1 : w8.cell? ⟨xb, 1, none⟩ = some (.int .i64 (n : Int)) := HXB8.out.cell 1
  have r0 : w8.cell? ⟨rb, 0, none⟩ = some (.slice none 0 0) := HS8.out.r.cell 0
  have r1 : w8.cell? ⟨rb, 1, none⟩ = some (.int .i64 0) := HS8.out.r.cell 1
  have r2 : w8.cell? ⟨rb, 2, none⟩ = some (.int .i64 0) := HS8.out.r.cell 2
  have f0 := HS8.out.r.frozen 0
  have f1 := HS8.out.r.frozen 1
  have f2 := HS8.out.r.frozen 2
  by_cases hn0 : n = 0
  · have hz : ((n : Int) == 0) = true := beq_iff_eq.2 (by omega)
    go_wp2_with fail
    exact HT.out _ _ _ _ HS8.out (step_quote hlt HX.out rfl _ (fun _ _ h => by cases h)) rfl rfl
  · have hz : ((n : Int) == 0) = false := beq_false_of_ne (by omega)
    have hw : wrap64 ((k : Int) + (n : Int)) = (k : Int) + (n : Int) := by unfold wrap64; omega
    have hw2 : IntKind.i64.wrap ((k : Int) + (n : Int)) = (k : Int) + (n : Int) := IntWalk.i64_in _ (by omega)
    go_upto_region 40 with fail
    clear x1 r0 r1 r2 f0 f1 f2
    have HSd := Lib.hid (show TokSt w0 w8.drew gb rb A c T from ⟨HS8.out.g, HS8.out.r, HS8.out.own, Below.drew HS8.out.low, HS8.out.gle, HS8.out.rle, HS8.out.ne⟩)
    have HTBd := Lib.hid (show Blk w8.drew tb 109 #[.int .i64 0, .string ⟨#[]⟩, .int .i64 (k : Int)] from HTB8.out)
    have HXBd := Lib.hid (show Blk w8.drew xb 115 #[.string qs, .int .i64 (n : Int)] from HXB8.out)
    refine wp_region_held_drew (S := fun V => V.cell? ⟨xb, 0, none⟩ = some (.string qs) ∧ V.cell? ⟨xb, 1, none⟩ = some (.int .i64 (n : Int))) (by kernel_rfl) ⟨HXBd.out.cell 0, HXBd.out.cell 1⟩ (fun hHeld => ?_)
    generalize w8.drew = d at HSd HTBd HXBd hHeld ⊢
    refine wpAnyH_take (i := 0) (oi := ⟨some 186, _, _, _, _, _⟩) (v := ?_) rfl (by kernel_rfl) (by kernel_rfl) (by kernel_rfl) (fun _ _ _ h => HQ.out _ _ _ _ _ h) (Or.inl ⟨by kernel_rfl, ?_⟩) (by assumption) ?_
    rotate_left
    · rintro V ⟨z0, z1⟩; go_simp; try with_reducible rfl
    try simp only [Act.put, sLA, sL0, sL1]
    refine wpAnyH_take (i := 1) (oi := ⟨some 187, _, _, _, _, _⟩) (v := ?_) rfl (by kernel_rfl) (by kernel_rfl) (by kernel_rfl) (fun _ _ _ h => HQ.out _ _ _ _ _ h) (Or.inl ⟨by kernel_rfl, ?_⟩) (by assumption) ?_
    rotate_left
    · rintro V ⟨z0, z1⟩; go_simp; try with_reducible rfl
    try simp only [Act.put, sLA, sL0, sL1]
    refine wpAnyH_take (i := 2) (oi := ⟨some 188, _, _, _, _, _⟩) (v := ?_) rfl (by kernel_rfl) (by kernel_rfl) (by kernel_rfl) (fun _ _ _ h => HQ.out _ _ _ _ _ h) (Or.inl ⟨by kernel_rfl, ?_⟩) (by assumption) ?_
    rotate_left
    · rintro V ⟨z0, z1⟩; go_simp; try with_reducible rfl
    try simp only [Act.put, sLA, sL0, sL1]
    refine wpAnyH_take (i := 3) (oi := ⟨some 189, _, _, _, _, _⟩) (v := ?_) rfl (by kernel_rfl) (by kernel_rfl) (by kernel_rfl) (fun _ _ _ h => HQ.out _ _ _ _ _ h) (Or.inl ⟨by kernel_rfl, ?_⟩) (by assumption) ?_
    rotate_left
    · rintro V ⟨z0, z1⟩; go_simp; try with_reducible rfl
    try simp only [Act.put, sLA, sL0, sL1]
    refine wpAnyH_take (i := 4) (oi := ⟨some 190, _, _, _, _, _⟩) (v := ?_) rfl (by kernel_rfl) (by kernel_rfl) (by kernel_rfl) (fun _ _ _ h => HQ.out _ _ _ _ _ h) (Or.inl ⟨by kernel_rfl, ?_⟩) (by assumption) ?_
    rotate_left
    · rintro V ⟨z0, z1⟩; go_simp; try with_reducible rfl
    try simp only [Act.put, sLA, sL0, sL1]
    refine wpAnyH_take (i := 5) (oi := ⟨some 191, _, _, _, _, _⟩) (v := ?_) rfl (by kernel_rfl) (by kernel_rfl) (by kernel_rfl) (fun _ _ _ h => HQ.out _ _ _ _ _ h) (Or.inl ⟨by kernel_rfl, ?_⟩) (by assumption) ?_
    rotate_left
    · rintro V ⟨z0, z1⟩; go_simp; try with_reducible rfl
    try simp only [Act.put, sLA, sL0, sL1]
    refine wpAnyH_take (i := 6) (oi := ⟨some 192, _, _, _, _, _⟩) (v := ?_) rfl (by kernel_rfl) (by kernel_rfl) (by kernel_rfl) (fun _ _ _ h => HQ.out _ _ _ _ _ h) (Or.inl ⟨by kernel_rfl, ?_⟩) (by assumption) ?_
    rotate_left
    · rintro V ⟨z0, z1⟩; go_simp; try with_reducible rfl
    try simp only [Act.put, sLA, sL0, sL1]
    have d0 : d.cell? ⟨tb, 0, none⟩ = some (.int .i64 0) := HTBd.out.cell 0
    have g0 := HTBd.out.frozen 0
    have HS3 := Lib.hid (HSd.out.tok HTBd.out HFR.out HTL.out 0 (.int .i64 4))
    have HXB3 := Lib.hid (HXBd.out.far (p := ⟨tb, 0, none⟩) (HXBd.out.ne_ HTBd.out (by decide)) (.int .i64 4))
    have hb3 := HTBd.out.set_ 0 (.int .i64 4)
    simp only [sLA, sL0, sL1] at hb3
    have HTB3 := Lib.hid hb3
    clear hb3
    refine wpAnyH_ready (rs := [7]) (by kernel_rfl) (by simp) ?_
    refine AllReadyH.cons (o := ⟨none, _, _, _, _, _⟩) rfl (fun K hK => ?_) AllReadyH.nil
    go_simp
    refine hK.out _ _ ⟨HXB3.out.cell 0, HXB3.out.cell 1⟩ (fun hHeld => ?_)
    clear hK K d0 g0
    try simp only [Act.put, sLA, sL0, sL1]
    generalize d.setCell ⟨tb, 0, none⟩ (.int .i64 4) = d3 at HS3 HTB3 HXB3 hHeld ⊢
    refine wpAnyH_take (i := 8) (oi := ⟨some 193, _, _, _, _, _⟩) (v := ?_) rfl (by kernel_rfl) (by kernel_rfl) (by kernel_rfl) (fun _ _ _ h => HQ.out _ _ _ _ _ h) (Or.inl ⟨by kernel_rfl, ?_⟩) (by assumption) ?_
    rotate_left
    · rintro V ⟨z0, z1⟩; go_simp; try with_reducible rfl
    try simp only [Act.put, sLA, sL0, sL1]
    have d1 : d3.cell? ⟨tb, 1, none⟩ = some (.string ⟨#[]⟩) := HTB3.out.cell 1
    have g1 := HTB3.out.frozen 1
    have HS4 := Lib.hid (HS3.out.tok HTB3.out HFR.out HTL.out 1 (.string qs))
    have HXB4 := Lib.hid (HXB3.out.far (p := ⟨tb, 1, none⟩) (HXB3.out.ne_ HTB3.out (by decide)) (.string qs))
    have hb4 := HTB3.out.set_ 1 (.string qs)
    simp only [sLA, sL0, sL1] at hb4
    have HTB4 := Lib.hid hb4
    clear hb4
    refine wpAnyH_ready (rs := [9]) (by kernel_rfl) (by simp) ?_
    refine AllReadyH.cons (o := ⟨none, _, _, _, _, _⟩) rfl (fun K hK => ?_) AllReadyH.nil
    go_simp
    refine hK.out _ _ ⟨HXB4.out.cell 0, HXB4.out.cell 1⟩ (fun hHeld => ?_)
    clear hK K d1 g1
    try simp only [Act.put, sLA, sL0, sL1]
    generalize d3.setCell ⟨tb, 1, none⟩ (.string qs) = d4 at HS4 HTB4 HXB4 hHeld ⊢
    refine wpAnyH_take (i := 10) (oi := ⟨some 6, _, _, _, _, _⟩) (v := ?_) rfl (by kernel_rfl) (by kernel_rfl) (by kernel_rfl) (fun _ _ _ h => HQ.out _ _ _ _ _ h) (Or.inl ⟨by kernel_rfl, ?_⟩) (by assumption) ?_
    rotate_left
    · rintro V ⟨z0, z1⟩; go_simp; try with_reducible rfl
    try simp only [Act.put, sLA, sL0, sL1]
    refine wpAnyH_done (by kernel_rfl) ?_ _
    exact HN.out (k + n) _ _ _ _ _ _ _ _ _ _ _ _ _ _ _ _ _ _ _ _ _ _ _ _ _ _ _ _ _ _ _ _ _ _ _ _ _ _ _ _ _ _ _ _ _ _ _ _ _ _ _ _ _ _ _ _ _ _ _ _ _ _ _ _ _ _ _ _ _ _ _ _ _ _ _ _ _ _ _ _ _ _ _ _ _ _ _ _ _ _ _ _ _ _ _ _ _ _ _ _ _ _ _ _ _ _ _ _ _ _ _ _ _ _ _ _ _ _ _ _ _ _ _ _ _ _ _ _ _ _ _ _ _ _ _ _ _ _ _ _ _ _ _ _ _ _ _ _ _ _ _ _ _ _ _ _ _ _ _ _ _ _ _ _ _ _ _ _ _ _ _ _ _ _ (by omega) (by omega) (by omega) HS4.out HTB4.out (step_quote hlt HX.out rfl _ (fun _ _ h => by cases h))
set_option maxRecDepth 100000 in
set_option maxHeartbeats 16000000 in
theorem xtokSi {u1 u10 u11 u12 u13 u14 u15 u16 u17 u18 u19 u20 u21 u22 u23 u24 u25 u194 u195 u196 u197 u198 u199 u200 u201 u8 u9 u26 u27 u28 u29 u30 u31 u32 u33 u34 u35 u36 u37 u38 u39 u40 u41 u42 u43 u44 u45 u46 u47 u48 u49 u50 u51 u52 u53 u54 u55 u56 u57 u58 u59 u60 u61 u62 u63 u64 u65 u66 u67 u68 u69 u70 u71 u72 u73 u74 u75 u76 u77 u78 u79 u80 u81 u82 u83 u84 u85 u86 u87 u88 u89 u90 u91 u92 u93 u94 u95 u96 u97 u98 u99 u100 u101 u102 u103 u104 u105 u106 u107 u108 u109 u110 u111 u112 u113 u114 u115 u116 u117 u118 u119 u120 u121 u122 u123 u124 u125 u126 u127 u128 u129 u130 u131 u132 u133 u134 u135 u136 u137 u138 u139 u140 u141 u142 u143 u144 u145 u146 u147 u148 u149 u150 u151 u152 u153 u154 u155 u156 u157 u158 u159 u160 u161 u162 u163 u164 u165 u166 u167 u168 u169 u170 u171 u172 u173 u174 u175 u176 u177 u178 u179 u180 u181 u182 u183 u184 u185 u186 u187 u188 u189 u190 u191 u192 u193 : Value} {Q : Exit → Act → World → Prop} (s : ByteArray) (hs : s.size ≤ 3000) (w0 w : World) (gb rb tb k : Nat) (x : Int) (A : Option Addr) (c : Nat) (T : List Tok) (hlt : k < s.size) (hx : ((s[k]'hlt).toNat : Int) = x) (hst : TokSt w0 w gb rb A c T) (hfr : (Value.slice A T.length c).ownBlock ≠ some tb) (htb : Blk w tb 109 #[.int .i64 0, .string ⟨#[]⟩, .int .i64 (k : Int)]) (htl : w0.heap.size ≤ tb)
    (hQ : ∀ c (a : Act) d v w', Q (.panic c) (a.put d v) w' → Q (.panic c) a w')
    (hnorm : ∀ (j : Nat) (J κ : Int) (σ : ByteArray) (w' : World) (v8 v9 v26 v27 v28 v29 v30 v31 v32 v33 v34 v35 v36 v37 v38 v39 v40 v41 v42 v43 v44 v45 v46 v47 v48 v49 v50 v51 v52 v53 v54 v55 v56 v57 v58 v59 v60 v61 v62 v63 v64 v65 v66 v67 v68 v69 v70 v71 v72 v73 v74 v75 v76 v77 v78 v79 v80 v81 v82 v83 v84 v85 v86 v87 v88 v89 v90 v91 v92 v93 v94 v95 v96 v97 v98 v99 v100 v101 v102 v103 v104 v105 v106 v107 v108 v109 v110 v111 v112 v113 v114 v115 v116 v117 v118 v119 v120 v121 v122 v123 v124 v125 v126 v127 v128 v129 v130 v131 v132 v133 v134 v135 v136 v137 v138 v139 v140 v141 v142 v143 v144 v145 v146 v147 v148 v149 v150 v151 v152 v153 v154 v155 v156 v157 v158 v159 v160 v161 v162 v163 v164 v165 v166 v167 v168 v169 v170 v171 v172 v173 v174 v175 v176 v177 v178 v179 v180 v181 v182 v183 v184 v185 v186 v187 v188 v189 v190 v191 v192 v193 : Value), J = (j : Int) → k < j → j ≤ s.size → TokSt w0 w' gb rb A c T → Blk w' tb 109 #[.int .i64 κ, .string σ, .int .i64 (k : Int)] → StepOk (dr s k) (.tok κ (lis σ) (j - k)) → Q .normal ⟨#[.string s, u1, ptr rb, ptr gb, .int .i64 (k : Int), .int .u8 x, .int .i64 J, ptr tb, v8, v9, u10, u11, u12, u13, u14, u15, u16, u17, u18, u19, u20, u21, u22, u23, u24, u25, v26, v27, v28, v29, v30, v31, v32, v33, v34, v35, v36, v37, v38, v39, v40, v41, v42, v43, v44, v45, v46, v47, v48, v49, v50, v51, v52, v53, v54, v55, v56, v57, v58, v59, v60, v61, v62, v63, v64, v65, v66, v67, v68, v69, v70, v71, v72, v73, v74, v75, v76, v77, v78, v79, v80, v81, v82, v83, v84, v85, v86, v87, v88, v89, v90, v91, v92, v93, v94, v95, v96, v97, v98, v99, v100, v101, v102, v103, v104, v105, v106, v107, v108, v109, v110, v111, v112, v113, v114, v115, v116, v117, v118, v119, v120, v121, v122, v123, v124, v125, v126, v127, v128, v129, v130, v131, v132, v133, v134, v135, v136, v137, v138, v139, v140, v141, v142, v143, v144, v145, v146, v147, v148, v149, v150, v151, v152, v153, v154, v155, v156, v157, v158, v159, v160, v161, v162, v163, v164, v165, v166, v167, v168, v169, v170, v171, v172, v173, v174, v175, v176, v177, v178, v179, v180, v181, v182, v183, v184, v185, v186, v187, v188, v189, v190, v191, v192, v193, u194, u195, u196, u197, u198, u199, u200, u201], []⟩ w')
    (hcont : ∀ (j : Nat) (J : Int) (w' : World) (v6 v8 v9 v26 v27 v28 v29 v30 v31 v32 v33 v34 v35 v36 v37 v38 v39 v40 v41 v42 v43 v44 v45 v46 v47 v48 v49 v50 v51 v52 v53 v54 v55 v56 v57 v58 v59 v60 v61 v62 v63 v64 v65 v66 v67 v68 v69 v70 v71 v72 v73 v74 v75 v76 v77 v78 v79 v80 v81 v82 v83 v84 v85 v86 v87 v88 v89 v90 v91 v92 v93 v94 v95 v96 v97 v98 v99 v100 v101 v102 v103 v104 v105 v106 v107 v108 v109 v110 v111 v112 v113 v114 v115 v116 v117 v118 v119 v120 v121 v122 v123 v124 v125 v126 v127 v128 v129 v130 v131 v132 v133 v134 v135 v136 v137 v138 v139 v140 v141 v142 v143 v144 v145 v146 v147 v148 v149 v150 v151 v152 v153 v154 v155 v156 v157 v158 v159 v160 v161 v162 v163 v164 v165 v166 v167 v168 v169 v170 v171 v172 v173 v174 v175 v176 v177 v178 v179 v180 v181 v182 v183 v184 v185 v186 v187 v188 v189 v190 v191 v192 v193 : Value), J = (j : Int) → k < j → j ≤ s.size → TokSt w0 w' gb rb A c T → StepOk (dr s k) (.skip (j - k)) → Q (.exit 1) ⟨#[.string s, u1, ptr rb, ptr gb, .int .i64 J, .int .u8 x, v6, ptr tb, v8, v9, u10, u11, u12, u13, u14, u15, u16, u17, u18, u19, u20, u21, u22, u23, u24, u25, v26, v27, v28, v29, v30, v31, v32, v33, v34, v35, v36, v37, v38, v39, v40, v41, v42, v43, v44, v45, v46, v47, v48, v49, v50, v51, v52, v53, v54, v55, v56, v57, v58, v59, v60, v61, v62, v63, v64, v65, v66, v67, v68, v69, v70, v71, v72, v73, v74, v75, v76, v77, v78, v79, v80, v81, v82, v83, v84, v85, v86, v87, v88, v89, v90, v91, v92, v93, v94, v95, v96, v97, v98, v99, v100, v101, v102, v103, v104, v105, v106, v107, v108, v109, v110, v111, v112, v113, v114, v115, v116, v117, v118, v119, v120, v121, v122, v123, v124, v125, v126, v127, v128, v129, v130, v131, v132, v133, v134, v135, v136, v137, v138, v139, v140, v141, v142, v143, v144, v145, v146, v147, v148, v149, v150, v151, v152, v153, v154, v155, v156, v157, v158, v159, v160, v161, v162, v163, v164, v165, v166, v167, v168, v169, v170, v171, v172, v173, v174, v175, v176, v177, v178, v179, v180, v181, v182, v183, v184, v185, v186, v187, v188, v189, v190, v191, v192, v193, u194, u195, u196, u197, u198, u199, u200, u201], []⟩ w')
    (hret : ∀ (a : Act) (X Y : Int) (w' : World), TokSt w0 w' gb rb A c T → StepOk (dr s k) .err → a.defers = [] → a.tmps.getD 2 undef = ptr rb → Q .ret a (((w'.setCell ⟨rb, 0, none⟩ (.slice none 0 0)).setCell ⟨rb, 1, none⟩ (.int .i64 X)).setCell ⟨rb, 2, none⟩ (.int .i64 Y))) (hc : x ≠ 32 ∧ x ≠ 9 ∧ x ≠ 10 ∧ x ≠ 35 ∧ x ≠ 95 ∧ x ≠ 34 ∧ ¬ (97 ≤ x ∧ x ≤ 122) ∧ ¬ (65 ≤ x ∧ x ≤ 90) ∧ ¬ (48 ≤ x ∧ x ≤ 57)) :
    Code.wp Tryd.prog (block43 2) Q ⟨#[.string s, u1, ptr rb, ptr gb, .int .i64 (k : Int), .int .u8 x, .int .i64 ((k : Int) + 1), ptr tb, u8, u9, u10, u11, u12, u13, u14, u15, u16, u17, u18, u19, u20, u21, u22, u23, u24, u25, u26, u27, u28, u29, u30, u31, u32, u33, u34, u35, u36, u37, u38, u39, u40, u41, u42, u43, u44, u45, u46, u47, u48, u49, u50, u51, u52, u53, u54, u55, u56, u57, u58, u59, u60, u61, u62, u63, u64, u65, u66, u67, u68, u69, u70, u71, u72, u73, u74, u75, u76, u77, u78, u79, u80, u81, u82, u83, u84, u85, u86, u87, u88, u89, u90, u91, u92, u93, u94, u95, u96, u97, u98, u99, u100, u101, u102, u103, u104, u105, u106, u107, u108, u109, u110, u111, u112, u113, u114, u115, u116, u117, u118, u119, u120, u121, u122, u123, u124, u125, u126, u127, u128, u129, u130, u131, u132, u133, u134, u135, u136, u137, u138, u139, u140, u141, u142, u143, u144, u145, u146, u147, u148, u149, u150, u151, u152, u153, u154, u155, u156, u157, u158, u159, u160, u161, u162, u163, u164, u165, u166, u167, u168, u169, u170, u171, u172, u173, u174, u175, u176, u177, u178, u179, u180, u181, u182, u183, u184, u185, u186, u187, u188, u189, u190, u191, u192, u193, u194, u195, u196, u197, u198, u199, u200, u201], []⟩ w := by
  have HN := Lib.hid hnorm
  have HQ := Lib.hid hQ
  clear hQ
  have HC := Lib.hid hcont
  have HT := Lib.hid hret
  have HST := Lib.hid hst
  have HFR := Lib.hid hfr
  have HTB := Lib.hid htb
  have HTL := Lib.hid htl
  have HX := Lib.hid hx
  clear hnorm hcont hret hst hfr htb htl hx
  have hlk : (k : Int) < (s.size : Int) := by omega
  have hk0 : (0 : Int) ≤ (k : Int) := by omega
  conv => arg 2; whnf
  obtain ⟨n1, n2, n3, n4, n5, n6, n7, n8, n9⟩ := hc
  have e32 : (x == 32) = false := beq_false_of_ne n1
  have e9 : (x == 9) = false := beq_false_of_ne n2
  have e10 : (x == 10) = false := beq_false_of_ne n3
  have e35 : (x == 35) = false := beq_false_of_ne n4
  have e95 : (x == 95) = false := beq_false_of_ne n5
  have e34 : (x == 34) = false := beq_false_of_ne n6
  have hsb : sB x = false := by
    unfold sB
    rw [e95]
    by_cases h1 : 97 ≤ x
    · rw [decide_eq_false (show ¬ x ≤ 122 from fun h => n7 ⟨h1, h⟩)]; simp
    · rw [decide_eq_false h1]; rfl
  have hgb : gB x = false := by
    unfold gB
    by_cases h1 : 65 ≤ x
    · rw [decide_eq_false (show ¬ x ≤ 90 from fun h => n8 ⟨h1, h⟩)]; simp
    · rw [decide_eq_false h1]; rfl
  have hdb : dB x = false := by
    unfold dB
    by_cases h1 : 48 ≤ x
    · rw [decide_eq_false (show ¬ x ≤ 57 from fun h => n9 ⟨h1, h⟩)]; simp
    · rw [decide_eq_false h1]; rfl
  have HSG := Lib.hid (show SignStep s k from fun n hn => step_sign hlt HX.out (by omega) n4 (by rw [hsb, hgb]; rfl) hdb n6 hn)
  clear n1 n2 n3 n4 n5 n6 n7 n8 n9
  go_wp2_with fail
  refine (c56 x w).mono ?_
  rintro e _ ⟨he, rfl⟩
  rw [hsb] at he
  subst he
  clear hsb
  go_wp2_with fail
  refine (c57 x w).mono ?_
  rintro e _ ⟨he, rfl⟩
  rw [hgb] at he
  subst he
  clear hgb
  go_wp2_with fail
  refine (c60 x w).mono ?_
  rintro e _ ⟨he, rfl⟩
  rw [hdb] at he
  subst he
  clear hdb
  go_wp2_with fail
  have s2 : (k : Int) ≤ (s.size : Int) := by omega
  have hx63 := x63 (s.extract k s.size) (by rw [ByteArray.size_extract]; omega) (by rw [ByteArray.size_extract]; omega) w
  obtain ⟨n, hgn⟩ : ∃ n, n = signN (lis (s.extract k s.size)) := ⟨_, rfl⟩
  rw [← hgn] at hx63
  have hn : n ≤ (s.extract k s.size).size := by rw [hgn]; exact signN_le _
  have HW := Lib.hid (HSG.out n hgn)
  clear hgn
  refine hx63.mono ?_
  rintro e w5 ⟨rfl, hb5⟩
  clear hx63
  have hn2 : k + n ≤ s.size := by rw [ByteArray.size_extract] at hn; omega
  have HS5 := Lib.hid (HST.out.next hb5)
  have HTB5 := Lib.hid (HTB.out.next hb5)
  clear hb5 hn HST HTB
  have HST := HS5
  have HTB := HTB5
  clear HS5 HTB5
  have r0 : w5.cell? ⟨rb, 0, none⟩ = some (.slice none 0 0) := HST.out.r.cell 0
  have r1 : w5.cell? ⟨rb, 1, none⟩ = some (.int .i64 0) := HST.out.r.cell 1
  have r2 : w5.cell? ⟨rb, 2, none⟩ = some (.int .i64 0) := HST.out.r.cell 2
  have f0 := HST.out.r.frozen 0
  have f1 := HST.out.r.frozen 1
  have f2 := HST.out.r.frozen 2
  by_cases hn0 : n = 0
  · have hz : ((n : Int) == 0) = true := beq_iff_eq.2 (by omega)
    go_wp2_with fail
    exact HT.out _ _ _ _ HST.out (.inl (by rw [HW.out, if_pos hn0])) rfl rfl
  · have hz : ((n : Int) == 0) = false := beq_false_of_ne (by omega)
    have hw : wrap64 ((k : Int) + (n : Int)) = (k : Int) + (n : Int) := by unfold wrap64; omega
    obtain ⟨j, hj⟩ : ∃ j : Nat, (k : Int) + (n : Int) = (j : Int) := ⟨k + n, by omega⟩
    rw [hj] at hw
    have HJN := Lib.hid (show k + n = j by omega)
    have HN0 := Lib.hid hn0
    have hkj : k < j := by omega
    have hjs : j ≤ s.size := by omega
    have i1 : (k : Int) ≤ (j : Int) := by omega
    have i2 : (j : Int) ≤ (s.size : Int) := by omega
    clear r0 r1 r2 f0 f1 f2
    go_upto_region 13 with fail
    have HSd := Lib.hid (show TokSt w0 w5.drew gb rb A c T from ⟨HST.out.g, HST.out.r, HST.out.own, Below.drew HST.out.low, HST.out.gle, HST.out.rle, HST.out.ne⟩)
    have HTBd := Lib.hid (show Blk w5.drew tb 109 #[.int .i64 0, .string ⟨#[]⟩, .int .i64 (k : Int)] from HTB.out)
    refine wp_region_held_drew (S := fun V => True) (by kernel_rfl) trivial (fun hHeld => ?_)
    generalize w5.drew = d at HSd HTBd ⊢
    refine wpAnyH_take (i := 0) (oi := ⟨some 37, _, _, _, _, _⟩) (v := ?_) rfl (by kernel_rfl) (by kernel_rfl) (by kernel_rfl) (fun _ _ _ h => HQ.out _ _ _ _ _ h) (Or.inl ⟨by kernel_rfl, ?_⟩) (by assumption) ?_
    rotate_left
    · intro V hSw
      go_simp
      try with_reducible rfl
    try simp only [Act.put, sLA, sL0, sL1]
    refine wpAnyH_take (i := 1) (oi := ⟨some 38, _, _, _, _, _⟩) (v := ?_) rfl (by kernel_rfl) (by kernel_rfl) (by kernel_rfl) (fun _ _ _ h => HQ.out _ _ _ _ _ h) (Or.inl ⟨by kernel_rfl, ?_⟩) (by assumption) ?_
    rotate_left
    · intro V hSw
      go_simp
      try with_reducible rfl
    try simp only [Act.put, sLA, sL0, sL1]
    refine wpAnyH_take (i := 2) (oi := ⟨some 39, _, _, _, _, _⟩) (v := ?_) rfl (by kernel_rfl) (by kernel_rfl) (by kernel_rfl) (fun _ _ _ h => HQ.out _ _ _ _ _ h) (Or.inl ⟨by kernel_rfl, ?_⟩) (by assumption) ?_
    rotate_left
    · intro V hSw
      go_simp
      try with_reducible rfl
    try simp only [Act.put, sLA, sL0, sL1]
    refine wpAnyH_take (i := 3) (oi := ⟨some 40, _, _, _, _, _⟩) (v := ?_) rfl (by kernel_rfl) (by kernel_rfl) (by kernel_rfl) (fun _ _ _ h => HQ.out _ _ _ _ _ h) (Or.inl ⟨by kernel_rfl, ?_⟩) (by assumption) ?_
    rotate_left
    · intro V hSw
      go_simp
      try with_reducible rfl
    try simp only [Act.put, sLA, sL0, sL1]
    refine wpAnyH_take (i := 4) (oi := ⟨some 41, _, _, _, _, _⟩) (v := ?_) rfl (by kernel_rfl) (by kernel_rfl) (by kernel_rfl) (fun _ _ _ h => HQ.out _ _ _ _ _ h) (Or.inl ⟨by kernel_rfl, ?_⟩) (by assumption) ?_
    rotate_left
    · intro V hSw
      go_simp
      try with_reducible rfl
    try simp only [Act.put, sLA, sL0, sL1]
    have d0 : d.cell? ⟨tb, 0, none⟩ = some (.int .i64 0) := HTBd.out.cell 0
    have g0 := HTBd.out.frozen 0
    have HS3 := Lib.hid (HSd.out.tok HTBd.out HFR.out HTL.out 0 (.int .i64 6))
    have hb3 := HTBd.out.set_ 0 (.int .i64 6)
    simp only [sLA, sL0, sL1] at hb3
    have HTB3 := Lib.hid hb3
    clear hb3
    refine wpAnyH_ready (rs := [5]) (by kernel_rfl) (by simp) ?_
    refine AllReadyH.cons (o := ⟨none, _, _, _, _, _⟩) rfl (fun K hK => ?_) AllReadyH.nil
    go_simp
    refine hK.out _ _ trivial (fun hHeld => ?_)
    clear hK K d0 g0
    try simp only [Act.put, sLA, sL0, sL1]
    generalize d.setCell ⟨tb, 0, none⟩ (.int .i64 6) = d3 at HS3 HTB3 ⊢
    refine wpAnyH_take (i := 6) (oi := ⟨some 42, _, _, _, _, _⟩) (v := ?_) rfl (by kernel_rfl) (by kernel_rfl) (by kernel_rfl) (fun _ _ _ h => HQ.out _ _ _ _ _ h) (Or.inl ⟨by kernel_rfl, ?_⟩) (by assumption) ?_
    rotate_left
    · intro V hSw
      go_simp
      try with_reducible rfl
    try simp only [Act.put, sLA, sL0, sL1]
    have d1 : d3.cell? ⟨tb, 1, none⟩ = some (.string ⟨#[]⟩) := HTB3.out.cell 1
    have g1 := HTB3.out.frozen 1
    have HS4 := Lib.hid (HS3.out.tok HTB3.out HFR.out HTL.out 1 (.string (s.extract k j)))
    have hb4 := HTB3.out.set_ 1 (.string (s.extract k j))
    simp only [sLA, sL0, sL1] at hb4
    have HTB4 := Lib.hid hb4
    clear hb4
    refine wpAnyH_ready (rs := [7]) (by kernel_rfl) (by simp) ?_
    refine AllReadyH.cons (o := ⟨none, _, _, _, _, _⟩) rfl (fun K hK => ?_) AllReadyH.nil
    go_simp
    refine hK.out _ _ trivial (fun hHeld => ?_)
    clear hK K d1 g1
    try simp only [Act.put, sLA, sL0, sL1]
    generalize d3.setCell ⟨tb, 1, none⟩ (.string (s.extract k j)) = d4 at HS4 HTB4 ⊢
    refine wpAnyH_done (by kernel_rfl) ?_ _
    exact HN.out (j) _ _ _ _ _ _ _ _ _ _ _ _ _ _ _ _ _ _ _ _ _ _ _ _ _ _ _ _ _ _ _ _ _ _ _ _ _ _ _ _ _ _ _ _ _ _ _ _ _ _ _ _ _ _ _ _ _ _ _ _ _ _ _ _ _ _ _ _ _ _ _ _ _ _ _ _ _ _ _ _ _ _ _ _ _ _ _ _ _ _ _ _ _ _ _ _ _ _ _ _ _ _ _ _ _ _ _ _ _ _ _ _ _ _ _ _ _ _ _ _ _ _ _ _ _ _ _ _ _ _ _ _ _ _ _ _ _ _ _ _ _ _ _ _ _ _ _ _ _ _ _ _ _ _ _ _ _ _ _ _ _ _ _ _ _ _ _ _ _ _ _ _ _ _ (by omega) (by omega) (by omega) HS4.out HTB4.out (.inl (by rw [HW.out, if_neg HN0.out, HJN.out, show n = j - k by have := HJN.out; omega]))
set_option maxRecDepth 100000 in
set_option maxHeartbeats 16000000 in
theorem xtokUa {u1 u10 u11 u12 u13 u14 u15 u16 u17 u18 u19 u20 u21 u22 u23 u24 u25 u194 u195 u196 u197 u198 u199 u200 u201 u8 u9 u26 u27 u28 u29 u30 u31 u32 u33 u34 u35 u36 u37 u38 u39 u40 u41 u42 u43 u44 u45 u46 u47 u48 u49 u50 u51 u52 u53 u54 u55 u56 u57 u58 u59 u60 u61 u62 u63 u64 u65 u66 u67 u68 u69 u70 u71 u72 u73 u74 u75 u76 u77 u78 u79 u80 u81 u82 u83 u84 u85 u86 u87 u88 u89 u90 u91 u92 u93 u94 u95 u96 u97 u98 u99 u100 u101 u102 u103 u104 u105 u106 u107 u108 u109 u110 u111 u112 u113 u114 u115 u116 u117 u118 u119 u120 u121 u122 u123 u124 u125 u126 u127 u128 u129 u130 u131 u132 u133 u134 u135 u136 u137 u138 u139 u140 u141 u142 u143 u144 u145 u146 u147 u148 u149 u150 u151 u152 u153 u154 u155 u156 u157 u158 u159 u160 u161 u162 u163 u164 u165 u166 u167 u168 u169 u170 u171 u172 u173 u174 u175 u176 u177 u178 u179 u180 u181 u182 u183 u184 u185 u186 u187 u188 u189 u190 u191 u192 u193 : Value} {Q : Exit → Act → World → Prop} (s : ByteArray) (hs : s.size ≤ 3000) (w0 w : World) (gb rb tb k : Nat) (x : Int) (A : Option Addr) (c : Nat) (T : List Tok) (hlt : k < s.size) (hx : ((s[k]'hlt).toNat : Int) = x) (hst : TokSt w0 w gb rb A c T) (hfr : (Value.slice A T.length c).ownBlock ≠ some tb) (htb : Blk w tb 109 #[.int .i64 0, .string ⟨#[]⟩, .int .i64 (k : Int)]) (htl : w0.heap.size ≤ tb)
    (hQ : ∀ c (a : Act) d v w', Q (.panic c) (a.put d v) w' → Q (.panic c) a w')
    (hnorm : ∀ (j : Nat) (J κ : Int) (σ : ByteArray) (w' : World) (v8 v9 v26 v27 v28 v29 v30 v31 v32 v33 v34 v35 v36 v37 v38 v39 v40 v41 v42 v43 v44 v45 v46 v47 v48 v49 v50 v51 v52 v53 v54 v55 v56 v57 v58 v59 v60 v61 v62 v63 v64 v65 v66 v67 v68 v69 v70 v71 v72 v73 v74 v75 v76 v77 v78 v79 v80 v81 v82 v83 v84 v85 v86 v87 v88 v89 v90 v91 v92 v93 v94 v95 v96 v97 v98 v99 v100 v101 v102 v103 v104 v105 v106 v107 v108 v109 v110 v111 v112 v113 v114 v115 v116 v117 v118 v119 v120 v121 v122 v123 v124 v125 v126 v127 v128 v129 v130 v131 v132 v133 v134 v135 v136 v137 v138 v139 v140 v141 v142 v143 v144 v145 v146 v147 v148 v149 v150 v151 v152 v153 v154 v155 v156 v157 v158 v159 v160 v161 v162 v163 v164 v165 v166 v167 v168 v169 v170 v171 v172 v173 v174 v175 v176 v177 v178 v179 v180 v181 v182 v183 v184 v185 v186 v187 v188 v189 v190 v191 v192 v193 : Value), J = (j : Int) → k < j → j ≤ s.size → TokSt w0 w' gb rb A c T → Blk w' tb 109 #[.int .i64 κ, .string σ, .int .i64 (k : Int)] → StepOk (dr s k) (.tok κ (lis σ) (j - k)) → Q .normal ⟨#[.string s, u1, ptr rb, ptr gb, .int .i64 (k : Int), .int .u8 x, .int .i64 J, ptr tb, v8, v9, u10, u11, u12, u13, u14, u15, u16, u17, u18, u19, u20, u21, u22, u23, u24, u25, v26, v27, v28, v29, v30, v31, v32, v33, v34, v35, v36, v37, v38, v39, v40, v41, v42, v43, v44, v45, v46, v47, v48, v49, v50, v51, v52, v53, v54, v55, v56, v57, v58, v59, v60, v61, v62, v63, v64, v65, v66, v67, v68, v69, v70, v71, v72, v73, v74, v75, v76, v77, v78, v79, v80, v81, v82, v83, v84, v85, v86, v87, v88, v89, v90, v91, v92, v93, v94, v95, v96, v97, v98, v99, v100, v101, v102, v103, v104, v105, v106, v107, v108, v109, v110, v111, v112, v113, v114, v115, v116, v117, v118, v119, v120, v121, v122, v123, v124, v125, v126, v127, v128, v129, v130, v131, v132, v133, v134, v135, v136, v137, v138, v139, v140, v141, v142, v143, v144, v145, v146, v147, v148, v149, v150, v151, v152, v153, v154, v155, v156, v157, v158, v159, v160, v161, v162, v163, v164, v165, v166, v167, v168, v169, v170, v171, v172, v173, v174, v175, v176, v177, v178, v179, v180, v181, v182, v183, v184, v185, v186, v187, v188, v189, v190, v191, v192, v193, u194, u195, u196, u197, u198, u199, u200, u201], []⟩ w')
    (hcont : ∀ (j : Nat) (J : Int) (w' : World) (v6 v8 v9 v26 v27 v28 v29 v30 v31 v32 v33 v34 v35 v36 v37 v38 v39 v40 v41 v42 v43 v44 v45 v46 v47 v48 v49 v50 v51 v52 v53 v54 v55 v56 v57 v58 v59 v60 v61 v62 v63 v64 v65 v66 v67 v68 v69 v70 v71 v72 v73 v74 v75 v76 v77 v78 v79 v80 v81 v82 v83 v84 v85 v86 v87 v88 v89 v90 v91 v92 v93 v94 v95 v96 v97 v98 v99 v100 v101 v102 v103 v104 v105 v106 v107 v108 v109 v110 v111 v112 v113 v114 v115 v116 v117 v118 v119 v120 v121 v122 v123 v124 v125 v126 v127 v128 v129 v130 v131 v132 v133 v134 v135 v136 v137 v138 v139 v140 v141 v142 v143 v144 v145 v146 v147 v148 v149 v150 v151 v152 v153 v154 v155 v156 v157 v158 v159 v160 v161 v162 v163 v164 v165 v166 v167 v168 v169 v170 v171 v172 v173 v174 v175 v176 v177 v178 v179 v180 v181 v182 v183 v184 v185 v186 v187 v188 v189 v190 v191 v192 v193 : Value), J = (j : Int) → k < j → j ≤ s.size → TokSt w0 w' gb rb A c T → StepOk (dr s k) (.skip (j - k)) → Q (.exit 1) ⟨#[.string s, u1, ptr rb, ptr gb, .int .i64 J, .int .u8 x, v6, ptr tb, v8, v9, u10, u11, u12, u13, u14, u15, u16, u17, u18, u19, u20, u21, u22, u23, u24, u25, v26, v27, v28, v29, v30, v31, v32, v33, v34, v35, v36, v37, v38, v39, v40, v41, v42, v43, v44, v45, v46, v47, v48, v49, v50, v51, v52, v53, v54, v55, v56, v57, v58, v59, v60, v61, v62, v63, v64, v65, v66, v67, v68, v69, v70, v71, v72, v73, v74, v75, v76, v77, v78, v79, v80, v81, v82, v83, v84, v85, v86, v87, v88, v89, v90, v91, v92, v93, v94, v95, v96, v97, v98, v99, v100, v101, v102, v103, v104, v105, v106, v107, v108, v109, v110, v111, v112, v113, v114, v115, v116, v117, v118, v119, v120, v121, v122, v123, v124, v125, v126, v127, v128, v129, v130, v131, v132, v133, v134, v135, v136, v137, v138, v139, v140, v141, v142, v143, v144, v145, v146, v147, v148, v149, v150, v151, v152, v153, v154, v155, v156, v157, v158, v159, v160, v161, v162, v163, v164, v165, v166, v167, v168, v169, v170, v171, v172, v173, v174, v175, v176, v177, v178, v179, v180, v181, v182, v183, v184, v185, v186, v187, v188, v189, v190, v191, v192, v193, u194, u195, u196, u197, u198, u199, u200, u201], []⟩ w')
    (hret : ∀ (a : Act) (X Y : Int) (w' : World), TokSt w0 w' gb rb A c T → StepOk (dr s k) .err → a.defers = [] → a.tmps.getD 2 undef = ptr rb → Q .ret a (((w'.setCell ⟨rb, 0, none⟩ (.slice none 0 0)).setCell ⟨rb, 1, none⟩ (.int .i64 X)).setCell ⟨rb, 2, none⟩ (.int .i64 Y))) (hc : x = 95 ∧ k + 1 = s.size) :
    Code.wp Tryd.prog (block43 2) Q ⟨#[.string s, u1, ptr rb, ptr gb, .int .i64 (k : Int), .int .u8 x, .int .i64 ((k : Int) + 1), ptr tb, u8, u9, u10, u11, u12, u13, u14, u15, u16, u17, u18, u19, u20, u21, u22, u23, u24, u25, u26, u27, u28, u29, u30, u31, u32, u33, u34, u35, u36, u37, u38, u39, u40, u41, u42, u43, u44, u45, u46, u47, u48, u49, u50, u51, u52, u53, u54, u55, u56, u57, u58, u59, u60, u61, u62, u63, u64, u65, u66, u67, u68, u69, u70, u71, u72, u73, u74, u75, u76, u77, u78, u79, u80, u81, u82, u83, u84, u85, u86, u87, u88, u89, u90, u91, u92, u93, u94, u95, u96, u97, u98, u99, u100, u101, u102, u103, u104, u105, u106, u107, u108, u109, u110, u111, u112, u113, u114, u115, u116, u117, u118, u119, u120, u121, u122, u123, u124, u125, u126, u127, u128, u129, u130, u131, u132, u133, u134, u135, u136, u137, u138, u139, u140, u141, u142, u143, u144, u145, u146, u147, u148, u149, u150, u151, u152, u153, u154, u155, u156, u157, u158, u159, u160, u161, u162, u163, u164, u165, u166, u167, u168, u169, u170, u171, u172, u173, u174, u175, u176, u177, u178, u179, u180, u181, u182, u183, u184, u185, u186, u187, u188, u189, u190, u191, u192, u193, u194, u195, u196, u197, u198, u199, u200, u201], []⟩ w := by
  have HN := Lib.hid hnorm
  have HQ := Lib.hid hQ
  clear hQ
  have HC := Lib.hid hcont
  have HT := Lib.hid hret
  have HST := Lib.hid hst
  have HFR := Lib.hid hfr
  have HTB := Lib.hid htb
  have HTL := Lib.hid htl
  have HX := Lib.hid hx
  clear hnorm hcont hret hst hfr htb htl hx
  have hlk : (k : Int) < (s.size : Int) := by omega
  have hk0 : (0 : Int) ≤ (k : Int) := by omega
  conv => arg 2; whnf
  obtain ⟨rfl, hk1⟩ := hc
  have hne : ((k : Int) + 1 == (s.size : Int)) = true := beq_iff_eq.2 (by omega)
  have hsb : sB 95 = true := rfl
  have hdb : dB 95 = false := rfl
  have HK1 := Lib.hid hk1
  have HSG := Lib.hid (show SignStep s k from fun n hn => step_sign hlt HX.out (by omega) (by omega) (by rw [show dr s (k + 1) = [] by rw [hk1]; exact dr_end s]; rfl) hdb (by omega) hn)
  clear hk1
  go_wp2_with fail
  refine (c56 95 w).mono ?_
  rintro e _ ⟨he, rfl⟩
  rw [hsb] at he
  subst he
  clear hsb
  go_wp2_with fail
  refine (c60 95 w).mono ?_
  rintro e _ ⟨he, rfl⟩
  rw [hdb] at he
  subst he
  clear hdb
  go_wp2_with fail
  have s2 : (k : Int) ≤ (s.size : Int) := by omega
  have hx63 := x63 (s.extract k s.size) (by rw [ByteArray.size_extract]; omega) (by rw [ByteArray.size_extract]; omega) w
  obtain ⟨n, hgn⟩ : ∃ n, n = signN (lis (s.extract k s.size)) := ⟨_, rfl⟩
  rw [← hgn] at hx63
  have hn : n ≤ (s.extract k s.size).size := by rw [hgn]; exact signN_le _
  have HW := Lib.hid (HSG.out n hgn)
  clear hgn
  refine hx63.mono ?_
  rintro e w5 ⟨rfl, hb5⟩
  clear hx63
  have hn2 : k + n ≤ s.size := by rw [ByteArray.size_extract] at hn; omega
  have HS5 := Lib.hid (HST.out.next hb5)
  have HTB5 := Lib.hid (HTB.out.next hb5)
  clear hb5 hn HST HTB
  have HST := HS5
  have HTB := HTB5
  clear HS5 HTB5
  have r0 : w5.cell? ⟨rb, 0, none⟩ = some (.slice none 0 0) := HST.out.r.cell 0
  have r1 : w5.cell? ⟨rb, 1, none⟩ = some (.int .i64 0) := HST.out.r.cell 1
  have r2 : w5.cell? ⟨rb, 2, none⟩ = some (.int .i64 0) := HST.out.r.cell 2
  have f0 := HST.out.r.frozen 0
  have f1 := HST.out.r.frozen 1
  have f2 := HST.out.r.frozen 2
  by_cases hn0 : n = 0
  · have hz : ((n : Int) == 0) = true := beq_iff_eq.2 (by omega)
    go_wp2_with fail
    exact HT.out _ _ _ _ HST.out (.inl (by rw [HW.out, if_pos hn0])) rfl rfl
  · have hz : ((n : Int) == 0) = false := beq_false_of_ne (by omega)
    have hw : wrap64 ((k : Int) + (n : Int)) = (k : Int) + (n : Int) := by unfold wrap64; omega
    obtain ⟨j, hj⟩ : ∃ j : Nat, (k : Int) + (n : Int) = (j : Int) := ⟨k + n, by omega⟩
    rw [hj] at hw
    have HJN := Lib.hid (show k + n = j by omega)
    have HN0 := Lib.hid hn0
    have hkj : k < j := by omega
    have hjs : j ≤ s.size := by omega
    have i1 : (k : Int) ≤ (j : Int) := by omega
    have i2 : (j : Int) ≤ (s.size : Int) := by omega
    clear r0 r1 r2 f0 f1 f2
    go_upto_region 13 with fail
    have HSd := Lib.hid (show TokSt w0 w5.drew gb rb A c T from ⟨HST.out.g, HST.out.r, HST.out.own, Below.drew HST.out.low, HST.out.gle, HST.out.rle, HST.out.ne⟩)
    have HTBd := Lib.hid (show Blk w5.drew tb 109 #[.int .i64 0, .string ⟨#[]⟩, .int .i64 (k : Int)] from HTB.out)
    refine wp_region_held_drew (S := fun V => True) (by kernel_rfl) trivial (fun hHeld => ?_)
    generalize w5.drew = d at HSd HTBd ⊢
    refine wpAnyH_take (i := 0) (oi := ⟨some 37, _, _, _, _, _⟩) (v := ?_) rfl (by kernel_rfl) (by kernel_rfl) (by kernel_rfl) (fun _ _ _ h => HQ.out _ _ _ _ _ h) (Or.inl ⟨by kernel_rfl, ?_⟩) (by assumption) ?_
    rotate_left
    · intro V hSw
      go_simp
      try with_reducible rfl
    try simp only [Act.put, sLA, sL0, sL1]
    refine wpAnyH_take (i := 1) (oi := ⟨some 38, _, _, _, _, _⟩) (v := ?_) rfl (by kernel_rfl) (by kernel_rfl) (by kernel_rfl) (fun _ _ _ h => HQ.out _ _ _ _ _ h) (Or.inl ⟨by kernel_rfl, ?_⟩) (by assumption) ?_
    rotate_left
    · intro V hSw
      go_simp
      try with_reducible rfl
    try simp only [Act.put, sLA, sL0, sL1]
    refine wpAnyH_take (i := 2) (oi := ⟨some 39, _, _, _, _, _⟩) (v := ?_) rfl (by kernel_rfl) (by kernel_rfl) (by kernel_rfl) (fun _ _ _ h => HQ.out _ _ _ _ _ h) (Or.inl ⟨by kernel_rfl, ?_⟩) (by assumption) ?_
    rotate_left
    · intro V hSw
      go_simp
      try with_reducible rfl
    try simp only [Act.put, sLA, sL0, sL1]
    refine wpAnyH_take (i := 3) (oi := ⟨some 40, _, _, _, _, _⟩) (v := ?_) rfl (by kernel_rfl) (by kernel_rfl) (by kernel_rfl) (fun _ _ _ h => HQ.out _ _ _ _ _ h) (Or.inl ⟨by kernel_rfl, ?_⟩) (by assumption) ?_
    rotate_left
    · intro V hSw
      go_simp
      try with_reducible rfl
    try simp only [Act.put, sLA, sL0, sL1]
    refine wpAnyH_take (i := 4) (oi := ⟨some 41, _, _, _, _, _⟩) (v := ?_) rfl (by kernel_rfl) (by kernel_rfl) (by kernel_rfl) (fun _ _ _ h => HQ.out _ _ _ _ _ h) (Or.inl ⟨by kernel_rfl, ?_⟩) (by assumption) ?_
    rotate_left
    · intro V hSw
      go_simp
      try with_reducible rfl
    try simp only [Act.put, sLA, sL0, sL1]
    have d0 : d.cell? ⟨tb, 0, none⟩ = some (.int .i64 0) := HTBd.out.cell 0
    have g0 := HTBd.out.frozen 0
    have HS3 := Lib.hid (HSd.out.tok HTBd.out HFR.out HTL.out 0 (.int .i64 6))
    have hb3 := HTBd.out.set_ 0 (.int .i64 6)
    simp only [sLA, sL0, sL1] at hb3
    have HTB3 := Lib.hid hb3
    clear hb3
    refine wpAnyH_ready (rs := [5]) (by kernel_rfl) (by simp) ?_
    refine AllReadyH.cons (o := ⟨none, _, _, _, _, _⟩) rfl (fun K hK => ?_) AllReadyH.nil
    go_simp
    refine hK.out _ _ trivial (fun hHeld => ?_)
    clear hK K d0 g0
    try simp only [Act.put, sLA, sL0, sL1]
    generalize d.setCell ⟨tb, 0, none⟩ (.int .i64 6) = d3 at HS3 HTB3 ⊢
    refine wpAnyH_take (i := 6) (oi := ⟨some 42, _, _, _, _, _⟩) (v := ?_) rfl (by kernel_rfl) (by kernel_rfl) (by kernel_rfl) (fun _ _ _ h => HQ.out _ _ _ _ _ h) (Or.inl ⟨by kernel_rfl, ?_⟩) (by assumption) ?_
    rotate_left
    · intro V hSw
      go_simp
      try with_reducible rfl
    try simp only [Act.put, sLA, sL0, sL1]
    have d1 : d3.cell? ⟨tb, 1, none⟩ = some (.string ⟨#[]⟩) := HTB3.out.cell 1
    have g1 := HTB3.out.frozen 1
    have HS4 := Lib.hid (HS3.out.tok HTB3.out HFR.out HTL.out 1 (.string (s.extract k j)))
    have hb4 := HTB3.out.set_ 1 (.string (s.extract k j))
    simp only [sLA, sL0, sL1] at hb4
    have HTB4 := Lib.hid hb4
    clear hb4
    refine wpAnyH_ready (rs := [7]) (by kernel_rfl) (by simp) ?_
    refine AllReadyH.cons (o := ⟨none, _, _, _, _, _⟩) rfl (fun K hK => ?_) AllReadyH.nil
    go_simp
    refine hK.out _ _ trivial (fun hHeld => ?_)
    clear hK K d1 g1
    try simp only [Act.put, sLA, sL0, sL1]
    generalize d3.setCell ⟨tb, 1, none⟩ (.string (s.extract k j)) = d4 at HS4 HTB4 ⊢
    refine wpAnyH_done (by kernel_rfl) ?_ _
    exact HN.out (j) _ _ _ _ _ _ _ _ _ _ _ _ _ _ _ _ _ _ _ _ _ _ _ _ _ _ _ _ _ _ _ _ _ _ _ _ _ _ _ _ _ _ _ _ _ _ _ _ _ _ _ _ _ _ _ _ _ _ _ _ _ _ _ _ _ _ _ _ _ _ _ _ _ _ _ _ _ _ _ _ _ _ _ _ _ _ _ _ _ _ _ _ _ _ _ _ _ _ _ _ _ _ _ _ _ _ _ _ _ _ _ _ _ _ _ _ _ _ _ _ _ _ _ _ _ _ _ _ _ _ _ _ _ _ _ _ _ _ _ _ _ _ _ _ _ _ _ _ _ _ _ _ _ _ _ _ _ _ _ _ _ _ _ _ _ _ _ _ _ _ _ _ _ _ (by omega) (by omega) (by omega) HS4.out HTB4.out (.inl (by rw [HW.out, if_neg HN0.out, HJN.out, show n = j - k by have := HJN.out; omega]))
set_option maxRecDepth 100000 in
set_option maxHeartbeats 16000000 in
theorem xtokUb {u1 u10 u11 u12 u13 u14 u15 u16 u17 u18 u19 u20 u21 u22 u23 u24 u25 u194 u195 u196 u197 u198 u199 u200 u201 u8 u9 u26 u27 u28 u29 u30 u31 u32 u33 u34 u35 u36 u37 u38 u39 u40 u41 u42 u43 u44 u45 u46 u47 u48 u49 u50 u51 u52 u53 u54 u55 u56 u57 u58 u59 u60 u61 u62 u63 u64 u65 u66 u67 u68 u69 u70 u71 u72 u73 u74 u75 u76 u77 u78 u79 u80 u81 u82 u83 u84 u85 u86 u87 u88 u89 u90 u91 u92 u93 u94 u95 u96 u97 u98 u99 u100 u101 u102 u103 u104 u105 u106 u107 u108 u109 u110 u111 u112 u113 u114 u115 u116 u117 u118 u119 u120 u121 u122 u123 u124 u125 u126 u127 u128 u129 u130 u131 u132 u133 u134 u135 u136 u137 u138 u139 u140 u141 u142 u143 u144 u145 u146 u147 u148 u149 u150 u151 u152 u153 u154 u155 u156 u157 u158 u159 u160 u161 u162 u163 u164 u165 u166 u167 u168 u169 u170 u171 u172 u173 u174 u175 u176 u177 u178 u179 u180 u181 u182 u183 u184 u185 u186 u187 u188 u189 u190 u191 u192 u193 : Value} {Q : Exit → Act → World → Prop} (s : ByteArray) (hs : s.size ≤ 3000) (w0 w : World) (gb rb tb k : Nat) (x : Int) (A : Option Addr) (c : Nat) (T : List Tok) (hlt : k < s.size) (hx : ((s[k]'hlt).toNat : Int) = x) (hst : TokSt w0 w gb rb A c T) (hfr : (Value.slice A T.length c).ownBlock ≠ some tb) (htb : Blk w tb 109 #[.int .i64 0, .string ⟨#[]⟩, .int .i64 (k : Int)]) (htl : w0.heap.size ≤ tb)
    (hQ : ∀ c (a : Act) d v w', Q (.panic c) (a.put d v) w' → Q (.panic c) a w')
    (hnorm : ∀ (j : Nat) (J κ : Int) (σ : ByteArray) (w' : World) (v8 v9 v26 v27 v28 v29 v30 v31 v32 v33 v34 v35 v36 v37 v38 v39 v40 v41 v42 v43 v44 v45 v46 v47 v48 v49 v50 v51 v52 v53 v54 v55 v56 v57 v58 v59 v60 v61 v62 v63 v64 v65 v66 v67 v68 v69 v70 v71 v72 v73 v74 v75 v76 v77 v78 v79 v80 v81 v82 v83 v84 v85 v86 v87 v88 v89 v90 v91 v92 v93 v94 v95 v96 v97 v98 v99 v100 v101 v102 v103 v104 v105 v106 v107 v108 v109 v110 v111 v112 v113 v114 v115 v116 v117 v118 v119 v120 v121 v122 v123 v124 v125 v126 v127 v128 v129 v130 v131 v132 v133 v134 v135 v136 v137 v138 v139 v140 v141 v142 v143 v144 v145 v146 v147 v148 v149 v150 v151 v152 v153 v154 v155 v156 v157 v158 v159 v160 v161 v162 v163 v164 v165 v166 v167 v168 v169 v170 v171 v172 v173 v174 v175 v176 v177 v178 v179 v180 v181 v182 v183 v184 v185 v186 v187 v188 v189 v190 v191 v192 v193 : Value), J = (j : Int) → k < j → j ≤ s.size → TokSt w0 w' gb rb A c T → Blk w' tb 109 #[.int .i64 κ, .string σ, .int .i64 (k : Int)] → StepOk (dr s k) (.tok κ (lis σ) (j - k)) → Q .normal ⟨#[.string s, u1, ptr rb, ptr gb, .int .i64 (k : Int), .int .u8 x, .int .i64 J, ptr tb, v8, v9, u10, u11, u12, u13, u14, u15, u16, u17, u18, u19, u20, u21, u22, u23, u24, u25, v26, v27, v28, v29, v30, v31, v32, v33, v34, v35, v36, v37, v38, v39, v40, v41, v42, v43, v44, v45, v46, v47, v48, v49, v50, v51, v52, v53, v54, v55, v56, v57, v58, v59, v60, v61, v62, v63, v64, v65, v66, v67, v68, v69, v70, v71, v72, v73, v74, v75, v76, v77, v78, v79, v80, v81, v82, v83, v84, v85, v86, v87, v88, v89, v90, v91, v92, v93, v94, v95, v96, v97, v98, v99, v100, v101, v102, v103, v104, v105, v106, v107, v108, v109, v110, v111, v112, v113, v114, v115, v116, v117, v118, v119, v120, v121, v122, v123, v124, v125, v126, v127, v128, v129, v130, v131, v132, v133, v134, v135, v136, v137, v138, v139, v140, v141, v142, v143, v144, v145, v146, v147, v148, v149, v150, v151, v152, v153, v154, v155, v156, v157, v158, v159, v160, v161, v162, v163, v164, v165, v166, v167, v168, v169, v170, v171, v172, v173, v174, v175, v176, v177, v178, v179, v180, v181, v182, v183, v184, v185, v186, v187, v188, v189, v190, v191, v192, v193, u194, u195, u196, u197, u198, u199, u200, u201], []⟩ w')
    (hcont : ∀ (j : Nat) (J : Int) (w' : World) (v6 v8 v9 v26 v27 v28 v29 v30 v31 v32 v33 v34 v35 v36 v37 v38 v39 v40 v41 v42 v43 v44 v45 v46 v47 v48 v49 v50 v51 v52 v53 v54 v55 v56 v57 v58 v59 v60 v61 v62 v63 v64 v65 v66 v67 v68 v69 v70 v71 v72 v73 v74 v75 v76 v77 v78 v79 v80 v81 v82 v83 v84 v85 v86 v87 v88 v89 v90 v91 v92 v93 v94 v95 v96 v97 v98 v99 v100 v101 v102 v103 v104 v105 v106 v107 v108 v109 v110 v111 v112 v113 v114 v115 v116 v117 v118 v119 v120 v121 v122 v123 v124 v125 v126 v127 v128 v129 v130 v131 v132 v133 v134 v135 v136 v137 v138 v139 v140 v141 v142 v143 v144 v145 v146 v147 v148 v149 v150 v151 v152 v153 v154 v155 v156 v157 v158 v159 v160 v161 v162 v163 v164 v165 v166 v167 v168 v169 v170 v171 v172 v173 v174 v175 v176 v177 v178 v179 v180 v181 v182 v183 v184 v185 v186 v187 v188 v189 v190 v191 v192 v193 : Value), J = (j : Int) → k < j → j ≤ s.size → TokSt w0 w' gb rb A c T → StepOk (dr s k) (.skip (j - k)) → Q (.exit 1) ⟨#[.string s, u1, ptr rb, ptr gb, .int .i64 J, .int .u8 x, v6, ptr tb, v8, v9, u10, u11, u12, u13, u14, u15, u16, u17, u18, u19, u20, u21, u22, u23, u24, u25, v26, v27, v28, v29, v30, v31, v32, v33, v34, v35, v36, v37, v38, v39, v40, v41, v42, v43, v44, v45, v46, v47, v48, v49, v50, v51, v52, v53, v54, v55, v56, v57, v58, v59, v60, v61, v62, v63, v64, v65, v66, v67, v68, v69, v70, v71, v72, v73, v74, v75, v76, v77, v78, v79, v80, v81, v82, v83, v84, v85, v86, v87, v88, v89, v90, v91, v92, v93, v94, v95, v96, v97, v98, v99, v100, v101, v102, v103, v104, v105, v106, v107, v108, v109, v110, v111, v112, v113, v114, v115, v116, v117, v118, v119, v120, v121, v122, v123, v124, v125, v126, v127, v128, v129, v130, v131, v132, v133, v134, v135, v136, v137, v138, v139, v140, v141, v142, v143, v144, v145, v146, v147, v148, v149, v150, v151, v152, v153, v154, v155, v156, v157, v158, v159, v160, v161, v162, v163, v164, v165, v166, v167, v168, v169, v170, v171, v172, v173, v174, v175, v176, v177, v178, v179, v180, v181, v182, v183, v184, v185, v186, v187, v188, v189, v190, v191, v192, v193, u194, u195, u196, u197, u198, u199, u200, u201], []⟩ w')
    (hret : ∀ (a : Act) (X Y : Int) (w' : World), TokSt w0 w' gb rb A c T → StepOk (dr s k) .err → a.defers = [] → a.tmps.getD 2 undef = ptr rb → Q .ret a (((w'.setCell ⟨rb, 0, none⟩ (.slice none 0 0)).setCell ⟨rb, 1, none⟩ (.int .i64 X)).setCell ⟨rb, 2, none⟩ (.int .i64 Y))) (hc : x = 95 ∧ ∃ h : k + 1 < s.size, vB ((s[k + 1]'h).toNat : Int) = false) :
    Code.wp Tryd.prog (block43 2) Q ⟨#[.string s, u1, ptr rb, ptr gb, .int .i64 (k : Int), .int .u8 x, .int .i64 ((k : Int) + 1), ptr tb, u8, u9, u10, u11, u12, u13, u14, u15, u16, u17, u18, u19, u20, u21, u22, u23, u24, u25, u26, u27, u28, u29, u30, u31, u32, u33, u34, u35, u36, u37, u38, u39, u40, u41, u42, u43, u44, u45, u46, u47, u48, u49, u50, u51, u52, u53, u54, u55, u56, u57, u58, u59, u60, u61, u62, u63, u64, u65, u66, u67, u68, u69, u70, u71, u72, u73, u74, u75, u76, u77, u78, u79, u80, u81, u82, u83, u84, u85, u86, u87, u88, u89, u90, u91, u92, u93, u94, u95, u96, u97, u98, u99, u100, u101, u102, u103, u104, u105, u106, u107, u108, u109, u110, u111, u112, u113, u114, u115, u116, u117, u118, u119, u120, u121, u122, u123, u124, u125, u126, u127, u128, u129, u130, u131, u132, u133, u134, u135, u136, u137, u138, u139, u140, u141, u142, u143, u144, u145, u146, u147, u148, u149, u150, u151, u152, u153, u154, u155, u156, u157, u158, u159, u160, u161, u162, u163, u164, u165, u166, u167, u168, u169, u170, u171, u172, u173, u174, u175, u176, u177, u178, u179, u180, u181, u182, u183, u184, u185, u186, u187, u188, u189, u190, u191, u192, u193, u194, u195, u196, u197, u198, u199, u200, u201], []⟩ w := by
  have HN := Lib.hid hnorm
  have HQ := Lib.hid hQ
  clear hQ
  have HC := Lib.hid hcont
  have HT := Lib.hid hret
  have HST := Lib.hid hst
  have HFR := Lib.hid hfr
  have HTB := Lib.hid htb
  have HTL := Lib.hid htl
  have HX := Lib.hid hx
  clear hnorm hcont hret hst hfr htb htl hx
  have hlk : (k : Int) < (s.size : Int) := by omega
  have hk0 : (0 : Int) ≤ (k : Int) := by omega
  conv => arg 2; whnf
  obtain ⟨rfl, hk1, hv1⟩ := hc
  have hkk : (k : Int) + 1 < (s.size : Int) := by omega
  have hk10 : (0 : Int) ≤ (k : Int) + 1 := by omega
  have htn : ((k : Int) + 1).toNat = k + 1 := by omega
  have hne : ((k : Int) + 1 == (s.size : Int)) = false := beq_false_of_ne (by omega)
  have hsb : sB 95 = true := rfl
  have hdb : dB 95 = false := rfl
  have HSG := Lib.hid (show SignStep s k from fun n hn => step_sign hlt HX.out (by omega) (by omega) (by rw [nextB_dr vB hk1, hv1]; rfl) hdb (by omega) hn)
  go_wp2_with fail
  refine (c56 95 w).mono ?_
  rintro e _ ⟨he, rfl⟩
  rw [hsb] at he
  subst he
  clear hsb
  go_wp2_with fail
  refine (c58 _ w).mono ?_
  rintro e _ ⟨he, rfl⟩
  rw [hv1] at he
  subst he
  clear hv1
  go_wp2_with fail
  refine (c60 95 w).mono ?_
  rintro e _ ⟨he, rfl⟩
  rw [hdb] at he
  subst he
  clear hdb
  go_wp2_with fail
  have s2 : (k : Int) ≤ (s.size : Int) := by omega
  have hx63 := x63 (s.extract k s.size) (by rw [ByteArray.size_extract]; omega) (by rw [ByteArray.size_extract]; omega) w
  obtain ⟨n, hgn⟩ : ∃ n, n = signN (lis (s.extract k s.size)) := ⟨_, rfl⟩
  rw [← hgn] at hx63
  have hn : n ≤ (s.extract k s.size).size := by rw [hgn]; exact signN_le _
  have HW := Lib.hid (HSG.out n hgn)
  clear hgn
  refine hx63.mono ?_
  rintro e w5 ⟨rfl, hb5⟩
  clear hx63
  have hn2 : k + n ≤ s.size := by rw [ByteArray.size_extract] at hn; omega
  have HS5 := Lib.hid (HST.out.next hb5)
  have HTB5 := Lib.hid (HTB.out.next hb5)
  clear hb5 hn HST HTB
  have HST := HS5
  have HTB := HTB5
  clear HS5 HTB5
  have r0 : w5.cell? ⟨rb, 0, none⟩ = some (.slice none 0 0) := HST.out.r.cell 0
  have r1 : w5.cell? ⟨rb, 1, none⟩ = some (.int .i64 0) := HST.out.r.cell 1
  have r2 : w5.cell? ⟨rb, 2, none⟩ = some (.int .i64 0) := HST.out.r.cell 2
  have f0 := HST.out.r.frozen 0
  have f1 := HST.out.r.frozen 1
  have f2 := HST.out.r.frozen 2
  by_cases hn0 : n = 0
  · have hz : ((n : Int) == 0) = true := beq_iff_eq.2 (by omega)
    go_wp2_with fail
    exact HT.out _ _ _ _ HST.out (.inl (by rw [HW.out, if_pos hn0])) rfl rfl
  · have hz : ((n : Int) == 0) = false := beq_false_of_ne (by omega)
    have hw : wrap64 ((k : Int) + (n : Int)) = (k : Int) + (n : Int) := by unfold wrap64; omega
    obtain ⟨j, hj⟩ : ∃ j : Nat, (k : Int) + (n : Int) = (j : Int) := ⟨k + n, by omega⟩
    rw [hj] at hw
    have HJN := Lib.hid (show k + n = j by omega)
    have HN0 := Lib.hid hn0
    have hkj : k < j := by omega
    have hjs : j ≤ s.size := by omega
    have i1 : (k : Int) ≤ (j : Int) := by omega
    have i2 : (j : Int) ≤ (s.size : Int) := by omega
    clear r0 r1 r2 f0 f1 f2
    go_upto_region 13 with fail
    have HSd := Lib.hid (show TokSt w0 w5.drew gb rb A c T from ⟨HST.out.g, HST.out.r, HST.out.own, Below.drew HST.out.low, HST.out.gle, HST.out.rle, HST.out.ne⟩)
    have HTBd := Lib.hid (show Blk w5.drew tb 109 #[.int .i64 0, .string ⟨#[]⟩, .int .i64 (k : Int)] from HTB.out)
    refine wp_region_held_drew (S := fun V => True) (by kernel_rfl) trivial (fun hHeld => ?_)
    generalize w5.drew = d at HSd HTBd ⊢
    refine wpAnyH_take (i := 0) (oi := ⟨some 37, _, _, _, _, _⟩) (v := ?_) rfl (by kernel_rfl) (by kernel_rfl) (by kernel_rfl) (fun _ _ _ h => HQ.out _ _ _ _ _ h) (Or.inl ⟨by kernel_rfl, ?_⟩) (by assumption) ?_
    rotate_left
    · intro V hSw
      go_simp
      try with_reducible rfl
    try simp only [Act.put, sLA, sL0, sL1]
    refine wpAnyH_take (i := 1) (oi := ⟨some 38, _, _, _, _, _⟩) (v := ?_) rfl (by kernel_rfl) (by kernel_rfl) (by kernel_rfl) (fun _ _ _ h => HQ.out _ _ _ _ _ h) (Or.inl ⟨by kernel_rfl, ?_⟩) (by assumption) ?_
    rotate_left
    · intro V hSw
      go_simp
      try with_reducible rfl
    try simp only [Act.put, sLA, sL0, sL1]
    refine wpAnyH_take (i := 2) (oi := ⟨some 39, _, _, _, _, _⟩) (v := ?_) rfl (by kernel_rfl) (by kernel_rfl) (by kernel_rfl) (fun _ _ _ h => HQ.out _ _ _ _ _ h) (Or.inl ⟨by kernel_rfl, ?_⟩) (by assumption) ?_
    rotate_left
    · intro V hSw
      go_simp
      try with_reducible rfl
    try simp only [Act.put, sLA, sL0, sL1]
    refine wpAnyH_take (i := 3) (oi := ⟨some 40, _, _, _, _, _⟩) (v := ?_) rfl (by kernel_rfl) (by kernel_rfl) (by kernel_rfl) (fun _ _ _ h => HQ.out _ _ _ _ _ h) (Or.inl ⟨by kernel_rfl, ?_⟩) (by assumption) ?_
    rotate_left
    · intro V hSw
      go_simp
      try with_reducible rfl
    try simp only [Act.put, sLA, sL0, sL1]
    refine wpAnyH_take (i := 4) (oi := ⟨some 41, _, _, _, _, _⟩) (v := ?_) rfl (by kernel_rfl) (by kernel_rfl) (by kernel_rfl) (fun _ _ _ h => HQ.out _ _ _ _ _ h) (Or.inl ⟨by kernel_rfl, ?_⟩) (by assumption) ?_
    rotate_left
    · intro V hSw
      go_simp
      try with_reducible rfl
    try simp only [Act.put, sLA, sL0, sL1]
    have d0 : d.cell? ⟨tb, 0, none⟩ = some (.int .i64 0) := HTBd.out.cell 0
    have g0 := HTBd.out.frozen 0
    have HS3 := Lib.hid (HSd.out.tok HTBd.out HFR.out HTL.out 0 (.int .i64 6))
    have hb3 := HTBd.out.set_ 0 (.int .i64 6)
    simp only [sLA, sL0, sL1] at hb3
    have HTB3 := Lib.hid hb3
    clear hb3
    refine wpAnyH_ready (rs := [5]) (by kernel_rfl) (by simp) ?_
    refine AllReadyH.cons (o := ⟨none, _, _, _, _, _⟩) rfl (fun K hK => ?_) AllReadyH.nil
    go_simp
    refine hK.out _ _ trivial (fun hHeld => ?_)
    clear hK K d0 g0
    try simp only [Act.put, sLA, sL0, sL1]
    generalize d.setCell ⟨tb, 0, none⟩ (.int .i64 6) = d3 at HS3 HTB3 ⊢
    refine wpAnyH_take (i := 6) (oi := ⟨some 42, _, _, _, _, _⟩) (v := ?_) rfl (by kernel_rfl) (by kernel_rfl) (by kernel_rfl) (fun _ _ _ h => HQ.out _ _ _ _ _ h) (Or.inl ⟨by kernel_rfl, ?_⟩) (by assumption) ?_
    rotate_left
    · intro V hSw
      go_simp
      try with_reducible rfl
    try simp only [Act.put, sLA, sL0, sL1]
    have d1 : d3.cell? ⟨tb, 1, none⟩ = some (.string ⟨#[]⟩) := HTB3.out.cell 1
    have g1 := HTB3.out.frozen 1
    have HS4 := Lib.hid (HS3.out.tok HTB3.out HFR.out HTL.out 1 (.string (s.extract k j)))
    have hb4 := HTB3.out.set_ 1 (.string (s.extract k j))
    simp only [sLA, sL0, sL1] at hb4
    have HTB4 := Lib.hid hb4
    clear hb4
    refine wpAnyH_ready (rs := [7]) (by kernel_rfl) (by simp) ?_
    refine AllReadyH.cons (o := ⟨none, _, _, _, _, _⟩) rfl (fun K hK => ?_) AllReadyH.nil
    go_simp
    refine hK.out _ _ trivial (fun hHeld => ?_)
    clear hK K d1 g1
    try simp only [Act.put, sLA, sL0, sL1]
    generalize d3.setCell ⟨tb, 1, none⟩ (.string (s.extract k j)) = d4 at HS4 HTB4 ⊢
    refine wpAnyH_done (by kernel_rfl) ?_ _
    exact HN.out (j) _ _ _ _ _ _ _ _ _ _ _ _ _ _ _ _ _ _ _ _ _ _ _ _ _ _ _ _ _ _ _ _ _ _ _ _ _ _ _ _ _ _ _ _ _ _ _ _ _ _ _ _ _ _ _ _ _ _ _ _ _ _ _ _ _ _ _ _ _ _ _ _ _ _ _ _ _ _ _ _ _ _ _ _ _ _ _ _ _ _ _ _ _ _ _ _ _ _ _ _ _ _ _ _ _ _ _ _ _ _ _ _ _ _ _ _ _ _ _ _ _ _ _ _ _ _ _ _ _ _ _ _ _ _ _ _ _ _ _ _ _ _ _ _ _ _ _ _ _ _ _ _ _ _ _ _ _ _ _ _ _ _ _ _ _ _ _ _ _ _ _ _ _ _ (by omega) (by omega) (by omega) HS4.out HTB4.out (.inl (by rw [HW.out, if_neg HN0.out, HJN.out, show n = j - k by have := HJN.out; omega]))
set_option maxRecDepth 100000 in
set_option maxHeartbeats 4000000 in
theorem xtokAll {u1 u10 u11 u12 u13 u14 u15 u16 u17 u18 u19 u20 u21 u22 u23 u24 u25 u194 u195 u196 u197 u198 u199 u200 u201 u8 u9 u26 u27 u28 u29 u30 u31 u32 u33 u34 u35 u36 u37 u38 u39 u40 u41 u42 u43 u44 u45 u46 u47 u48 u49 u50 u51 u52 u53 u54 u55 u56 u57 u58 u59 u60 u61 u62 u63 u64 u65 u66 u67 u68 u69 u70 u71 u72 u73 u74 u75 u76 u77 u78 u79 u80 u81 u82 u83 u84 u85 u86 u87 u88 u89 u90 u91 u92 u93 u94 u95 u96 u97 u98 u99 u100 u101 u102 u103 u104 u105 u106 u107 u108 u109 u110 u111 u112 u113 u114 u115 u116 u117 u118 u119 u120 u121 u122 u123 u124 u125 u126 u127 u128 u129 u130 u131 u132 u133 u134 u135 u136 u137 u138 u139 u140 u141 u142 u143 u144 u145 u146 u147 u148 u149 u150 u151 u152 u153 u154 u155 u156 u157 u158 u159 u160 u161 u162 u163 u164 u165 u166 u167 u168 u169 u170 u171 u172 u173 u174 u175 u176 u177 u178 u179 u180 u181 u182 u183 u184 u185 u186 u187 u188 u189 u190 u191 u192 u193 : Value} {Q : Exit → Act → World → Prop} (s : ByteArray) (hs : s.size ≤ 3000) (w0 w : World) (gb rb tb k : Nat) (x : Int) (A : Option Addr) (c : Nat) (T : List Tok) (hlt : k < s.size) (hx : ((s[k]'hlt).toNat : Int) = x) (hst : TokSt w0 w gb rb A c T) (hfr : (Value.slice A T.length c).ownBlock ≠ some tb) (htb : Blk w tb 109 #[.int .i64 0, .string ⟨#[]⟩, .int .i64 (k : Int)]) (htl : w0.heap.size ≤ tb)
    (hQ : ∀ c (a : Act) d v w', Q (.panic c) (a.put d v) w' → Q (.panic c) a w')
    (hnorm : ∀ (j : Nat) (J κ : Int) (σ : ByteArray) (w' : World) (v8 v9 v26 v27 v28 v29 v30 v31 v32 v33 v34 v35 v36 v37 v38 v39 v40 v41 v42 v43 v44 v45 v46 v47 v48 v49 v50 v51 v52 v53 v54 v55 v56 v57 v58 v59 v60 v61 v62 v63 v64 v65 v66 v67 v68 v69 v70 v71 v72 v73 v74 v75 v76 v77 v78 v79 v80 v81 v82 v83 v84 v85 v86 v87 v88 v89 v90 v91 v92 v93 v94 v95 v96 v97 v98 v99 v100 v101 v102 v103 v104 v105 v106 v107 v108 v109 v110 v111 v112 v113 v114 v115 v116 v117 v118 v119 v120 v121 v122 v123 v124 v125 v126 v127 v128 v129 v130 v131 v132 v133 v134 v135 v136 v137 v138 v139 v140 v141 v142 v143 v144 v145 v146 v147 v148 v149 v150 v151 v152 v153 v154 v155 v156 v157 v158 v159 v160 v161 v162 v163 v164 v165 v166 v167 v168 v169 v170 v171 v172 v173 v174 v175 v176 v177 v178 v179 v180 v181 v182 v183 v184 v185 v186 v187 v188 v189 v190 v191 v192 v193 : Value), J = (j : Int) → k < j → j ≤ s.size → TokSt w0 w' gb rb A c T → Blk w' tb 109 #[.int .i64 κ, .string σ, .int .i64 (k : Int)] → StepOk (dr s k) (.tok κ (lis σ) (j - k)) → Q .normal ⟨#[.string s, u1, ptr rb, ptr gb, .int .i64 (k : Int), .int .u8 x, .int .i64 J, ptr tb, v8, v9, u10, u11, u12, u13, u14, u15, u16, u17, u18, u19, u20, u21, u22, u23, u24, u25, v26, v27, v28, v29, v30, v31, v32, v33, v34, v35, v36, v37, v38, v39, v40, v41, v42, v43, v44, v45, v46, v47, v48, v49, v50, v51, v52, v53, v54, v55, v56, v57, v58, v59, v60, v61, v62, v63, v64, v65, v66, v67, v68, v69, v70, v71, v72, v73, v74, v75, v76, v77, v78, v79, v80, v81, v82, v83, v84, v85, v86, v87, v88, v89, v90, v91, v92, v93, v94, v95, v96, v97, v98, v99, v100, v101, v102, v103, v104, v105, v106, v107, v108, v109, v110, v111, v112, v113, v114, v115, v116, v117, v118, v119, v120, v121, v122, v123, v124, v125, v126, v127, v128, v129, v130, v131, v132, v133, v134, v135, v136, v137, v138, v139, v140, v141, v142, v143, v144, v145, v146, v147, v148, v149, v150, v151, v152, v153, v154, v155, v156, v157, v158, v159, v160, v161, v162, v163, v164, v165, v166, v167, v168, v169, v170, v171, v172, v173, v174, v175, v176, v177, v178, v179, v180, v181, v182, v183, v184, v185, v186, v187, v188, v189, v190, v191, v192, v193, u194, u195, u196, u197, u198, u199, u200, u201], []⟩ w')
    (hcont : ∀ (j : Nat) (J : Int) (w' : World) (v6 v8 v9 v26 v27 v28 v29 v30 v31 v32 v33 v34 v35 v36 v37 v38 v39 v40 v41 v42 v43 v44 v45 v46 v47 v48 v49 v50 v51 v52 v53 v54 v55 v56 v57 v58 v59 v60 v61 v62 v63 v64 v65 v66 v67 v68 v69 v70 v71 v72 v73 v74 v75 v76 v77 v78 v79 v80 v81 v82 v83 v84 v85 v86 v87 v88 v89 v90 v91 v92 v93 v94 v95 v96 v97 v98 v99 v100 v101 v102 v103 v104 v105 v106 v107 v108 v109 v110 v111 v112 v113 v114 v115 v116 v117 v118 v119 v120 v121 v122 v123 v124 v125 v126 v127 v128 v129 v130 v131 v132 v133 v134 v135 v136 v137 v138 v139 v140 v141 v142 v143 v144 v145 v146 v147 v148 v149 v150 v151 v152 v153 v154 v155 v156 v157 v158 v159 v160 v161 v162 v163 v164 v165 v166 v167 v168 v169 v170 v171 v172 v173 v174 v175 v176 v177 v178 v179 v180 v181 v182 v183 v184 v185 v186 v187 v188 v189 v190 v191 v192 v193 : Value), J = (j : Int) → k < j → j ≤ s.size → TokSt w0 w' gb rb A c T → StepOk (dr s k) (.skip (j - k)) → Q (.exit 1) ⟨#[.string s, u1, ptr rb, ptr gb, .int .i64 J, .int .u8 x, v6, ptr tb, v8, v9, u10, u11, u12, u13, u14, u15, u16, u17, u18, u19, u20, u21, u22, u23, u24, u25, v26, v27, v28, v29, v30, v31, v32, v33, v34, v35, v36, v37, v38, v39, v40, v41, v42, v43, v44, v45, v46, v47, v48, v49, v50, v51, v52, v53, v54, v55, v56, v57, v58, v59, v60, v61, v62, v63, v64, v65, v66, v67, v68, v69, v70, v71, v72, v73, v74, v75, v76, v77, v78, v79, v80, v81, v82, v83, v84, v85, v86, v87, v88, v89, v90, v91, v92, v93, v94, v95, v96, v97, v98, v99, v100, v101, v102, v103, v104, v105, v106, v107, v108, v109, v110, v111, v112, v113, v114, v115, v116, v117, v118, v119, v120, v121, v122, v123, v124, v125, v126, v127, v128, v129, v130, v131, v132, v133, v134, v135, v136, v137, v138, v139, v140, v141, v142, v143, v144, v145, v146, v147, v148, v149, v150, v151, v152, v153, v154, v155, v156, v157, v158, v159, v160, v161, v162, v163, v164, v165, v166, v167, v168, v169, v170, v171, v172, v173, v174, v175, v176, v177, v178, v179, v180, v181, v182, v183, v184, v185, v186, v187, v188, v189, v190, v191, v192, v193, u194, u195, u196, u197, u198, u199, u200, u201], []⟩ w')
    (hret : ∀ (a : Act) (X Y : Int) (w' : World), TokSt w0 w' gb rb A c T → StepOk (dr s k) .err → a.defers = [] → a.tmps.getD 2 undef = ptr rb → Q .ret a (((w'.setCell ⟨rb, 0, none⟩ (.slice none 0 0)).setCell ⟨rb, 1, none⟩ (.int .i64 X)).setCell ⟨rb, 2, none⟩ (.int .i64 Y))) :
    Code.wp Tryd.prog (block43 2) Q ⟨#[.string s, u1, ptr rb, ptr gb, .int .i64 (k : Int), .int .u8 x, .int .i64 ((k : Int) + 1), ptr tb, u8, u9, u10, u11, u12, u13, u14, u15, u16, u17, u18, u19, u20, u21, u22, u23, u24, u25, u26, u27, u28, u29, u30, u31, u32, u33, u34, u35, u36, u37, u38, u39, u40, u41, u42, u43, u44, u45, u46, u47, u48, u49, u50, u51, u52, u53, u54, u55, u56, u57, u58, u59, u60, u61, u62, u63, u64, u65, u66, u67, u68, u69, u70, u71, u72, u73, u74, u75, u76, u77, u78, u79, u80, u81, u82, u83, u84, u85, u86, u87, u88, u89, u90, u91, u92, u93, u94, u95, u96, u97, u98, u99, u100, u101, u102, u103, u104, u105, u106, u107, u108, u109, u110, u111, u112, u113, u114, u115, u116, u117, u118, u119, u120, u121, u122, u123, u124, u125, u126, u127, u128, u129, u130, u131, u132, u133, u134, u135, u136, u137, u138, u139, u140, u141, u142, u143, u144, u145, u146, u147, u148, u149, u150, u151, u152, u153, u154, u155, u156, u157, u158, u159, u160, u161, u162, u163, u164, u165, u166, u167, u168, u169, u170, u171, u172, u173, u174, u175, u176, u177, u178, u179, u180, u181, u182, u183, u184, u185, u186, u187, u188, u189, u190, u191, u192, u193, u194, u195, u196, u197, u198, u199, u200, u201], []⟩ w := by
  by_cases c1 : x = 32 ∨ x = 9 ∨ x = 10
  · exact xtokSp s hs w0 w gb rb tb k x A c T hlt hx hst hfr htb htl hQ hnorm hcont hret c1
  by_cases c2 : x = 35
  · exact xtokHash s hs w0 w gb rb tb k x A c T hlt hx hst hfr htb htl hQ hnorm hcont hret c2
  by_cases c3 : 97 ≤ x ∧ x ≤ 122
  · exact xtokLe s hs w0 w gb rb tb k x A c T hlt hx hst hfr htb htl hQ hnorm hcont hret c3
  by_cases c4 : 65 ≤ x ∧ x ≤ 90
  · exact xtokLg s hs w0 w gb rb tb k x A c T hlt hx hst hfr htb htl hQ hnorm hcont hret c4
  by_cases c5 : 48 ≤ x ∧ x ≤ 57
  · exact xtokDi s hs w0 w gb rb tb k x A c T hlt hx hst hfr htb htl hQ hnorm hcont hret c5
  by_cases c6 : x = 34
  · exact xtokQu s hs w0 w gb rb tb k x A c T hlt hx hst hfr htb htl hQ hnorm hcont hret c6
  by_cases c7 : x = 95
  · by_cases c8 : k + 1 < s.size
    · cases c9 : vB ((s[k + 1]'c8).toNat : Int) with
      | true => exact xtokLu s hs w0 w gb rb tb k x A c T hlt hx hst hfr htb htl hQ hnorm hcont hret ⟨c7, c8, c9⟩
      | false => exact xtokUb s hs w0 w gb rb tb k x A c T hlt hx hst hfr htb htl hQ hnorm hcont hret ⟨c7, c8, c9⟩
    · exact xtokUa s hs w0 w gb rb tb k x A c T hlt hx hst hfr htb htl hQ hnorm hcont hret ⟨c7, by omega⟩
  · exact xtokSi s hs w0 w gb rb tb k x A c T hlt hx hst hfr htb htl hQ hnorm hcont hret ⟨by omega, by omega, by omega, c2, c7, c6, c3, c4, c5⟩
def TokOk (s : ByteArray) (t : Tok) : Prop := ∃ k : Nat, t.at_ = (k : Int) ∧ k < s.size ∧ ∃ n, StepOk (dr s k) (.tok t.k (lis t.s) n)
def LexSt (s : ByteArray) (k : Nat) (T : List Tok) : Prop := (∀ n R, lexL n (lis s) 0 = some R → ∃ m R', lexL m (dr s k) k = some R' ∧ R = T ++ R') ∧ ∀ t ∈ T, TokOk s t
def LexEnd (s : ByteArray) (w : World) (e : Ending) (w' : World) : Prop := ∃ (T : List Tok) (A : Option Addr) (c : Nat) (x y : Int), e = .returned (.agg #[.slice A T.length c, .int .i64 x, .int .i64 y]) ∧ Reads w' w'.heap.size 3 A T.length (T.flatMap tokC) ∧ Below w.heap.size w w' ∧
  (s.size ≤ 2000 → ∀ n R, lexL n (lis s) 0 = some R → T = R ∧ x = 0 ∧ y = 0) ∧ (∀ t ∈ T, TokOk s t) ∧ T.length ≤ s.size
theorem LexSt.start (s : ByteArray) : LexSt s 0 [] := ⟨fun n R h => ⟨n, R, h, rfl⟩, fun t h => by cases h⟩
theorem lexL_cons {s : ByteArray} {k m : Nat} {R : List Tok} {o : Out} (hlt : k < s.size) (ho : StepOk (dr s k) o) (h : lexL m (dr s k) k = some R) :
    (∃ j m', o = .skip j ∧ lexL m' (dr s (k + j)) (k + j) = some R) ∨ (∃ κ σ j m' R', o = .tok κ σ j ∧ lexL m' (dr s (k + j)) (k + j) = some R' ∧ R = ⟨κ, ⟨σ.toArray⟩, (k : Int)⟩ :: R') := by
  cases m with
  | zero => cases h
  | succ m =>
    have hd := dr_cons hlt
    rw [hd] at h
    simp only [lexL] at h
    rw [← hd] at h
    cases hs : stepL (dr s k) with
    | none => rw [hs] at h; cases h
    | some o' =>
      obtain rfl := ho.det hs
      rw [hs] at h
      cases o with
      | err => cases h
      | skip j =>
        simp only [dr_drop] at h
        exact .inl ⟨j, m, rfl, h⟩
      | tok κ σ j =>
        simp only [dr_drop, Option.map_eq_some_iff] at h
        obtain ⟨R', h1, h2⟩ := h
        exact .inr ⟨κ, σ, j, m, R', rfl, h1, h2.symm⟩
theorem LexSt.skip {s : ByteArray} {k j : Nat} {T : List Tok} (h : LexSt s k T) (hlt : k < s.size) (hj : k < j) (ho : StepOk (dr s k) (.skip (j - k))) : LexSt s j T := by
  refine ⟨fun n R hR => ?_, h.2⟩
  obtain ⟨m, R', h1, h2⟩ := h.1 n R hR
  rcases lexL_cons hlt ho h1 with ⟨i, m', hi, h3⟩ | ⟨κ, σ, i, m', R2, hi, _⟩
  · obtain rfl : j - k = i := by injection hi
    rw [show k + (j - k) = j by omega] at h3
    exact ⟨m', R', h3, h2⟩
  · cases hi
theorem LexSt.tok {s : ByteArray} {k j : Nat} {T : List Tok} {κ : Int} {σ : ByteArray} (h : LexSt s k T) (hlt : k < s.size) (hj : k < j) (ho : StepOk (dr s k) (.tok κ (lis σ) (j - k))) : LexSt s j (T ++ [⟨κ, σ, (k : Int)⟩]) := by
  refine ⟨fun n R hR => ?_, fun t ht => ?_⟩
  · obtain ⟨m, R', h1, h2⟩ := h.1 n R hR
    rcases lexL_cons hlt ho h1 with ⟨i, m', hi, _⟩ | ⟨κ', σ', i, m', R2, hi, h3, h4⟩
    · cases hi
    · injection hi with e1 e2 e3
      subst e1 e2 e3
      rw [show k + (j - k) = j by omega] at h3
      refine ⟨m', R2, h3, ?_⟩
      rw [h2, h4, List.append_assoc]
      rfl
  · rcases List.mem_append.1 ht with ht | ht
    · exact h.2 t ht
    · obtain rfl := List.mem_singleton.1 ht
      exact ⟨k, rfl, hlt, _, ho⟩
theorem LexSt.err {s : ByteArray} {k : Nat} {T : List Tok} (h : LexSt s k T) (hlt : k < s.size) (ho : StepOk (dr s k) .err) : ∀ n R, ¬ lexL n (lis s) 0 = some R := fun n R hR => by
  obtain ⟨m, R', h1, h2⟩ := h.1 n R hR
  rcases lexL_cons hlt ho h1 with ⟨i, m', hi, _⟩ | ⟨κ', σ', i, m', R2, hi, h3, h4⟩ <;> cases hi
theorem LexSt.done {s : ByteArray} {T : List Tok} (h : LexSt s s.size T) : ∀ n R, lexL n (lis s) 0 = some R → T = R := fun n R hR => by
  obtain ⟨m, R', h1, h2⟩ := h.1 n R hR
  rw [dr_end] at h1
  cases m with
  | zero => cases h1
  | succ m =>
    obtain rfl := Option.some.inj h1
    rw [h2, List.append_nil]
theorem TokSt.noneL {s : ByteArray} {w0 w : World} {gb rb : Nat} {A : Option Addr} {c : Nat} {T : List Tok} (h : TokSt w0 w gb rb A c T) (x y : Int) (hn : s.size ≤ 2000 → ∀ n R, ¬ lexL n (lis s) 0 = some R) :
    LexEnd s w0 (.returned (.agg #[.slice none 0 0, .int .i64 x, .int .i64 y])) (((w.setCell ⟨rb, 0, none⟩ (.slice none 0 0)).setCell ⟨rb, 1, none⟩ (.int .i64 x)).setCell ⟨rb, 2, none⟩ (.int .i64 y)) :=
  ⟨[], none, 0, x, y, rfl, Reads.none_, low3 h.rle h.low, fun h1 n R hR => absurd hR (hn h1 n R), (fun t ht => absurd ht (List.not_mem_nil)), Nat.zero_le _⟩
theorem TokSt.allL {s : ByteArray} {w0 w : World} {gb rb : Nat} {A : Option Addr} {c : Nat} {T : List Tok} (h : TokSt w0 w gb rb A c T) (hl : LexSt s s.size T) (hz : T.length ≤ s.size) :
    LexEnd s w0 (.returned (.agg #[.slice A T.length c, .int .i64 0, .int .i64 0])) (((w.setCell ⟨rb, 0, none⟩ (.slice A T.length c)).setCell ⟨rb, 1, none⟩ (.int .i64 0)).setCell ⟨rb, 2, none⟩ (.int .i64 0)) := by
  refine ⟨T, A, c, 0, 0, rfl, ?_, low3 h.rle h.low, fun _ n R hR => ⟨hl.done n R hR, rfl, rfl⟩, hl.2, hz⟩
  have r1 := h.r.set_ 0 (.slice A T.length c)
  have r2 := r1.set_ 1 (.int .i64 0)
  exact Reads.of_own (own_set (own_set (own_set h.own h.r (by decide)) r1 (by decide)) r2 (by decide))
set_option maxRecDepth 100000 in
set_option maxHeartbeats 16000000 in
theorem x43 (s : ByteArray) (hs : s.size ≤ 3000) (w : World) : Calls Tryd.prog 43 #[.string s] w (LexEnd s w) := by
  obtain ⟨i109, fi109, hz0, hz1, hz2⟩ := info_parts tok_info
  have H109 := Lib.hid (show i109.zero = some (.agg #[.int .i64 0, .string ⟨#[]⟩, .int .i64 0]) ∧ i109.size = 3 ∧ i109.bytes = 32 from ⟨hz0, hz1, hz2⟩)
  clear hz0 hz1 hz2
  have hR := Blk.new w 92 #[.slice none 0 0, .int .i64 0, .int .i64 0]
  have hB := below_new w (.cells #[.slice none 0 0, .int .i64 0, .int .i64 0] 92)
  generalize hw1 : w.alloc (.cells #[.slice none 0 0, .int .i64 0, .int .i64 0] 92) = w1 at hR hB
  have hG := Blk.new w1 92 #[.slice none 0 0, .int .i64 0, .int .i64 0]
  have hB1 := below_new w1 (.cells #[.slice none 0 0, .int .i64 0, .int .i64 0] 92)
  have hst : TokSt w (w1.alloc (.cells #[.slice none 0 0, .int .i64 0, .int .i64 0] 92)) w1.heap.size w.heap.size none 0 [] := ⟨hG, hR.next hB1, ⟨rfl, .inl ⟨rfl, rfl⟩⟩, next_ hB hB1, hB.size, Nat.le_refl _, by have := hR.lt; omega⟩
  have HST := Lib.hid hst
  have HR := Lib.hid hR
  have HB := Lib.hid hB
  have HLE := Lib.hid (Nat.le_refl w.heap.size)
  clear hst hR hB hG hB1
  go_enter Tryd.func43, Tryd.ntmps43
  go_upto_region 1 with fail
  clear hw1
  generalize hrb : w.heap.size = rb at HR HST ⊢
  have HRLE := Lib.hid (show w.heap.size ≤ rb by omega)
  clear hrb
  have r0 : w1.cell? ⟨rb, 0, none⟩ = some (.slice none 0 0) := HR.out.cell 0
  have r1 : w1.cell? ⟨rb, 1, none⟩ = some (.int .i64 0) := HR.out.cell 1
  have r2 : w1.cell? ⟨rb, 2, none⟩ = some (.int .i64 0) := HR.out.cell 2
  have f0 := HR.out.frozen 0
  have f1 := HR.out.frozen 1
  have f2 := HR.out.frozen 2
  by_cases h2000 : 2000 < s.size
  · have h2 : (2000 : Int) < (s.size : Int) := by omega
    go_wp2_with fail
    exact bodyPost_ret (results_cell_row rfl _ _ _ 92 _ (0, 0) _ rfl (row3 HR.out) Tryd.underlying92 rfl (by kernel_rfl)) rfl ⟨[], none, 0, 10, 0, rfl, Reads.none_, low3 HRLE.out HB.out, fun h => by omega, (fun t ht => absurd ht (List.not_mem_nil)), Nat.zero_le _⟩
  have h2 : ¬ (2000 : Int) < (s.size : Int) := by omega
  go_upto_region 4 with fail
  clear r0 r1 r2 f0 f1 f2
  generalize w1.alloc (.cells #[.slice none 0 0, .int .i64 0, .int .i64 0] 92) = w2 at HST ⊢
  generalize hgb : w1.heap.size = gb at HST ⊢
  clear hgb
  go_wp2_with fail
  go_loopw [4] (fun i wr => ∃ (k : Nat) (T : List Tok) (A : Option Addr) (c : Nat), k ≤ s.size ∧ i = .int .i64 k ∧ TokSt w wr gb rb A c T ∧ T.length ≤ k ∧ LexSt s k T) (fun i _ => s.size - (intOf i).toNat)
  case atStart => exact ⟨0, [], none, 0, by omega, rfl, HST.out, by simp, LexSt.start s⟩
  case round =>
    obtain ⟨k, T, A, c, hk, rfl, hst, hT, hlx⟩ := hrel
    have HLX := Lib.hid hlx
    clear hlx
    have HS0 := Lib.hid hst
    have HTL := Lib.hid hT
    clear hst hT HST HR HB
    by_cases hlt : k < s.size
    case neg =>
      obtain rfl : k = s.size := by omega
      have hlk : ¬ ((s.size : Int) < (s.size : Int)) := by omega
      have g0 : wr.cell? ⟨gb, 0, none⟩ = some (.slice A T.length c) := HS0.out.g.cell 0
      have g1 : wr.cell? ⟨gb, 1, none⟩ = some (.int .i64 0) := HS0.out.g.cell 1
      have g2 : wr.cell? ⟨gb, 2, none⟩ = some (.int .i64 0) := HS0.out.g.cell 2
      have r0 : wr.cell? ⟨rb, 0, none⟩ = some (.slice none 0 0) := HS0.out.r.cell 0
      have r1 : wr.cell? ⟨rb, 1, none⟩ = some (.int .i64 0) := HS0.out.r.cell 1
      have r2 : wr.cell? ⟨rb, 2, none⟩ = some (.int .i64 0) := HS0.out.r.cell 2
      have f0 := HS0.out.r.frozen 0
      have f1 := HS0.out.r.frozen 1
      have f2 := HS0.out.r.frozen 2
      go_wp2_with fail
      exact bodyPost_ret (results_cell_row rfl _ _ _ 92 _ (0, 0) _ rfl (row3 HS0.out.r) Tryd.underlying92 rfl (by kernel_rfl)) rfl (HS0.out.allL HLX.out HTL.out)
    have hlk : (k : Int) < (s.size : Int) := by omega
    have hk0 : (0 : Int) ≤ (k : Int) := by omega
    have hT := Blk.new wr 109 #[.int .i64 0, .string ⟨#[]⟩, .int .i64 (k : Int)]
    have hb := below_new wr (.cells #[.int .i64 0, .string ⟨#[]⟩, .int .i64 (k : Int)] 109)
    have HS1 := Lib.hid (HS0.out.next hb)
    have HFR := Lib.hid (HS0.out.fresh (Nat.le_refl _))
    have HTLE := Lib.hid (show w.heap.size ≤ wr.heap.size from HS0.out.low.size)
    generalize hw3 : wr.alloc (.cells #[.int .i64 0, .string ⟨#[]⟩, .int .i64 (k : Int)] 109) = w3 at hT hb HS1
    have HTB := Lib.hid hT
    clear hT hb
    go_upto_block 2 with fail
    clear hw3
    generalize hqq : s[k]'hlt = q
    have HQ := Lib.hid hqq
    clear hqq
    have HFR1 := HFR
    clear HFR HS0
    generalize wr.heap.size = tb at HTB HTLE HFR1 ⊢
    obtain ⟨x, hx⟩ : ∃ x : Int, (q.toNat : Int) = x := ⟨_, rfl⟩
    rw [hx]
    have HX := Lib.hid hx
    clear hx
    have hxq : ((s[k]'hlt).toNat : Int) = x := by rw [HQ.out]; exact HX.out
    refine xtokAll s hs w w3 gb rb tb k x A c T hlt hxq HS1.out HFR1.out HTB.out HTLE.out (fun _ _ d _ _ h => by cases d <;> exact h) ?_ ?_ ?_
    · intro j J κ σ w6 v8 v9 v26 v27 v28 v29 v30 v31 v32 v33 v34 v35 v36 v37 v38 v39 v40 v41 v42 v43 v44 v45 v46 v47 v48 v49 v50 v51 v52 v53 v54 v55 v56 v57 v58 v59 v60 v61 v62 v63 v64 v65 v66 v67 v68 v69 v70 v71 v72 v73 v74 v75 v76 v77 v78 v79 v80 v81 v82 v83 v84 v85 v86 v87 v88 v89 v90 v91 v92 v93 v94 v95 v96 v97 v98 v99 v100 v101 v102 v103 v104 v105 v106 v107 v108 v109 v110 v111 v112 v113 v114 v115 v116 v117 v118 v119 v120 v121 v122 v123 v124 v125 v126 v127 v128 v129 v130 v131 v132 v133 v134 v135 v136 v137 v138 v139 v140 v141 v142 v143 v144 v145 v146 v147 v148 v149 v150 v151 v152 v153 v154 v155 v156 v157 v158 v159 v160 v161 v162 v163 v164 v165 v166 v167 v168 v169 v170 v171 v172 v173 v174 v175 v176 v177 v178 v179 v180 v181 v182 v183 v184 v185 v186 v187 v188 v189 v190 v191 v192 v193 hJ hj1 hj2 hS6 hT6 hSO
      have HSO := Lib.hid hSO
      clear hSO
      subst hJ
      dsimp only [ptr]
      have HS6 := Lib.hid hS6
      have HT6 := Lib.hid hT6
      clear hS6 hT6 HS1 HTB HFR1 HX HQ hxq
      have t0 : w6.cell? ⟨tb, 0, none⟩ = some (.int .i64 κ) := HT6.out.cell 0
      have t1 : w6.cell? ⟨tb, 1, none⟩ = some (.string σ) := HT6.out.cell 1
      have t2 : w6.cell? ⟨tb, 2, none⟩ = some (.int .i64 (k : Int)) := HT6.out.cell 2
      have g0 : w6.cell? ⟨gb, 0, none⟩ = some (.slice A T.length c) := HS6.out.g.cell 0
      have hz : ∀ b : World, b = b := fun _ => rfl
      go_upto_region 42 with (at_builtin; refine wpList_append_any _ rfl (.tmp 195) (.tmp 197) 90 rfl w.heap.size 109 i109 _ 3 32 Tryd.underlying90 fi109 H109.out.1 H109.out.2.1 H109.out.2.2 rfl (by omega) (.slice A T.length c) T.length (T.flatMap tokC) rfl (own_next HS6.out.own (below_new _ _)) (w6.heap.size + 1) (some ⟨w6.heap.size, 0, none⟩) 1 1 (tokC ⟨κ, σ, k⟩) rfl (reads_row3 (Blk.new w6 109 #[.int .i64 κ, .string σ, .int .i64 (k : Int)])) (tok_one [⟨κ, σ, k⟩]) (by unfold maxLen; have := HTL.out; omega) (by have := HTL.out; omega) (by rw [World.size_alloc]; have := HS6.out.low.size; omega) ?_; intro v1 w7 oA gA nA; obtain ⟨A1, c1, rfl, hS8, hG8⟩ := (HS6.out.next (below_new w6 (.cells #[.int .i64 κ, .string σ, .int .i64 (k : Int)] 109))).push ⟨κ, σ, k⟩ oA gA; have HS8 := Lib.hid hS8; have z0 : w7.cell? ⟨gb, 0, none⟩ = some (.slice A T.length c) := hG8.cell 0; have zf := hG8.frozen 0; clear oA gA nA hS8 hG8)
      clear z0 zf t0 t1 t2 g0
      have hl9 : (T ++ [(⟨κ, σ, k⟩ : Tok)]).length = T.length + 1 := by rw [List.length_append]; rfl
      rw [hl9] at HS8
      generalize w7.setCell ⟨gb, 0, none⟩ (.slice A1 (T.length + 1) c1) = w8 at HS8 ⊢
      have HL9 := Lib.hid hl9
      clear hl9
      go_wp2_with fail
      go_roundw
      case rel => exact ⟨j, _, A1, c1, by omega, by first | rfl | go_num, HS8.out, by have := HTL.out; have := HL9.out; omega, HLX.out.tok hlt (by omega) HSO.out⟩
      case measure => simp [intOf]; omega
    · intro j J w6 v6 v8 v9 v26 v27 v28 v29 v30 v31 v32 v33 v34 v35 v36 v37 v38 v39 v40 v41 v42 v43 v44 v45 v46 v47 v48 v49 v50 v51 v52 v53 v54 v55 v56 v57 v58 v59 v60 v61 v62 v63 v64 v65 v66 v67 v68 v69 v70 v71 v72 v73 v74 v75 v76 v77 v78 v79 v80 v81 v82 v83 v84 v85 v86 v87 v88 v89 v90 v91 v92 v93 v94 v95 v96 v97 v98 v99 v100 v101 v102 v103 v104 v105 v106 v107 v108 v109 v110 v111 v112 v113 v114 v115 v116 v117 v118 v119 v120 v121 v122 v123 v124 v125 v126 v127 v128 v129 v130 v131 v132 v133 v134 v135 v136 v137 v138 v139 v140 v141 v142 v143 v144 v145 v146 v147 v148 v149 v150 v151 v152 v153 v154 v155 v156 v157 v158 v159 v160 v161 v162 v163 v164 v165 v166 v167 v168 v169 v170 v171 v172 v173 v174 v175 v176 v177 v178 v179 v180 v181 v182 v183 v184 v185 v186 v187 v188 v189 v190 v191 v192 v193 hJ hj1 hj2 hS6 hSO
      have HSO := Lib.hid hSO
      clear hSO
      subst hJ
      dsimp only [ptr]
      have HS6 := Lib.hid hS6
      clear hS6
      go_wp2_with fail
      go_roundw
      case rel => exact ⟨j, T, A, c, by omega, by first | rfl | go_num, HS6.out, by have := HTL.out; omega, HLX.out.skip hlt (by omega) HSO.out⟩
      case measure => simp [intOf]; omega
    · intro a X Y w6 hS6 hSO hd h2
      exact bodyPost_ret (results_cell_row rfl _ _ _ 92 _ (0, 0) _ h2 (row3 hS6.r) Tryd.underlying92 rfl (by kernel_rfl)) hd (hS6.noneL X Y (fun _ => HLX.out.err hlt hSO))
def NameOk (s : ByteArray) : Prop := ∃ n, stepL (lis s) = some (.tok 1 (lis s) n)
def OneEnd (s : ByteArray) (kind : Int) (w : World) (e : Ending) (w' : World) : Prop := ∃ r, e = .returned (.bool r) ∧ Below w.heap.size w w' ∧ (kind = 1 → r = true → NameOk s)
def NameEnd (s : ByteArray) (w : World) (e : Ending) (w' : World) : Prop := ∃ r, e = .returned (.bool r) ∧ Below w.heap.size w w' ∧ (r = true → NameOk s)
theorem name_of {s : ByteArray} {p : Tok} (h : TokOk s p) (hk : p.k = 1) (hs : (p.s.toList == s.toList) = true) (ha : p.at_ = 0) : NameOk s := by
  obtain ⟨k, h1, h2, n, h3⟩ := h
  have hs' : p.s = s := by
    rw [toL, toL] at hs
    exact bytes_inj (beq_iff_eq.1 hs)
  rw [hk, hs'] at h3
  obtain rfl : k = 0 := by omega
  exact ⟨n, h3.name⟩
set_option maxRecDepth 100000 in
set_option maxHeartbeats 4000000 in
theorem x49 (s : ByteArray) (kind : Int) (hs : s.size ≤ 3000) (w : World) : Calls Tryd.prog 49 #[.string s, .int .i64 kind] w (OneEnd s kind w) := by
  have HC := Lib.hid (x43 s hs w)
  go_enter Tryd.func49, Tryd.ntmps49
  go_wp2_with fail
  refine HC.out.mono ?_
  rintro e w1 ⟨T, A, c, X, Y, rfl, hr, hb, _, hok, _⟩
  have HOK := Lib.hid hok
  clear hok
  have HR := Lib.hid hr
  have HB := Lib.hid hb
  clear hr hb HC
  have hx := Blk.new w1 92 #[.slice A T.length c, .int .i64 X, .int .i64 Y]
  have hb2 := below_new w1 (.cells #[.slice A T.length c, .int .i64 X, .int .i64 Y] 92)
  have HR2 := Lib.hid (HR.out.below hb2)
  have HB2 := Lib.hid (next_ HB.out hb2)
  generalize hw2 : w1.alloc (.cells #[.slice A T.length c, .int .i64 X, .int .i64 Y] 92) = w2 at hx hb2 HR2 HB2
  have HX := Lib.hid hx
  clear hx hb2
  go_upto_region 2 with fail
  clear hw2
  generalize w1.heap.size = xb at HX ⊢
  have x0 : w2.cell? ⟨xb, 0, none⟩ = some (.slice A T.length c) := HX.out.cell 0
  by_cases h1 : T.length = 1
  case neg =>
    have e1 : ((T.length : Int) == 1) = false := beq_false_of_ne (by omega)
    go_wp2_with fail
    go_ret
    exact ⟨_, rfl, HB2.out, fun _ h => by cases h⟩
  obtain ⟨p, rfl⟩ : ∃ p, T = [p] := List.length_eq_one_iff.1 h1
  obtain ⟨ad, rfl, _, hcs⟩ := HR2.out.tokAt (k := 0) (p := p) rfl
  have HCS := Lib.hid hcs
  have hz : ad.add 0 = ad := by cases ad with | mk b o t => cases t <;> simp [Addr.add]
  have a0 : w2.cell? ad = some (.int .i64 p.k) := by have h9 := hcs 0 _ rfl; rw [add_of_add] at h9; rw [← hz]; simpa using h9
  have a1 : w2.cell? ⟨ad.block, ad.off + 1, none⟩ = some (.string p.s) := by have h9 := hcs 1 _ rfl; rw [add_of_add] at h9; simpa [Addr.add] using h9
  have a2 : w2.cell? ⟨ad.block, ad.off + 2, none⟩ = some (.int .i64 p.at_) := by have h9 := hcs 2 _ rfl; rw [add_of_add] at h9; simpa [Addr.add] using h9
  clear hcs
  by_cases h2 : p.k = kind
  case neg =>
    have e2 : (p.k == kind) = false := beq_false_of_ne h2
    go_wp2_with fail
    go_ret
    exact ⟨_, rfl, HB2.out, fun _ h => by cases h⟩
  have e2 : (p.k == kind) = true := beq_iff_eq.2 h2
  cases h3 : (p.s.toList == s.toList) with
  | false =>
    go_wp2_with fail
    go_ret
    exact ⟨_, rfl, HB2.out, fun _ h => by cases h⟩
  | true =>
    cases h4 : (p.at_ == 0) with
    | false =>
      go_wp2_with fail
      go_ret
      exact ⟨_, rfl, HB2.out, fun _ h => by cases h⟩
    | true =>
      have HNM := Lib.hid (show kind = 1 → NameOk s from fun hk => name_of (HOK.out p (List.mem_singleton.2 rfl)) (h2.trans hk) h3 (beq_iff_eq.1 h4))
      go_wp2_with fail
      go_ret
      exact ⟨_, rfl, HB2.out, fun h _ => HNM.out h⟩
set_option maxRecDepth 100000 in
set_option maxHeartbeats 4000000 in
theorem x30 (s : ByteArray) (hs : s.size ≤ 3000) (w : World) : Calls Tryd.prog 30 #[.string s] w (NameEnd s w) := by
  have HC := Lib.hid (x49 s 1 hs w)
  go_enter Tryd.func30, Tryd.ntmps30
  go_wp2_with fail
  refine HC.out.mono ?_
  rintro e w1 ⟨r, rfl, hb, hr⟩
  have HR := Lib.hid (hr rfl)
  clear hr
  have HB := Lib.hid hb
  clear hb
  go_wp2_with fail
  go_ret
  exact ⟨_, rfl, HB.out, HR.out⟩
set_option maxRecDepth 100000 in
set_option maxHeartbeats 4000000 in
theorem c31 (s : ByteArray) (hs : s.size ≤ 3000) (w : World) : Calls Tryd.prog 31 #[.string s] w (BoolEnd w) := by
  have HC := Lib.hid (x49 s 2 hs w)
  go_enter Tryd.func31, Tryd.ntmps31
  go_wp2_with fail
  refine HC.out.mono ?_
  rintro e w1 ⟨r, rfl, hb, _⟩
  have HB := Lib.hid hb
  clear hb
  go_wp2_with fail
  go_ret
  exact ⟨_, rfl, HB.out⟩
def StrEnd (w : World) (e : Ending) (w' : World) : Prop := ∃ q : ByteArray, e = .returned (.string q) ∧ Below w.heap.size w w'
set_option maxRecDepth 100000 in
set_option maxHeartbeats 4000000 in
theorem c32 (s : ByteArray) (hs : s.size ≤ 3000) (w : World) : Calls Tryd.prog 32 #[.string s] w (StrEnd w) := by
  go_enter Tryd.func32, Tryd.ntmps32
  go_wp2_with fail
  go_loopw [3, 4] (fun o i wr => ∃ (k : Nat) (q : ByteArray), k ≤ s.size ∧ i = .int .i64 k ∧ o = .string q ∧ q.size ≤ 2 * k + 1 ∧ wr = w) (fun _ i _ => s.size - (intOf i).toNat)
  case atStart => exact ⟨0, ⟨#[34]⟩, by omega, rfl, rfl, by decide, rfl⟩
  case round =>
    obtain ⟨k, q, hk, rfl, rfl, hq, rfl⟩ := hrel
    have HQ := Lib.hid hq
    have hq2 : q.size ≤ 6001 := by omega
    clear hq
    by_cases hlt : k < s.size
    · have hlk : (k : Int) < (s.size : Int) := by omega
      have hk0 : (0 : Int) ≤ (k : Int) := by omega
      have hk1 : (k : Int) ≤ (k : Int) + 1 := by omega
      have hk2 : (k : Int) + 1 ≤ (s.size : Int) := by omega
      go_wp2_with fail
      all_goals first
        | (go_ret; exact ⟨_, rfl, Below.refl _ _⟩)
        | exact ⟨⟨k + 1, _, by omega, by go_num, rfl, by have := HQ.out; simp only [ByteArray.size_append, ByteArray.size_extract, show (ByteArray.mk #[92, 110]).size = 2 from rfl, show (ByteArray.mk #[92]).size = 1 from rfl]; omega, by first | rfl | trivial⟩, by simp [intOf]; omega⟩
    · obtain rfl : k = s.size := by omega
      have hlk : ¬ ((s.size : Int) < (s.size : Int)) := by omega
      go_wp2_with fail
      all_goals (go_ret; exact ⟨_, rfl, Below.refl _ _⟩)
end Go.Proofs.YtphojigdapaaiaaDoor
