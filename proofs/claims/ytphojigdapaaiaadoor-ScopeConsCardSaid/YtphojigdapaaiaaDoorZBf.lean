/- The document's tokens, exactly: the ways of one round. -/
import Derived.Test.YtphojigdapaaiaaDoorZBe
import Derived.Test.YtphojigdapaaiaaDoorSHp
namespace Go.Proofs.YtphojigdapaaiaaDoor
open Go.ChangeShapes Go.WideShapes Go.ChangeAt Go.RowKit
set_option linter.unusedVariables false
set_option linter.unusedSimpArgs false
set_option maxRecDepth 100000 in
set_option maxHeartbeats 16000000 in
theorem xtokSp {u1 u10 u11 u12 u13 u14 u15 u16 u17 u18 u19 u20 u21 u22 u23 u24 u25 u194 u195 u196 u197 u198 u199 u200 u201 u8 u9 u26 u27 u28 u29 u30 u31 u32 u33 u34 u35 u36 u37 u38 u39 u40 u41 u42 u43 u44 u45 u46 u47 u48 u49 u50 u51 u52 u53 u54 u55 u56 u57 u58 u59 u60 u61 u62 u63 u64 u65 u66 u67 u68 u69 u70 u71 u72 u73 u74 u75 u76 u77 u78 u79 u80 u81 u82 u83 u84 u85 u86 u87 u88 u89 u90 u91 u92 u93 u94 u95 u96 u97 u98 u99 u100 u101 u102 u103 u104 u105 u106 u107 u108 u109 u110 u111 u112 u113 u114 u115 u116 u117 u118 u119 u120 u121 u122 u123 u124 u125 u126 u127 u128 u129 u130 u131 u132 u133 u134 u135 u136 u137 u138 u139 u140 u141 u142 u143 u144 u145 u146 u147 u148 u149 u150 u151 u152 u153 u154 u155 u156 u157 u158 u159 u160 u161 u162 u163 u164 u165 u166 u167 u168 u169 u170 u171 u172 u173 u174 u175 u176 u177 u178 u179 u180 u181 u182 u183 u184 u185 u186 u187 u188 u189 u190 u191 u192 u193 : Value} {Q : Exit → Act → World → Prop} (s : ByteArray) (hs : s.size ≤ 3000) (w0 w : World) (gb rb tb k : Nat) (x : Int) (A : Option Addr) (c : Nat) (T : List Tok) (hlt : k < s.size) (hx : ((s[k]'hlt).toNat : Int) = x) (hst : TokSt w0 w gb rb A c T) (hfr : (Value.slice A T.length c).ownBlock ≠ some tb) (htb : Blk w tb 109 #[.int .i64 0, .string ⟨#[]⟩, .int .i64 (k : Int)]) (htl : w0.heap.size ≤ tb)
    (hQ : ∀ c (a : Act) d v w', Q (.panic c) (a.put d v) w' → Q (.panic c) a w')
    (hnorm : ∀ (j : Nat) (J κ : Int) (σ : ByteArray) (w' : World) (v8 v9 v26 v27 v28 v29 v30 v31 v32 v33 v34 v35 v36 v37 v38 v39 v40 v41 v42 v43 v44 v45 v46 v47 v48 v49 v50 v51 v52 v53 v54 v55 v56 v57 v58 v59 v60 v61 v62 v63 v64 v65 v66 v67 v68 v69 v70 v71 v72 v73 v74 v75 v76 v77 v78 v79 v80 v81 v82 v83 v84 v85 v86 v87 v88 v89 v90 v91 v92 v93 v94 v95 v96 v97 v98 v99 v100 v101 v102 v103 v104 v105 v106 v107 v108 v109 v110 v111 v112 v113 v114 v115 v116 v117 v118 v119 v120 v121 v122 v123 v124 v125 v126 v127 v128 v129 v130 v131 v132 v133 v134 v135 v136 v137 v138 v139 v140 v141 v142 v143 v144 v145 v146 v147 v148 v149 v150 v151 v152 v153 v154 v155 v156 v157 v158 v159 v160 v161 v162 v163 v164 v165 v166 v167 v168 v169 v170 v171 v172 v173 v174 v175 v176 v177 v178 v179 v180 v181 v182 v183 v184 v185 v186 v187 v188 v189 v190 v191 v192 v193 : Value), J = (j : Int) → k < j → j ≤ s.size → TokSt w0 w' gb rb A c T → Blk w' tb 109 #[.int .i64 κ, .string σ, .int .i64 (k : Int)] → StepOk (dr s k) (.tok κ (lis σ) (j - k)) → Q .normal ⟨#[.string s, u1, ptr rb, ptr gb, .int .i64 (k : Int), .int .u8 x, .int .i64 J, ptr tb, v8, v9, u10, u11, u12, u13, u14, u15, u16, u17, u18, u19, u20, u21, u22, u23, u24, u25, v26, v27, v28, v29, v30, v31, v32, v33, v34, v35, v36, v37, v38, v39, v40, v41, v42, v43, v44, v45, v46, v47, v48, v49, v50, v51, v52, v53, v54, v55, v56, v57, v58, v59, v60, v61, v62, v63, v64, v65, v66, v67, v68, v69, v70, v71, v72, v73, v74, v75, v76, v77, v78, v79, v80, v81, v82, v83, v84, v85, v86, v87, v88, v89, v90, v91, v92, v93, v94, v95, v96, v97, v98, v99, v100, v101, v102, v103, v104, v105, v106, v107, v108, v109, v110, v111, v112, v113, v114, v115, v116, v117, v118, v119, v120, v121, v122, v123, v124, v125, v126, v127, v128, v129, v130, v131, v132, v133, v134, v135, v136, v137, v138, v139, v140, v141, v142, v143, v144, v145, v146, v147, v148, v149, v150, v151, v152, v153, v154, v155, v156, v157, v158, v159, v160, v161, v162, v163, v164, v165, v166, v167, v168, v169, v170, v171, v172, v173, v174, v175, v176, v177, v178, v179, v180, v181, v182, v183, v184, v185, v186, v187, v188, v189, v190, v191, v192, v193, u194, u195, u196, u197, u198, u199, u200, u201], []⟩ w')
    (hcont : ∀ (j : Nat) (J : Int) (w' : World) (v6 v8 v9 v26 v27 v28 v29 v30 v31 v32 v33 v34 v35 v36 v37 v38 v39 v40 v41 v42 v43 v44 v45 v46 v47 v48 v49 v50 v51 v52 v53 v54 v55 v56 v57 v58 v59 v60 v61 v62 v63 v64 v65 v66 v67 v68 v69 v70 v71 v72 v73 v74 v75 v76 v77 v78 v79 v80 v81 v82 v83 v84 v85 v86 v87 v88 v89 v90 v91 v92 v93 v94 v95 v96 v97 v98 v99 v100 v101 v102 v103 v104 v105 v106 v107 v108 v109 v110 v111 v112 v113 v114 v115 v116 v117 v118 v119 v120 v121 v122 v123 v124 v125 v126 v127 v128 v129 v130 v131 v132 v133 v134 v135 v136 v137 v138 v139 v140 v141 v142 v143 v144 v145 v146 v147 v148 v149 v150 v151 v152 v153 v154 v155 v156 v157 v158 v159 v160 v161 v162 v163 v164 v165 v166 v167 v168 v169 v170 v171 v172 v173 v174 v175 v176 v177 v178 v179 v180 v181 v182 v183 v184 v185 v186 v187 v188 v189 v190 v191 v192 v193 : Value), J = (j : Int) → k < j → j ≤ s.size → TokSt w0 w' gb rb A c T → StepOk (dr s k) (.skip (j - k)) → Q (.exit 1) ⟨#[.string s, u1, ptr rb, ptr gb, .int .i64 J, .int .u8 x, v6, ptr tb, v8, v9, u10, u11, u12, u13, u14, u15, u16, u17, u18, u19, u20, u21, u22, u23, u24, u25, v26, v27, v28, v29, v30, v31, v32, v33, v34, v35, v36, v37, v38, v39, v40, v41, v42, v43, v44, v45, v46, v47, v48, v49, v50, v51, v52, v53, v54, v55, v56, v57, v58, v59, v60, v61, v62, v63, v64, v65, v66, v67, v68, v69, v70, v71, v72, v73, v74, v75, v76, v77, v78, v79, v80, v81, v82, v83, v84, v85, v86, v87, v88, v89, v90, v91, v92, v93, v94, v95, v96, v97, v98, v99, v100, v101, v102, v103, v104, v105, v106, v107, v108, v109, v110, v111, v112, v113, v114, v115, v116, v117, v118, v119, v120, v121, v122, v123, v124, v125, v126, v127, v128, v129, v130, v131, v132, v133, v134, v135, v136, v137, v138, v139, v140, v141, v142, v143, v144, v145, v146, v147, v148, v149, v150, v151, v152, v153, v154, v155, v156, v157, v158, v159, v160, v161, v162, v163, v164, v165, v166, v167, v168, v169, v170, v171, v172, v173, v174, v175, v176, v177, v178, v179, v180, v181, v182, v183, v184, v185, v186, v187, v188, v189, v190, v191, v192, v193, u194, u195, u196, u197, u198, u199, u200, u201], []⟩ w')
    (hret : ∀ (a : Act) (X Y : Int) (w' : World), TokSt w0 w' gb rb A c T → StepOk (dr s k) .err → a.defers = [] → a.tmps.getD 2 undef = ptr rb → Q .ret a (((w'.setCell ⟨rb, 0, none⟩ (.slice none 0 0)).setCell ⟨rb, 1, none⟩ (.int .i64 X)).setCell ⟨rb, 2, none⟩ (.int .i64 Y))) (hc : x = 32 ∨ x = 9 ∨ x = 10) :
    Code.wp Tryd.prog (block43 2) Q ⟨#[.string s, u1, ptr rb, ptr gb, .int .i64 (k : Int), .int .u8 x, .int .i64 ((k : Int) + 1), ptr tb, u8, u9, u10, u11, u12, u13, u14, u15, u16, u17, u18, u19, u20, u21, u22, u23, u24, u25, u26, u27, u28, u29, u30, u31, u32, u33, u34, u35, u36, u37, u38, u39, u40, u41, u42, u43, u44, u45, u46, u47, u48, u49, u50, u51, u52, u53, u54, u55, u56, u57, u58, u59, u60, u61, u62, u63, u64, u65, u66, u67, u68, u69, u70, u71, u72, u73, u74, u75, u76, u77, u78, u79, u80, u81, u82, u83, u84, u85, u86, u87, u88, u89, u90, u91, u92, u93, u94, u95, u96, u97, u98, u99, u100, u101, u102, u103, u104, u105, u106, u107, u108, u109, u110, u111, u112, u113, u114, u115, u116, u117, u118, u119, u120, u121, u122, u123, u124, u125, u126, u127, u128, u129, u130, u131, u132, u133, u134, u135, u136, u137, u138, u139, u140, u141, u142, u143, u144, u145, u146, u147, u148, u149, u150, u151, u152, u153, u154, u155, u156, u157, u158, u159, u160, u161, u162, u163, u164, u165, u166, u167, u168, u169, u170, u171, u172, u173, u174, u175, u176, u177, u178, u179, u180, u181, u182, u183, u184, u185, u186, u187, u188, u189, u190, u191, u192, u193, u194, u195, u196, u197, u198, u199, u200, u201], []⟩ w := by
  have HN := Lib.hid hnorm
  have HQ := Lib.hid hQ
  clear hQ
  have HC := Lib.hid hcont
  have HT := Lib.hid hret
  have HST := Lib.hid hst
  have HFR := Lib.hid hfr
  have HTB := Lib.hid htb
  have HTL := Lib.hid htl
  have HX := Lib.hid hx
  clear hnorm hcont hret hst hfr htb htl hx
  have hlk : (k : Int) < (s.size : Int) := by omega
  have hk0 : (0 : Int) ≤ (k : Int) := by omega
  conv => arg 2; whnf
  rcases hc with rfl | rfl | rfl
  all_goals (
    go_wp2_with fail
    exact HC.out (k + 1) _ _ _ _ _ _ _ _ _ _ _ _ _ _ _ _ _ _ _ _ _ _ _ _ _ _ _ _ _ _ _ _ _ _ _ _ _ _ _ _ _ _ _ _ _ _ _ _ _ _ _ _ _ _ _ _ _ _ _ _ _ _ _ _ _ _ _ _ _ _ _ _ _ _ _ _ _ _ _ _ _ _ _ _ _ _ _ _ _ _ _ _ _ _ _ _ _ _ _ _ _ _ _ _ _ _ _ _ _ _ _ _ _ _ _ _ _ _ _ _ _ _ _ _ _ _ _ _ _ _ _ _ _ _ _ _ _ _ _ _ _ _ _ _ _ _ _ _ _ _ _ _ _ _ _ _ _ _ _ _ _ _ _ _ _ _ _ _ _ _ _ _ _ (by omega) (by omega) (by omega) HST.out (by rw [show k + 1 - k = 1 by omega]; exact step_space hlt HX.out (by decide)))
set_option maxRecDepth 100000 in
set_option maxHeartbeats 16000000 in
theorem xtokHash {u1 u10 u11 u12 u13 u14 u15 u16 u17 u18 u19 u20 u21 u22 u23 u24 u25 u194 u195 u196 u197 u198 u199 u200 u201 u8 u9 u26 u27 u28 u29 u30 u31 u32 u33 u34 u35 u36 u37 u38 u39 u40 u41 u42 u43 u44 u45 u46 u47 u48 u49 u50 u51 u52 u53 u54 u55 u56 u57 u58 u59 u60 u61 u62 u63 u64 u65 u66 u67 u68 u69 u70 u71 u72 u73 u74 u75 u76 u77 u78 u79 u80 u81 u82 u83 u84 u85 u86 u87 u88 u89 u90 u91 u92 u93 u94 u95 u96 u97 u98 u99 u100 u101 u102 u103 u104 u105 u106 u107 u108 u109 u110 u111 u112 u113 u114 u115 u116 u117 u118 u119 u120 u121 u122 u123 u124 u125 u126 u127 u128 u129 u130 u131 u132 u133 u134 u135 u136 u137 u138 u139 u140 u141 u142 u143 u144 u145 u146 u147 u148 u149 u150 u151 u152 u153 u154 u155 u156 u157 u158 u159 u160 u161 u162 u163 u164 u165 u166 u167 u168 u169 u170 u171 u172 u173 u174 u175 u176 u177 u178 u179 u180 u181 u182 u183 u184 u185 u186 u187 u188 u189 u190 u191 u192 u193 : Value} {Q : Exit → Act → World → Prop} (s : ByteArray) (hs : s.size ≤ 3000) (w0 w : World) (gb rb tb k : Nat) (x : Int) (A : Option Addr) (c : Nat) (T : List Tok) (hlt : k < s.size) (hx : ((s[k]'hlt).toNat : Int) = x) (hst : TokSt w0 w gb rb A c T) (hfr : (Value.slice A T.length c).ownBlock ≠ some tb) (htb : Blk w tb 109 #[.int .i64 0, .string ⟨#[]⟩, .int .i64 (k : Int)]) (htl : w0.heap.size ≤ tb)
    (hQ : ∀ c (a : Act) d v w', Q (.panic c) (a.put d v) w' → Q (.panic c) a w')
    (hnorm : ∀ (j : Nat) (J κ : Int) (σ : ByteArray) (w' : World) (v8 v9 v26 v27 v28 v29 v30 v31 v32 v33 v34 v35 v36 v37 v38 v39 v40 v41 v42 v43 v44 v45 v46 v47 v48 v49 v50 v51 v52 v53 v54 v55 v56 v57 v58 v59 v60 v61 v62 v63 v64 v65 v66 v67 v68 v69 v70 v71 v72 v73 v74 v75 v76 v77 v78 v79 v80 v81 v82 v83 v84 v85 v86 v87 v88 v89 v90 v91 v92 v93 v94 v95 v96 v97 v98 v99 v100 v101 v102 v103 v104 v105 v106 v107 v108 v109 v110 v111 v112 v113 v114 v115 v116 v117 v118 v119 v120 v121 v122 v123 v124 v125 v126 v127 v128 v129 v130 v131 v132 v133 v134 v135 v136 v137 v138 v139 v140 v141 v142 v143 v144 v145 v146 v147 v148 v149 v150 v151 v152 v153 v154 v155 v156 v157 v158 v159 v160 v161 v162 v163 v164 v165 v166 v167 v168 v169 v170 v171 v172 v173 v174 v175 v176 v177 v178 v179 v180 v181 v182 v183 v184 v185 v186 v187 v188 v189 v190 v191 v192 v193 : Value), J = (j : Int) → k < j → j ≤ s.size → TokSt w0 w' gb rb A c T → Blk w' tb 109 #[.int .i64 κ, .string σ, .int .i64 (k : Int)] → StepOk (dr s k) (.tok κ (lis σ) (j - k)) → Q .normal ⟨#[.string s, u1, ptr rb, ptr gb, .int .i64 (k : Int), .int .u8 x, .int .i64 J, ptr tb, v8, v9, u10, u11, u12, u13, u14, u15, u16, u17, u18, u19, u20, u21, u22, u23, u24, u25, v26, v27, v28, v29, v30, v31, v32, v33, v34, v35, v36, v37, v38, v39, v40, v41, v42, v43, v44, v45, v46, v47, v48, v49, v50, v51, v52, v53, v54, v55, v56, v57, v58, v59, v60, v61, v62, v63, v64, v65, v66, v67, v68, v69, v70, v71, v72, v73, v74, v75, v76, v77, v78, v79, v80, v81, v82, v83, v84, v85, v86, v87, v88, v89, v90, v91, v92, v93, v94, v95, v96, v97, v98, v99, v100, v101, v102, v103, v104, v105, v106, v107, v108, v109, v110, v111, v112, v113, v114, v115, v116, v117, v118, v119, v120, v121, v122, v123, v124, v125, v126, v127, v128, v129, v130, v131, v132, v133, v134, v135, v136, v137, v138, v139, v140, v141, v142, v143, v144, v145, v146, v147, v148, v149, v150, v151, v152, v153, v154, v155, v156, v157, v158, v159, v160, v161, v162, v163, v164, v165, v166, v167, v168, v169, v170, v171, v172, v173, v174, v175, v176, v177, v178, v179, v180, v181, v182, v183, v184, v185, v186, v187, v188, v189, v190, v191, v192, v193, u194, u195, u196, u197, u198, u199, u200, u201], []⟩ w')
    (hcont : ∀ (j : Nat) (J : Int) (w' : World) (v6 v8 v9 v26 v27 v28 v29 v30 v31 v32 v33 v34 v35 v36 v37 v38 v39 v40 v41 v42 v43 v44 v45 v46 v47 v48 v49 v50 v51 v52 v53 v54 v55 v56 v57 v58 v59 v60 v61 v62 v63 v64 v65 v66 v67 v68 v69 v70 v71 v72 v73 v74 v75 v76 v77 v78 v79 v80 v81 v82 v83 v84 v85 v86 v87 v88 v89 v90 v91 v92 v93 v94 v95 v96 v97 v98 v99 v100 v101 v102 v103 v104 v105 v106 v107 v108 v109 v110 v111 v112 v113 v114 v115 v116 v117 v118 v119 v120 v121 v122 v123 v124 v125 v126 v127 v128 v129 v130 v131 v132 v133 v134 v135 v136 v137 v138 v139 v140 v141 v142 v143 v144 v145 v146 v147 v148 v149 v150 v151 v152 v153 v154 v155 v156 v157 v158 v159 v160 v161 v162 v163 v164 v165 v166 v167 v168 v169 v170 v171 v172 v173 v174 v175 v176 v177 v178 v179 v180 v181 v182 v183 v184 v185 v186 v187 v188 v189 v190 v191 v192 v193 : Value), J = (j : Int) → k < j → j ≤ s.size → TokSt w0 w' gb rb A c T → StepOk (dr s k) (.skip (j - k)) → Q (.exit 1) ⟨#[.string s, u1, ptr rb, ptr gb, .int .i64 J, .int .u8 x, v6, ptr tb, v8, v9, u10, u11, u12, u13, u14, u15, u16, u17, u18, u19, u20, u21, u22, u23, u24, u25, v26, v27, v28, v29, v30, v31, v32, v33, v34, v35, v36, v37, v38, v39, v40, v41, v42, v43, v44, v45, v46, v47, v48, v49, v50, v51, v52, v53, v54, v55, v56, v57, v58, v59, v60, v61, v62, v63, v64, v65, v66, v67, v68, v69, v70, v71, v72, v73, v74, v75, v76, v77, v78, v79, v80, v81, v82, v83, v84, v85, v86, v87, v88, v89, v90, v91, v92, v93, v94, v95, v96, v97, v98, v99, v100, v101, v102, v103, v104, v105, v106, v107, v108, v109, v110, v111, v112, v113, v114, v115, v116, v117, v118, v119, v120, v121, v122, v123, v124, v125, v126, v127, v128, v129, v130, v131, v132, v133, v134, v135, v136, v137, v138, v139, v140, v141, v142, v143, v144, v145, v146, v147, v148, v149, v150, v151, v152, v153, v154, v155, v156, v157, v158, v159, v160, v161, v162, v163, v164, v165, v166, v167, v168, v169, v170, v171, v172, v173, v174, v175, v176, v177, v178, v179, v180, v181, v182, v183, v184, v185, v186, v187, v188, v189, v190, v191, v192, v193, u194, u195, u196, u197, u198, u199, u200, u201], []⟩ w')
    (hret : ∀ (a : Act) (X Y : Int) (w' : World), TokSt w0 w' gb rb A c T → StepOk (dr s k) .err → a.defers = [] → a.tmps.getD 2 undef = ptr rb → Q .ret a (((w'.setCell ⟨rb, 0, none⟩ (.slice none 0 0)).setCell ⟨rb, 1, none⟩ (.int .i64 X)).setCell ⟨rb, 2, none⟩ (.int .i64 Y))) (hc : x = 35) :
    Code.wp Tryd.prog (block43 2) Q ⟨#[.string s, u1, ptr rb, ptr gb, .int .i64 (k : Int), .int .u8 x, .int .i64 ((k : Int) + 1), ptr tb, u8, u9, u10, u11, u12, u13, u14, u15, u16, u17, u18, u19, u20, u21, u22, u23, u24, u25, u26, u27, u28, u29, u30, u31, u32, u33, u34, u35, u36, u37, u38, u39, u40, u41, u42, u43, u44, u45, u46, u47, u48, u49, u50, u51, u52, u53, u54, u55, u56, u57, u58, u59, u60, u61, u62, u63, u64, u65, u66, u67, u68, u69, u70, u71, u72, u73, u74, u75, u76, u77, u78, u79, u80, u81, u82, u83, u84, u85, u86, u87, u88, u89, u90, u91, u92, u93, u94, u95, u96, u97, u98, u99, u100, u101, u102, u103, u104, u105, u106, u107, u108, u109, u110, u111, u112, u113, u114, u115, u116, u117, u118, u119, u120, u121, u122, u123, u124, u125, u126, u127, u128, u129, u130, u131, u132, u133, u134, u135, u136, u137, u138, u139, u140, u141, u142, u143, u144, u145, u146, u147, u148, u149, u150, u151, u152, u153, u154, u155, u156, u157, u158, u159, u160, u161, u162, u163, u164, u165, u166, u167, u168, u169, u170, u171, u172, u173, u174, u175, u176, u177, u178, u179, u180, u181, u182, u183, u184, u185, u186, u187, u188, u189, u190, u191, u192, u193, u194, u195, u196, u197, u198, u199, u200, u201], []⟩ w := by
  have HN := Lib.hid hnorm
  have HQ := Lib.hid hQ
  clear hQ
  have HC := Lib.hid hcont
  have HT := Lib.hid hret
  have HST := Lib.hid hst
  have HFR := Lib.hid hfr
  have HTB := Lib.hid htb
  have HTL := Lib.hid htl
  have HX := Lib.hid hx
  clear hnorm hcont hret hst hfr htb htl hx
  have hlk : (k : Int) < (s.size : Int) := by omega
  have hk0 : (0 : Int) ≤ (k : Int) := by omega
  conv => arg 2; whnf
  subst hc
  have q35 : ((s[k]'hlt).toNat : Int) = 35 := HX.out
  go_wp2_with fail
  go_loopw [4] (fun i wr => ∃ j : Nat, k ≤ j ∧ j ≤ s.size ∧ i = .int .i64 j ∧ wr = w) (fun i _ => s.size - (intOf i).toNat)
  case atStart => exact ⟨k, by omega, by omega, rfl, rfl⟩
  case round =>
    obtain ⟨j, hj1, hj2, rfl, rfl⟩ := hrel
    by_cases hjs : j < s.size
    · have hjk : (j : Int) < (s.size : Int) := by omega
      have hj0 : (0 : Int) ≤ (j : Int) := by omega
      by_cases hjk2 : j = k
      · subst hjk2
        have f1 : (((s[j]'hjs).toNat : Int) != 10) = true := by rw [q35]; rfl
        go_wp2_with fail
        all_goals exact ⟨⟨j + 1, by omega, by omega, by go_num, by first | rfl | trivial⟩, by simp [intOf]; omega⟩
      · go_wp2_with fail
        all_goals first
          | exact ⟨⟨j + 1, by omega, by omega, by go_num, by first | rfl | trivial⟩, by simp [intOf]; omega⟩
          | exact HC.out (j) _ _ _ _ _ _ _ _ _ _ _ _ _ _ _ _ _ _ _ _ _ _ _ _ _ _ _ _ _ _ _ _ _ _ _ _ _ _ _ _ _ _ _ _ _ _ _ _ _ _ _ _ _ _ _ _ _ _ _ _ _ _ _ _ _ _ _ _ _ _ _ _ _ _ _ _ _ _ _ _ _ _ _ _ _ _ _ _ _ _ _ _ _ _ _ _ _ _ _ _ _ _ _ _ _ _ _ _ _ _ _ _ _ _ _ _ _ _ _ _ _ _ _ _ _ _ _ _ _ _ _ _ _ _ _ _ _ _ _ _ _ _ _ _ _ _ _ _ _ _ _ _ _ _ _ _ _ _ _ _ _ _ _ _ _ _ _ _ _ _ _ _ _ (by omega) (by omega) (by omega) HST.out (step_hash hlt HX.out rfl _ (fun _ _ h => by cases h))
    · obtain rfl : j = s.size := by omega
      have hjk : ¬ ((s.size : Int) < (s.size : Int)) := by omega
      go_wp2_with fail
      all_goals exact HC.out (s.size) _ _ _ _ _ _ _ _ _ _ _ _ _ _ _ _ _ _ _ _ _ _ _ _ _ _ _ _ _ _ _ _ _ _ _ _ _ _ _ _ _ _ _ _ _ _ _ _ _ _ _ _ _ _ _ _ _ _ _ _ _ _ _ _ _ _ _ _ _ _ _ _ _ _ _ _ _ _ _ _ _ _ _ _ _ _ _ _ _ _ _ _ _ _ _ _ _ _ _ _ _ _ _ _ _ _ _ _ _ _ _ _ _ _ _ _ _ _ _ _ _ _ _ _ _ _ _ _ _ _ _ _ _ _ _ _ _ _ _ _ _ _ _ _ _ _ _ _ _ _ _ _ _ _ _ _ _ _ _ _ _ _ _ _ _ _ _ _ _ _ _ _ _ (by omega) (by omega) (by omega) HST.out (step_hash hlt HX.out rfl _ (fun _ _ h => by cases h))
set_option maxRecDepth 100000 in
set_option maxHeartbeats 16000000 in
theorem xtokLe {u1 u10 u11 u12 u13 u14 u15 u16 u17 u18 u19 u20 u21 u22 u23 u24 u25 u194 u195 u196 u197 u198 u199 u200 u201 u8 u9 u26 u27 u28 u29 u30 u31 u32 u33 u34 u35 u36 u37 u38 u39 u40 u41 u42 u43 u44 u45 u46 u47 u48 u49 u50 u51 u52 u53 u54 u55 u56 u57 u58 u59 u60 u61 u62 u63 u64 u65 u66 u67 u68 u69 u70 u71 u72 u73 u74 u75 u76 u77 u78 u79 u80 u81 u82 u83 u84 u85 u86 u87 u88 u89 u90 u91 u92 u93 u94 u95 u96 u97 u98 u99 u100 u101 u102 u103 u104 u105 u106 u107 u108 u109 u110 u111 u112 u113 u114 u115 u116 u117 u118 u119 u120 u121 u122 u123 u124 u125 u126 u127 u128 u129 u130 u131 u132 u133 u134 u135 u136 u137 u138 u139 u140 u141 u142 u143 u144 u145 u146 u147 u148 u149 u150 u151 u152 u153 u154 u155 u156 u157 u158 u159 u160 u161 u162 u163 u164 u165 u166 u167 u168 u169 u170 u171 u172 u173 u174 u175 u176 u177 u178 u179 u180 u181 u182 u183 u184 u185 u186 u187 u188 u189 u190 u191 u192 u193 : Value} {Q : Exit → Act → World → Prop} (s : ByteArray) (hs : s.size ≤ 3000) (w0 w : World) (gb rb tb k : Nat) (x : Int) (A : Option Addr) (c : Nat) (T : List Tok) (hlt : k < s.size) (hx : ((s[k]'hlt).toNat : Int) = x) (hst : TokSt w0 w gb rb A c T) (hfr : (Value.slice A T.length c).ownBlock ≠ some tb) (htb : Blk w tb 109 #[.int .i64 0, .string ⟨#[]⟩, .int .i64 (k : Int)]) (htl : w0.heap.size ≤ tb)
    (hQ : ∀ c (a : Act) d v w', Q (.panic c) (a.put d v) w' → Q (.panic c) a w')
    (hnorm : ∀ (j : Nat) (J κ : Int) (σ : ByteArray) (w' : World) (v8 v9 v26 v27 v28 v29 v30 v31 v32 v33 v34 v35 v36 v37 v38 v39 v40 v41 v42 v43 v44 v45 v46 v47 v48 v49 v50 v51 v52 v53 v54 v55 v56 v57 v58 v59 v60 v61 v62 v63 v64 v65 v66 v67 v68 v69 v70 v71 v72 v73 v74 v75 v76 v77 v78 v79 v80 v81 v82 v83 v84 v85 v86 v87 v88 v89 v90 v91 v92 v93 v94 v95 v96 v97 v98 v99 v100 v101 v102 v103 v104 v105 v106 v107 v108 v109 v110 v111 v112 v113 v114 v115 v116 v117 v118 v119 v120 v121 v122 v123 v124 v125 v126 v127 v128 v129 v130 v131 v132 v133 v134 v135 v136 v137 v138 v139 v140 v141 v142 v143 v144 v145 v146 v147 v148 v149 v150 v151 v152 v153 v154 v155 v156 v157 v158 v159 v160 v161 v162 v163 v164 v165 v166 v167 v168 v169 v170 v171 v172 v173 v174 v175 v176 v177 v178 v179 v180 v181 v182 v183 v184 v185 v186 v187 v188 v189 v190 v191 v192 v193 : Value), J = (j : Int) → k < j → j ≤ s.size → TokSt w0 w' gb rb A c T → Blk w' tb 109 #[.int .i64 κ, .string σ, .int .i64 (k : Int)] → StepOk (dr s k) (.tok κ (lis σ) (j - k)) → Q .normal ⟨#[.string s, u1, ptr rb, ptr gb, .int .i64 (k : Int), .int .u8 x, .int .i64 J, ptr tb, v8, v9, u10, u11, u12, u13, u14, u15, u16, u17, u18, u19, u20, u21, u22, u23, u24, u25, v26, v27, v28, v29, v30, v31, v32, v33, v34, v35, v36, v37, v38, v39, v40, v41, v42, v43, v44, v45, v46, v47, v48, v49, v50, v51, v52, v53, v54, v55, v56, v57, v58, v59, v60, v61, v62, v63, v64, v65, v66, v67, v68, v69, v70, v71, v72, v73, v74, v75, v76, v77, v78, v79, v80, v81, v82, v83, v84, v85, v86, v87, v88, v89, v90, v91, v92, v93, v94, v95, v96, v97, v98, v99, v100, v101, v102, v103, v104, v105, v106, v107, v108, v109, v110, v111, v112, v113, v114, v115, v116, v117, v118, v119, v120, v121, v122, v123, v124, v125, v126, v127, v128, v129, v130, v131, v132, v133, v134, v135, v136, v137, v138, v139, v140, v141, v142, v143, v144, v145, v146, v147, v148, v149, v150, v151, v152, v153, v154, v155, v156, v157, v158, v159, v160, v161, v162, v163, v164, v165, v166, v167, v168, v169, v170, v171, v172, v173, v174, v175, v176, v177, v178, v179, v180, v181, v182, v183, v184, v185, v186, v187, v188, v189, v190, v191, v192, v193, u194, u195, u196, u197, u198, u199, u200, u201], []⟩ w')
    (hcont : ∀ (j : Nat) (J : Int) (w' : World) (v6 v8 v9 v26 v27 v28 v29 v30 v31 v32 v33 v34 v35 v36 v37 v38 v39 v40 v41 v42 v43 v44 v45 v46 v47 v48 v49 v50 v51 v52 v53 v54 v55 v56 v57 v58 v59 v60 v61 v62 v63 v64 v65 v66 v67 v68 v69 v70 v71 v72 v73 v74 v75 v76 v77 v78 v79 v80 v81 v82 v83 v84 v85 v86 v87 v88 v89 v90 v91 v92 v93 v94 v95 v96 v97 v98 v99 v100 v101 v102 v103 v104 v105 v106 v107 v108 v109 v110 v111 v112 v113 v114 v115 v116 v117 v118 v119 v120 v121 v122 v123 v124 v125 v126 v127 v128 v129 v130 v131 v132 v133 v134 v135 v136 v137 v138 v139 v140 v141 v142 v143 v144 v145 v146 v147 v148 v149 v150 v151 v152 v153 v154 v155 v156 v157 v158 v159 v160 v161 v162 v163 v164 v165 v166 v167 v168 v169 v170 v171 v172 v173 v174 v175 v176 v177 v178 v179 v180 v181 v182 v183 v184 v185 v186 v187 v188 v189 v190 v191 v192 v193 : Value), J = (j : Int) → k < j → j ≤ s.size → TokSt w0 w' gb rb A c T → StepOk (dr s k) (.skip (j - k)) → Q (.exit 1) ⟨#[.string s, u1, ptr rb, ptr gb, .int .i64 J, .int .u8 x, v6, ptr tb, v8, v9, u10, u11, u12, u13, u14, u15, u16, u17, u18, u19, u20, u21, u22, u23, u24, u25, v26, v27, v28, v29, v30, v31, v32, v33, v34, v35, v36, v37, v38, v39, v40, v41, v42, v43, v44, v45, v46, v47, v48, v49, v50, v51, v52, v53, v54, v55, v56, v57, v58, v59, v60, v61, v62, v63, v64, v65, v66, v67, v68, v69, v70, v71, v72, v73, v74, v75, v76, v77, v78, v79, v80, v81, v82, v83, v84, v85, v86, v87, v88, v89, v90, v91, v92, v93, v94, v95, v96, v97, v98, v99, v100, v101, v102, v103, v104, v105, v106, v107, v108, v109, v110, v111, v112, v113, v114, v115, v116, v117, v118, v119, v120, v121, v122, v123, v124, v125, v126, v127, v128, v129, v130, v131, v132, v133, v134, v135, v136, v137, v138, v139, v140, v141, v142, v143, v144, v145, v146, v147, v148, v149, v150, v151, v152, v153, v154, v155, v156, v157, v158, v159, v160, v161, v162, v163, v164, v165, v166, v167, v168, v169, v170, v171, v172, v173, v174, v175, v176, v177, v178, v179, v180, v181, v182, v183, v184, v185, v186, v187, v188, v189, v190, v191, v192, v193, u194, u195, u196, u197, u198, u199, u200, u201], []⟩ w')
    (hret : ∀ (a : Act) (X Y : Int) (w' : World), TokSt w0 w' gb rb A c T → StepOk (dr s k) .err → a.defers = [] → a.tmps.getD 2 undef = ptr rb → Q .ret a (((w'.setCell ⟨rb, 0, none⟩ (.slice none 0 0)).setCell ⟨rb, 1, none⟩ (.int .i64 X)).setCell ⟨rb, 2, none⟩ (.int .i64 Y))) (hc : 97 ≤ x ∧ x ≤ 122) :
    Code.wp Tryd.prog (block43 2) Q ⟨#[.string s, u1, ptr rb, ptr gb, .int .i64 (k : Int), .int .u8 x, .int .i64 ((k : Int) + 1), ptr tb, u8, u9, u10, u11, u12, u13, u14, u15, u16, u17, u18, u19, u20, u21, u22, u23, u24, u25, u26, u27, u28, u29, u30, u31, u32, u33, u34, u35, u36, u37, u38, u39, u40, u41, u42, u43, u44, u45, u46, u47, u48, u49, u50, u51, u52, u53, u54, u55, u56, u57, u58, u59, u60, u61, u62, u63, u64, u65, u66, u67, u68, u69, u70, u71, u72, u73, u74, u75, u76, u77, u78, u79, u80, u81, u82, u83, u84, u85, u86, u87, u88, u89, u90, u91, u92, u93, u94, u95, u96, u97, u98, u99, u100, u101, u102, u103, u104, u105, u106, u107, u108, u109, u110, u111, u112, u113, u114, u115, u116, u117, u118, u119, u120, u121, u122, u123, u124, u125, u126, u127, u128, u129, u130, u131, u132, u133, u134, u135, u136, u137, u138, u139, u140, u141, u142, u143, u144, u145, u146, u147, u148, u149, u150, u151, u152, u153, u154, u155, u156, u157, u158, u159, u160, u161, u162, u163, u164, u165, u166, u167, u168, u169, u170, u171, u172, u173, u174, u175, u176, u177, u178, u179, u180, u181, u182, u183, u184, u185, u186, u187, u188, u189, u190, u191, u192, u193, u194, u195, u196, u197, u198, u199, u200, u201], []⟩ w := by
  have HN := Lib.hid hnorm
  have HQ := Lib.hid hQ
  clear hQ
  have HC := Lib.hid hcont
  have HT := Lib.hid hret
  have HST := Lib.hid hst
  have HFR := Lib.hid hfr
  have HTB := Lib.hid htb
  have HTL := Lib.hid htl
  have HX := Lib.hid hx
  clear hnorm hcont hret hst hfr htb htl hx
  have hlk : (k : Int) < (s.size : Int) := by omega
  have hk0 : (0 : Int) ≤ (k : Int) := by omega
  conv => arg 2; whnf
  have e32 : (x == 32) = false := beq_false_of_ne (by omega)
  have e9 : (x == 9) = false := beq_false_of_ne (by omega)
  have e10 : (x == 10) = false := beq_false_of_ne (by omega)
  have e35 : (x == 35) = false := beq_false_of_ne (by omega)
  have e95 : (x == 95) = false := beq_false_of_ne (by omega)
  have e34 : (x == 34) = false := beq_false_of_ne (by omega)
  have HCL := Lib.hid (show (97 ≤ x ∧ x ≤ 122) ∨ (65 ≤ x ∧ x ≤ 90) ∨ (x = 95 ∧ nextB vB (dr s (k + 1)) = true) from .inl hc)
  have hsb : sB x = true := by simp [sB, hc.1, hc.2]
  go_wp2_with fail
  refine (c56 x w).mono ?_
  rintro e _ ⟨he, rfl⟩
  rw [hsb] at he
  subst he
  clear hsb
  go_wp2_with fail
  go_loopw [6] (fun i wr => ∃ j : Nat, k < j ∧ j ≤ s.size ∧ i = .int .i64 j ∧ wr = w ∧ ∀ i (h : i < s.size), k < i → i < j → vB ((s[i]'h).toNat : Int) = true) (fun i _ => s.size - (intOf i).toNat)
  case atStart => exact ⟨k + 1, by omega, by omega, by go_num, rfl, fun i h h1 h2 => by omega⟩
  case round =>
    obtain ⟨j, hj1, hj2, rfl, rfl, hal⟩ := hrel
    have HAL := Lib.hid hal
    clear hal
    have t1 : wr.cell? ⟨tb, 1, none⟩ = some (.string ⟨#[]⟩) := HTB.out.cell 1
    have ft1 := HTB.out.frozen 1
    have s1 : (k : Int) ≤ (j : Int) := by omega
    have s2 : (j : Int) ≤ (s.size : Int) := by omega
    have hj0 : (0 : Int) ≤ (j : Int) := by omega
    by_cases hjs : j < s.size
    · have hjk : (j : Int) < (s.size : Int) := by omega
      go_wp2_with fail
      refine (c58 _ wr).mono ?_
      rintro e _ ⟨rfl, rfl⟩
      cases hv : vB (((s[j]'hjs).toNat : Int)) with
      | true =>
        have HAL2 := Lib.hid (show ∀ i (h : i < s.size), k < i → i < j + 1 → vB ((s[i]'h).toNat : Int) = true from fun i h h1 h2 => by
          by_cases h3 : i = j
          · subst h3; exact hv
          · exact HAL.out i h h1 (by omega))
        clear t1 ft1
        go_wp2_with fail
        all_goals exact ⟨⟨j + 1, by omega, by omega, by go_num, by first | rfl | trivial, HAL2.out⟩, by simp [intOf]; omega⟩
      | false =>
        have HW := Lib.hid (step_word hlt HX.out HCL.out hj1 hj2 HAL.out (by rw [nextB_dr _ hjs]; exact hv))
        go_upto_region 24 with fail
        have HS2 := Lib.hid (HST.out.tok HTB.out HFR.out HTL.out 1 (.string (s.extract k j)))
        have hb2 := HTB.out.set_ 1 (.string (s.extract k j))
        simp only [sLA, sL0, sL1] at hb2
        have HTB2 := Lib.hid hb2
        clear hb2 t1 ft1
        generalize wr.setCell ⟨tb, 1, none⟩ (.string (s.extract k j)) = w2 at HS2 HTB2 ⊢
        have t1 : w2.cell? ⟨tb, 1, none⟩ = some (.string (s.extract k j)) := HTB2.out.cell 1
        go_wp2_with fail
        clear t1
        refine (x59 (s.extract k j) (by rw [ByteArray.size_extract]; omega) w2).mono ?_
        rintro e w5 ⟨rfl, hb5⟩
        have HS5 := Lib.hid (HS2.out.next hb5)
        have HTB5 := Lib.hid (HTB2.out.next hb5)
        clear hb5 HS2 HTB2
        have t0 : w5.cell? ⟨tb, 0, none⟩ = some (.int .i64 0) := HTB5.out.cell 0
        have ft0 := HTB5.out.frozen 0
        have hw : wrap64 ((j : Int) - (k : Int)) = (j : Int) - (k : Int) := by unfold wrap64; omega
        cases hr : ownL (lis (s.extract k j)) with
        | true =>
          have HW9 := Lib.hid (show stepL (dr s k) = if 12 < j - k then some .err else some (.tok 5 (lis (s.extract k j)) (j - k)) from by rw [HW.out, hr]; rfl)
          clear hr
          go_upto_region 28 with fail
          have HS6 := Lib.hid (HS5.out.tok HTB5.out HFR.out HTL.out 0 (.int .i64 5))
          have hb6 := HTB5.out.set_ 0 (.int .i64 5)
          simp only [sLA, sL0, sL1] at hb6
          have HTB6 := Lib.hid hb6
          clear hb6
          clear t0 ft0
          generalize w5.setCell ⟨tb, 0, none⟩ (.int .i64 5) = w6 at HS6 HTB6 ⊢
          have r0 : w6.cell? ⟨rb, 0, none⟩ = some (.slice none 0 0) := HS6.out.r.cell 0
          have r1 : w6.cell? ⟨rb, 1, none⟩ = some (.int .i64 0) := HS6.out.r.cell 1
          have r2 : w6.cell? ⟨rb, 2, none⟩ = some (.int .i64 0) := HS6.out.r.cell 2
          have f0 := HS6.out.r.frozen 0
          have f1 := HS6.out.r.frozen 1
          have f2 := HS6.out.r.frozen 2
          go_wp2_with fail
          all_goals first
            | exact HN.out (j) _ _ _ _ _ _ _ _ _ _ _ _ _ _ _ _ _ _ _ _ _ _ _ _ _ _ _ _ _ _ _ _ _ _ _ _ _ _ _ _ _ _ _ _ _ _ _ _ _ _ _ _ _ _ _ _ _ _ _ _ _ _ _ _ _ _ _ _ _ _ _ _ _ _ _ _ _ _ _ _ _ _ _ _ _ _ _ _ _ _ _ _ _ _ _ _ _ _ _ _ _ _ _ _ _ _ _ _ _ _ _ _ _ _ _ _ _ _ _ _ _ _ _ _ _ _ _ _ _ _ _ _ _ _ _ _ _ _ _ _ _ _ _ _ _ _ _ _ _ _ _ _ _ _ _ _ _ _ _ _ _ _ _ _ _ _ _ _ _ _ _ _ _ _ (by omega) (by omega) (by omega) HS6.out HTB6.out (.inl (by rw [HW9.out, if_neg (by omega)]))
            | exact HT.out _ _ _ _ HS6.out (.inl (by rw [HW9.out, if_pos (by omega)])) rfl rfl
        | false =>
          go_wp2_with fail
          refine (c57 x w5).mono ?_
          rintro e _ ⟨rfl, rfl⟩
          cases hg : gB x with
          | true =>
            have HW9 := Lib.hid (show stepL (dr s k) = if 12 < j - k then some .err else some (.tok 2 (lis (s.extract k j)) (j - k)) from by rw [HW.out, hr, hg]; rfl)
            clear hr
            go_upto_region 28 with fail
            have HS6 := Lib.hid (HS5.out.tok HTB5.out HFR.out HTL.out 0 (.int .i64 2))
            have hb6 := HTB5.out.set_ 0 (.int .i64 2)
            simp only [sLA, sL0, sL1] at hb6
            have HTB6 := Lib.hid hb6
            clear hb6
            clear t0 ft0
            generalize w5.setCell ⟨tb, 0, none⟩ (.int .i64 2) = w6 at HS6 HTB6 ⊢
            have r0 : w6.cell? ⟨rb, 0, none⟩ = some (.slice none 0 0) := HS6.out.r.cell 0
            have r1 : w6.cell? ⟨rb, 1, none⟩ = some (.int .i64 0) := HS6.out.r.cell 1
            have r2 : w6.cell? ⟨rb, 2, none⟩ = some (.int .i64 0) := HS6.out.r.cell 2
            have f0 := HS6.out.r.frozen 0
            have f1 := HS6.out.r.frozen 1
            have f2 := HS6.out.r.frozen 2
            go_wp2_with fail
            all_goals first
              | exact HN.out (j) _ _ _ _ _ _ _ _ _ _ _ _ _ _ _ _ _ _ _ _ _ _ _ _ _ _ _ _ _ _ _ _ _ _ _ _ _ _ _ _ _ _ _ _ _ _ _ _ _ _ _ _ _ _ _ _ _ _ _ _ _ _ _ _ _ _ _ _ _ _ _ _ _ _ _ _ _ _ _ _ _ _ _ _ _ _ _ _ _ _ _ _ _ _ _ _ _ _ _ _ _ _ _ _ _ _ _ _ _ _ _ _ _ _ _ _ _ _ _ _ _ _ _ _ _ _ _ _ _ _ _ _ _ _ _ _ _ _ _ _ _ _ _ _ _ _ _ _ _ _ _ _ _ _ _ _ _ _ _ _ _ _ _ _ _ _ _ _ _ _ _ _ _ _ (by omega) (by omega) (by omega) HS6.out HTB6.out (.inl (by rw [HW9.out, if_neg (by omega)]))
              | exact HT.out _ _ _ _ HS6.out (.inl (by rw [HW9.out, if_pos (by omega)])) rfl rfl
          | false =>
            have HW9 := Lib.hid (show stepL (dr s k) = if 12 < j - k then some .err else some (.tok 1 (lis (s.extract k j)) (j - k)) from by rw [HW.out, hr, hg]; rfl)
            clear hr
            go_upto_region 28 with fail
            have HS6 := Lib.hid (HS5.out.tok HTB5.out HFR.out HTL.out 0 (.int .i64 1))
            have hb6 := HTB5.out.set_ 0 (.int .i64 1)
            simp only [sLA, sL0, sL1] at hb6
            have HTB6 := Lib.hid hb6
            clear hb6
            clear t0 ft0
            generalize w5.setCell ⟨tb, 0, none⟩ (.int .i64 1) = w6 at HS6 HTB6 ⊢
            have r0 : w6.cell? ⟨rb, 0, none⟩ = some (.slice none 0 0) := HS6.out.r.cell 0
            have r1 : w6.cell? ⟨rb, 1, none⟩ = some (.int .i64 0) := HS6.out.r.cell 1
            have r2 : w6.cell? ⟨rb, 2, none⟩ = some (.int .i64 0) := HS6.out.r.cell 2
            have f0 := HS6.out.r.frozen 0
            have f1 := HS6.out.r.frozen 1
            have f2 := HS6.out.r.frozen 2
            go_wp2_with fail
            all_goals first
              | exact HN.out (j) _ _ _ _ _ _ _ _ _ _ _ _ _ _ _ _ _ _ _ _ _ _ _ _ _ _ _ _ _ _ _ _ _ _ _ _ _ _ _ _ _ _ _ _ _ _ _ _ _ _ _ _ _ _ _ _ _ _ _ _ _ _ _ _ _ _ _ _ _ _ _ _ _ _ _ _ _ _ _ _ _ _ _ _ _ _ _ _ _ _ _ _ _ _ _ _ _ _ _ _ _ _ _ _ _ _ _ _ _ _ _ _ _ _ _ _ _ _ _ _ _ _ _ _ _ _ _ _ _ _ _ _ _ _ _ _ _ _ _ _ _ _ _ _ _ _ _ _ _ _ _ _ _ _ _ _ _ _ _ _ _ _ _ _ _ _ _ _ _ _ _ _ _ _ (by omega) (by omega) (by omega) HS6.out HTB6.out (.inl (by rw [HW9.out, if_neg (by omega)]))
              | exact HT.out _ _ _ _ HS6.out (.inl (by rw [HW9.out, if_pos (by omega)])) rfl rfl
    · have hjk : ¬ ((j : Int) < (s.size : Int)) := by omega
      have HW := Lib.hid (step_word hlt HX.out HCL.out hj1 hj2 HAL.out (by rw [show j = s.size by omega]; exact nextB_end _ _))
      go_upto_region 24 with fail
      have HS2 := Lib.hid (HST.out.tok HTB.out HFR.out HTL.out 1 (.string (s.extract k j)))
      have hb2 := HTB.out.set_ 1 (.string (s.extract k j))
      simp only [sLA, sL0, sL1] at hb2
      have HTB2 := Lib.hid hb2
      clear hb2 t1 ft1
      generalize wr.setCell ⟨tb, 1, none⟩ (.string (s.extract k j)) = w2 at HS2 HTB2 ⊢
      have t1 : w2.cell? ⟨tb, 1, none⟩ = some (.string (s.extract k j)) := HTB2.out.cell 1
      go_wp2_with fail
      clear t1
      refine (x59 (s.extract k j) (by rw [ByteArray.size_extract]; omega) w2).mono ?_
      rintro e w5 ⟨rfl, hb5⟩
      have HS5 := Lib.hid (HS2.out.next hb5)
      have HTB5 := Lib.hid (HTB2.out.next hb5)
      clear hb5 HS2 HTB2
      have t0 : w5.cell? ⟨tb, 0, none⟩ = some (.int .i64 0) := HTB5.out.cell 0
      have ft0 := HTB5.out.frozen 0
      have hw : wrap64 ((j : Int) - (k : Int)) = (j : Int) - (k : Int) := by unfold wrap64; omega
      cases hr : ownL (lis (s.extract k j)) with
      | true =>
        have HW9 := Lib.hid (show stepL (dr s k) = if 12 < j - k then some .err else some (.tok 5 (lis (s.extract k j)) (j - k)) from by rw [HW.out, hr]; rfl)
        clear hr
        go_upto_region 28 with fail
        have HS6 := Lib.hid (HS5.out.tok HTB5.out HFR.out HTL.out 0 (.int .i64 5))
        have hb6 := HTB5.out.set_ 0 (.int .i64 5)
        simp only [sLA, sL0, sL1] at hb6
        have HTB6 := Lib.hid hb6
        clear hb6
        clear t0 ft0
        generalize w5.setCell ⟨tb, 0, none⟩ (.int .i64 5) = w6 at HS6 HTB6 ⊢
        have r0 : w6.cell? ⟨rb, 0, none⟩ = some (.slice none 0 0) := HS6.out.r.cell 0
        have r1 : w6.cell? ⟨rb, 1, none⟩ = some (.int .i64 0) := HS6.out.r.cell 1
        have r2 : w6.cell? ⟨rb, 2, none⟩ = some (.int .i64 0) := HS6.out.r.cell 2
        have f0 := HS6.out.r.frozen 0
        have f1 := HS6.out.r.frozen 1
        have f2 := HS6.out.r.frozen 2
        go_wp2_with fail
        all_goals first
          | exact HN.out (j) _ _ _ _ _ _ _ _ _ _ _ _ _ _ _ _ _ _ _ _ _ _ _ _ _ _ _ _ _ _ _ _ _ _ _ _ _ _ _ _ _ _ _ _ _ _ _ _ _ _ _ _ _ _ _ _ _ _ _ _ _ _ _ _ _ _ _ _ _ _ _ _ _ _ _ _ _ _ _ _ _ _ _ _ _ _ _ _ _ _ _ _ _ _ _ _ _ _ _ _ _ _ _ _ _ _ _ _ _ _ _ _ _ _ _ _ _ _ _ _ _ _ _ _ _ _ _ _ _ _ _ _ _ _ _ _ _ _ _ _ _ _ _ _ _ _ _ _ _ _ _ _ _ _ _ _ _ _ _ _ _ _ _ _ _ _ _ _ _ _ _ _ _ _ (by omega) (by omega) (by omega) HS6.out HTB6.out (.inl (by rw [HW9.out, if_neg (by omega)]))
          | exact HT.out _ _ _ _ HS6.out (.inl (by rw [HW9.out, if_pos (by omega)])) rfl rfl
      | false =>
        go_wp2_with fail
        refine (c57 x w5).mono ?_
        rintro e _ ⟨rfl, rfl⟩
        cases hg : gB x with
        | true =>
          have HW9 := Lib.hid (show stepL (dr s k) = if 12 < j - k then some .err else some (.tok 2 (lis (s.extract k j)) (j - k)) from by rw [HW.out, hr, hg]; rfl)
          clear hr
          go_upto_region 28 with fail
          have HS6 := Lib.hid (HS5.out.tok HTB5.out HFR.out HTL.out 0 (.int .i64 2))
          have hb6 := HTB5.out.set_ 0 (.int .i64 2)
          simp only [sLA, sL0, sL1] at hb6
          have HTB6 := Lib.hid hb6
          clear hb6
          clear t0 ft0
          generalize w5.setCell ⟨tb, 0, none⟩ (.int .i64 2) = w6 at HS6 HTB6 ⊢
          have r0 : w6.cell? ⟨rb, 0, none⟩ = some (.slice none 0 0) := HS6.out.r.cell 0
          have r1 : w6.cell? ⟨rb, 1, none⟩ = some (.int .i64 0) := HS6.out.r.cell 1
          have r2 : w6.cell? ⟨rb, 2, none⟩ = some (.int .i64 0) := HS6.out.r.cell 2
          have f0 := HS6.out.r.frozen 0
          have f1 := HS6.out.r.frozen 1
          have f2 := HS6.out.r.frozen 2
          go_wp2_with fail
          all_goals first
            | exact HN.out (j) _ _ _ _ _ _ _ _ _ _ _ _ _ _ _ _ _ _ _ _ _ _ _ _ _ _ _ _ _ _ _ _ _ _ _ _ _ _ _ _ _ _ _ _ _ _ _ _ _ _ _ _ _ _ _ _ _ _ _ _ _ _ _ _ _ _ _ _ _ _ _ _ _ _ _ _ _ _ _ _ _ _ _ _ _ _ _ _ _ _ _ _ _ _ _ _ _ _ _ _ _ _ _ _ _ _ _ _ _ _ _ _ _ _ _ _ _ _ _ _ _ _ _ _ _ _ _ _ _ _ _ _ _ _ _ _ _ _ _ _ _ _ _ _ _ _ _ _ _ _ _ _ _ _ _ _ _ _ _ _ _ _ _ _ _ _ _ _ _ _ _ _ _ _ (by omega) (by omega) (by omega) HS6.out HTB6.out (.inl (by rw [HW9.out, if_neg (by omega)]))
            | exact HT.out _ _ _ _ HS6.out (.inl (by rw [HW9.out, if_pos (by omega)])) rfl rfl
        | false =>
          have HW9 := Lib.hid (show stepL (dr s k) = if 12 < j - k then some .err else some (.tok 1 (lis (s.extract k j)) (j - k)) from by rw [HW.out, hr, hg]; rfl)
          clear hr
          go_upto_region 28 with fail
          have HS6 := Lib.hid (HS5.out.tok HTB5.out HFR.out HTL.out 0 (.int .i64 1))
          have hb6 := HTB5.out.set_ 0 (.int .i64 1)
          simp only [sLA, sL0, sL1] at hb6
          have HTB6 := Lib.hid hb6
          clear hb6
          clear t0 ft0
          generalize w5.setCell ⟨tb, 0, none⟩ (.int .i64 1) = w6 at HS6 HTB6 ⊢
          have r0 : w6.cell? ⟨rb, 0, none⟩ = some (.slice none 0 0) := HS6.out.r.cell 0
          have r1 : w6.cell? ⟨rb, 1, none⟩ = some (.int .i64 0) := HS6.out.r.cell 1
          have r2 : w6.cell? ⟨rb, 2, none⟩ = some (.int .i64 0) := HS6.out.r.cell 2
          have f0 := HS6.out.r.frozen 0
          have f1 := HS6.out.r.frozen 1
          have f2 := HS6.out.r.frozen 2
          go_wp2_with fail
          all_goals first
            | exact HN.out (j) _ _ _ _ _ _ _ _ _ _ _ _ _ _ _ _ _ _ _ _ _ _ _ _ _ _ _ _ _ _ _ _ _ _ _ _ _ _ _ _ _ _ _ _ _ _ _ _ _ _ _ _ _ _ _ _ _ _ _ _ _ _ _ _ _ _ _ _ _ _ _ _ _ _ _ _ _ _ _ _ _ _ _ _ _ _ _ _ _ _ _ _ _ _ _ _ _ _ _ _ _ _ _ _ _ _ _ _ _ _ _ _ _ _ _ _ _ _ _ _ _ _ _ _ _ _ _ _ _ _ _ _ _ _ _ _ _ _ _ _ _ _ _ _ _ _ _ _ _ _ _ _ _ _ _ _ _ _ _ _ _ _ _ _ _ _ _ _ _ _ _ _ _ _ (by omega) (by omega) (by omega) HS6.out HTB6.out (.inl (by rw [HW9.out, if_neg (by omega)]))
            | exact HT.out _ _ _ _ HS6.out (.inl (by rw [HW9.out, if_pos (by omega)])) rfl rfl
set_option maxRecDepth 100000 in
set_option maxHeartbeats 16000000 in
theorem xtokLg {u1 u10 u11 u12 u13 u14 u15 u16 u17 u18 u19 u20 u21 u22 u23 u24 u25 u194 u195 u196 u197 u198 u199 u200 u201 u8 u9 u26 u27 u28 u29 u30 u31 u32 u33 u34 u35 u36 u37 u38 u39 u40 u41 u42 u43 u44 u45 u46 u47 u48 u49 u50 u51 u52 u53 u54 u55 u56 u57 u58 u59 u60 u61 u62 u63 u64 u65 u66 u67 u68 u69 u70 u71 u72 u73 u74 u75 u76 u77 u78 u79 u80 u81 u82 u83 u84 u85 u86 u87 u88 u89 u90 u91 u92 u93 u94 u95 u96 u97 u98 u99 u100 u101 u102 u103 u104 u105 u106 u107 u108 u109 u110 u111 u112 u113 u114 u115 u116 u117 u118 u119 u120 u121 u122 u123 u124 u125 u126 u127 u128 u129 u130 u131 u132 u133 u134 u135 u136 u137 u138 u139 u140 u141 u142 u143 u144 u145 u146 u147 u148 u149 u150 u151 u152 u153 u154 u155 u156 u157 u158 u159 u160 u161 u162 u163 u164 u165 u166 u167 u168 u169 u170 u171 u172 u173 u174 u175 u176 u177 u178 u179 u180 u181 u182 u183 u184 u185 u186 u187 u188 u189 u190 u191 u192 u193 : Value} {Q : Exit → Act → World → Prop} (s : ByteArray) (hs : s.size ≤ 3000) (w0 w : World) (gb rb tb k : Nat) (x : Int) (A : Option Addr) (c : Nat) (T : List Tok) (hlt : k < s.size) (hx : ((s[k]'hlt).toNat : Int) = x) (hst : TokSt w0 w gb rb A c T) (hfr : (Value.slice A T.length c).ownBlock ≠ some tb) (htb : Blk w tb 109 #[.int .i64 0, .string ⟨#[]⟩, .int .i64 (k : Int)]) (htl : w0.heap.size ≤ tb)
    (hQ : ∀ c (a : Act) d v w', Q (.panic c) (a.put d v) w' → Q (.panic c) a w')
    (hnorm : ∀ (j : Nat) (J κ : Int) (σ : ByteArray) (w' : World) (v8 v9 v26 v27 v28 v29 v30 v31 v32 v33 v34 v35 v36 v37 v38 v39 v40 v41 v42 v43 v44 v45 v46 v47 v48 v49 v50 v51 v52 v53 v54 v55 v56 v57 v58 v59 v60 v61 v62 v63 v64 v65 v66 v67 v68 v69 v70 v71 v72 v73 v74 v75 v76 v77 v78 v79 v80 v81 v82 v83 v84 v85 v86 v87 v88 v89 v90 v91 v92 v93 v94 v95 v96 v97 v98 v99 v100 v101 v102 v103 v104 v105 v106 v107 v108 v109 v110 v111 v112 v113 v114 v115 v116 v117 v118 v119 v120 v121 v122 v123 v124 v125 v126 v127 v128 v129 v130 v131 v132 v133 v134 v135 v136 v137 v138 v139 v140 v141 v142 v143 v144 v145 v146 v147 v148 v149 v150 v151 v152 v153 v154 v155 v156 v157 v158 v159 v160 v161 v162 v163 v164 v165 v166 v167 v168 v169 v170 v171 v172 v173 v174 v175 v176 v177 v178 v179 v180 v181 v182 v183 v184 v185 v186 v187 v188 v189 v190 v191 v192 v193 : Value), J = (j : Int) → k < j → j ≤ s.size → TokSt w0 w' gb rb A c T → Blk w' tb 109 #[.int .i64 κ, .string σ, .int .i64 (k : Int)] → StepOk (dr s k) (.tok κ (lis σ) (j - k)) → Q .normal ⟨#[.string s, u1, ptr rb, ptr gb, .int .i64 (k : Int), .int .u8 x, .int .i64 J, ptr tb, v8, v9, u10, u11, u12, u13, u14, u15, u16, u17, u18, u19, u20, u21, u22, u23, u24, u25, v26, v27, v28, v29, v30, v31, v32, v33, v34, v35, v36, v37, v38, v39, v40, v41, v42, v43, v44, v45, v46, v47, v48, v49, v50, v51, v52, v53, v54, v55, v56, v57, v58, v59, v60, v61, v62, v63, v64, v65, v66, v67, v68, v69, v70, v71, v72, v73, v74, v75, v76, v77, v78, v79, v80, v81, v82, v83, v84, v85, v86, v87, v88, v89, v90, v91, v92, v93, v94, v95, v96, v97, v98, v99, v100, v101, v102, v103, v104, v105, v106, v107, v108, v109, v110, v111, v112, v113, v114, v115, v116, v117, v118, v119, v120, v121, v122, v123, v124, v125, v126, v127, v128, v129, v130, v131, v132, v133, v134, v135, v136, v137, v138, v139, v140, v141, v142, v143, v144, v145, v146, v147, v148, v149, v150, v151, v152, v153, v154, v155, v156, v157, v158, v159, v160, v161, v162, v163, v164, v165, v166, v167, v168, v169, v170, v171, v172, v173, v174, v175, v176, v177, v178, v179, v180, v181, v182, v183, v184, v185, v186, v187, v188, v189, v190, v191, v192, v193, u194, u195, u196, u197, u198, u199, u200, u201], []⟩ w')
    (hcont : ∀ (j : Nat) (J : Int) (w' : World) (v6 v8 v9 v26 v27 v28 v29 v30 v31 v32 v33 v34 v35 v36 v37 v38 v39 v40 v41 v42 v43 v44 v45 v46 v47 v48 v49 v50 v51 v52 v53 v54 v55 v56 v57 v58 v59 v60 v61 v62 v63 v64 v65 v66 v67 v68 v69 v70 v71 v72 v73 v74 v75 v76 v77 v78 v79 v80 v81 v82 v83 v84 v85 v86 v87 v88 v89 v90 v91 v92 v93 v94 v95 v96 v97 v98 v99 v100 v101 v102 v103 v104 v105 v106 v107 v108 v109 v110 v111 v112 v113 v114 v115 v116 v117 v118 v119 v120 v121 v122 v123 v124 v125 v126 v127 v128 v129 v130 v131 v132 v133 v134 v135 v136 v137 v138 v139 v140 v141 v142 v143 v144 v145 v146 v147 v148 v149 v150 v151 v152 v153 v154 v155 v156 v157 v158 v159 v160 v161 v162 v163 v164 v165 v166 v167 v168 v169 v170 v171 v172 v173 v174 v175 v176 v177 v178 v179 v180 v181 v182 v183 v184 v185 v186 v187 v188 v189 v190 v191 v192 v193 : Value), J = (j : Int) → k < j → j ≤ s.size → TokSt w0 w' gb rb A c T → StepOk (dr s k) (.skip (j - k)) → Q (.exit 1) ⟨#[.string s, u1, ptr rb, ptr gb, .int .i64 J, .int .u8 x, v6, ptr tb, v8, v9, u10, u11, u12, u13, u14, u15, u16, u17, u18, u19, u20, u21, u22, u23, u24, u25, v26, v27, v28, v29, v30, v31, v32, v33, v34, v35, v36, v37, v38, v39, v40, v41, v42, v43, v44, v45, v46, v47, v48, v49, v50, v51, v52, v53, v54, v55, v56, v57, v58, v59, v60, v61, v62, v63, v64, v65, v66, v67, v68, v69, v70, v71, v72, v73, v74, v75, v76, v77, v78, v79, v80, v81, v82, v83, v84, v85, v86, v87, v88, v89, v90, v91, v92, v93, v94, v95, v96, v97, v98, v99, v100, v101, v102, v103, v104, v105, v106, v107, v108, v109, v110, v111, v112, v113, v114, v115, v116, v117, v118, v119, v120, v121, v122, v123, v124, v125, v126, v127, v128, v129, v130, v131, v132, v133, v134, v135, v136, v137, v138, v139, v140, v141, v142, v143, v144, v145, v146, v147, v148, v149, v150, v151, v152, v153, v154, v155, v156, v157, v158, v159, v160, v161, v162, v163, v164, v165, v166, v167, v168, v169, v170, v171, v172, v173, v174, v175, v176, v177, v178, v179, v180, v181, v182, v183, v184, v185, v186, v187, v188, v189, v190, v191, v192, v193, u194, u195, u196, u197, u198, u199, u200, u201], []⟩ w')
    (hret : ∀ (a : Act) (X Y : Int) (w' : World), TokSt w0 w' gb rb A c T → StepOk (dr s k) .err → a.defers = [] → a.tmps.getD 2 undef = ptr rb → Q .ret a (((w'.setCell ⟨rb, 0, none⟩ (.slice none 0 0)).setCell ⟨rb, 1, none⟩ (.int .i64 X)).setCell ⟨rb, 2, none⟩ (.int .i64 Y))) (hc : 65 ≤ x ∧ x ≤ 90) :
    Code.wp Tryd.prog (block43 2) Q ⟨#[.string s, u1, ptr rb, ptr gb, .int .i64 (k : Int), .int .u8 x, .int .i64 ((k : Int) + 1), ptr tb, u8, u9, u10, u11, u12, u13, u14, u15, u16, u17, u18, u19, u20, u21, u22, u23, u24, u25, u26, u27, u28, u29, u30, u31, u32, u33, u34, u35, u36, u37, u38, u39, u40, u41, u42, u43, u44, u45, u46, u47, u48, u49, u50, u51, u52, u53, u54, u55, u56, u57, u58, u59, u60, u61, u62, u63, u64, u65, u66, u67, u68, u69, u70, u71, u72, u73, u74, u75, u76, u77, u78, u79, u80, u81, u82, u83, u84, u85, u86, u87, u88, u89, u90, u91, u92, u93, u94, u95, u96, u97, u98, u99, u100, u101, u102, u103, u104, u105, u106, u107, u108, u109, u110, u111, u112, u113, u114, u115, u116, u117, u118, u119, u120, u121, u122, u123, u124, u125, u126, u127, u128, u129, u130, u131, u132, u133, u134, u135, u136, u137, u138, u139, u140, u141, u142, u143, u144, u145, u146, u147, u148, u149, u150, u151, u152, u153, u154, u155, u156, u157, u158, u159, u160, u161, u162, u163, u164, u165, u166, u167, u168, u169, u170, u171, u172, u173, u174, u175, u176, u177, u178, u179, u180, u181, u182, u183, u184, u185, u186, u187, u188, u189, u190, u191, u192, u193, u194, u195, u196, u197, u198, u199, u200, u201], []⟩ w := by
  have HN := Lib.hid hnorm
  have HQ := Lib.hid hQ
  clear hQ
  have HC := Lib.hid hcont
  have HT := Lib.hid hret
  have HST := Lib.hid hst
  have HFR := Lib.hid hfr
  have HTB := Lib.hid htb
  have HTL := Lib.hid htl
  have HX := Lib.hid hx
  clear hnorm hcont hret hst hfr htb htl hx
  have hlk : (k : Int) < (s.size : Int) := by omega
  have hk0 : (0 : Int) ≤ (k : Int) := by omega
  conv => arg 2; whnf
  have e32 : (x == 32) = false := beq_false_of_ne (by omega)
  have e9 : (x == 9) = false := beq_false_of_ne (by omega)
  have e10 : (x == 10) = false := beq_false_of_ne (by omega)
  have e35 : (x == 35) = false := beq_false_of_ne (by omega)
  have e95 : (x == 95) = false := beq_false_of_ne (by omega)
  have e34 : (x == 34) = false := beq_false_of_ne (by omega)
  have HCL := Lib.hid (show (97 ≤ x ∧ x ≤ 122) ∨ (65 ≤ x ∧ x ≤ 90) ∨ (x = 95 ∧ nextB vB (dr s (k + 1)) = true) from .inr (.inl hc))
  have hsb : sB x = false := by unfold sB; rw [e95, decide_eq_false (show ¬ 97 ≤ x by omega)]; rfl
  have hgb : gB x = true := by simp [gB, hc.1, hc.2]
  go_wp2_with fail
  refine (c56 x w).mono ?_
  rintro e _ ⟨he, rfl⟩
  rw [hsb] at he
  subst he
  clear hsb
  go_wp2_with fail
  refine (c57 x w).mono ?_
  rintro e _ ⟨he, rfl⟩
  rw [hgb] at he
  subst he
  clear hgb
  go_wp2_with fail
  go_loopw [6] (fun i wr => ∃ j : Nat, k < j ∧ j ≤ s.size ∧ i = .int .i64 j ∧ wr = w ∧ ∀ i (h : i < s.size), k < i → i < j → vB ((s[i]'h).toNat : Int) = true) (fun i _ => s.size - (intOf i).toNat)
  case atStart => exact ⟨k + 1, by omega, by omega, by go_num, rfl, fun i h h1 h2 => by omega⟩
  case round =>
    obtain ⟨j, hj1, hj2, rfl, rfl, hal⟩ := hrel
    have HAL := Lib.hid hal
    clear hal
    have t1 : wr.cell? ⟨tb, 1, none⟩ = some (.string ⟨#[]⟩) := HTB.out.cell 1
    have ft1 := HTB.out.frozen 1
    have s1 : (k : Int) ≤ (j : Int) := by omega
    have s2 : (j : Int) ≤ (s.size : Int) := by omega
    have hj0 : (0 : Int) ≤ (j : Int) := by omega
    by_cases hjs : j < s.size
    · have hjk : (j : Int) < (s.size : Int) := by omega
      go_wp2_with fail
      refine (c58 _ wr).mono ?_
      rintro e _ ⟨rfl, rfl⟩
      cases hv : vB (((s[j]'hjs).toNat : Int)) with
      | true =>
        have HAL2 := Lib.hid (show ∀ i (h : i < s.size), k < i → i < j + 1 → vB ((s[i]'h).toNat : Int) = true from fun i h h1 h2 => by
          by_cases h3 : i = j
          · subst h3; exact hv
          · exact HAL.out i h h1 (by omega))
        clear t1 ft1
        go_wp2_with fail
        all_goals exact ⟨⟨j + 1, by omega, by omega, by go_num, by first | rfl | trivial, HAL2.out⟩, by simp [intOf]; omega⟩
      | false =>
        have HW := Lib.hid (step_word hlt HX.out HCL.out hj1 hj2 HAL.out (by rw [nextB_dr _ hjs]; exact hv))
        go_upto_region 24 with fail
        have HS2 := Lib.hid (HST.out.tok HTB.out HFR.out HTL.out 1 (.string (s.extract k j)))
        have hb2 := HTB.out.set_ 1 (.string (s.extract k j))
        simp only [sLA, sL0, sL1] at hb2
        have HTB2 := Lib.hid hb2
        clear hb2 t1 ft1
        generalize wr.setCell ⟨tb, 1, none⟩ (.string (s.extract k j)) = w2 at HS2 HTB2 ⊢
        have t1 : w2.cell? ⟨tb, 1, none⟩ = some (.string (s.extract k j)) := HTB2.out.cell 1
        go_wp2_with fail
        clear t1
        refine (x59 (s.extract k j) (by rw [ByteArray.size_extract]; omega) w2).mono ?_
        rintro e w5 ⟨rfl, hb5⟩
        have HS5 := Lib.hid (HS2.out.next hb5)
        have HTB5 := Lib.hid (HTB2.out.next hb5)
        clear hb5 HS2 HTB2
        have t0 : w5.cell? ⟨tb, 0, none⟩ = some (.int .i64 0) := HTB5.out.cell 0
        have ft0 := HTB5.out.frozen 0
        have hw : wrap64 ((j : Int) - (k : Int)) = (j : Int) - (k : Int) := by unfold wrap64; omega
        cases hr : ownL (lis (s.extract k j)) with
        | true =>
          have HW9 := Lib.hid (show stepL (dr s k) = if 12 < j - k then some .err else some (.tok 5 (lis (s.extract k j)) (j - k)) from by rw [HW.out, hr]; rfl)
          clear hr
          go_upto_region 28 with fail
          have HS6 := Lib.hid (HS5.out.tok HTB5.out HFR.out HTL.out 0 (.int .i64 5))
          have hb6 := HTB5.out.set_ 0 (.int .i64 5)
          simp only [sLA, sL0, sL1] at hb6
          have HTB6 := Lib.hid hb6
          clear hb6
          clear t0 ft0
          generalize w5.setCell ⟨tb, 0, none⟩ (.int .i64 5) = w6 at HS6 HTB6 ⊢
          have r0 : w6.cell? ⟨rb, 0, none⟩ = some (.slice none 0 0) := HS6.out.r.cell 0
          have r1 : w6.cell? ⟨rb, 1, none⟩ = some (.int .i64 0) := HS6.out.r.cell 1
          have r2 : w6.cell? ⟨rb, 2, none⟩ = some (.int .i64 0) := HS6.out.r.cell 2
          have f0 := HS6.out.r.frozen 0
          have f1 := HS6.out.r.frozen 1
          have f2 := HS6.out.r.frozen 2
          go_wp2_with fail
          all_goals first
            | exact HN.out (j) _ _ _ _ _ _ _ _ _ _ _ _ _ _ _ _ _ _ _ _ _ _ _ _ _ _ _ _ _ _ _ _ _ _ _ _ _ _ _ _ _ _ _ _ _ _ _ _ _ _ _ _ _ _ _ _ _ _ _ _ _ _ _ _ _ _ _ _ _ _ _ _ _ _ _ _ _ _ _ _ _ _ _ _ _ _ _ _ _ _ _ _ _ _ _ _ _ _ _ _ _ _ _ _ _ _ _ _ _ _ _ _ _ _ _ _ _ _ _ _ _ _ _ _ _ _ _ _ _ _ _ _ _ _ _ _ _ _ _ _ _ _ _ _ _ _ _ _ _ _ _ _ _ _ _ _ _ _ _ _ _ _ _ _ _ _ _ _ _ _ _ _ _ _ (by omega) (by omega) (by omega) HS6.out HTB6.out (.inl (by rw [HW9.out, if_neg (by omega)]))
            | exact HT.out _ _ _ _ HS6.out (.inl (by rw [HW9.out, if_pos (by omega)])) rfl rfl
        | false =>
          go_wp2_with fail
          refine (c57 x w5).mono ?_
          rintro e _ ⟨rfl, rfl⟩
          cases hg : gB x with
          | true =>
            have HW9 := Lib.hid (show stepL (dr s k) = if 12 < j - k then some .err else some (.tok 2 (lis (s.extract k j)) (j - k)) from by rw [HW.out, hr, hg]; rfl)
            clear hr
            go_upto_region 28 with fail
            have HS6 := Lib.hid (HS5.out.tok HTB5.out HFR.out HTL.out 0 (.int .i64 2))
            have hb6 := HTB5.out.set_ 0 (.int .i64 2)
            simp only [sLA, sL0, sL1] at hb6
            have HTB6 := Lib.hid hb6
            clear hb6
            clear t0 ft0
            generalize w5.setCell ⟨tb, 0, none⟩ (.int .i64 2) = w6 at HS6 HTB6 ⊢
            have r0 : w6.cell? ⟨rb, 0, none⟩ = some (.slice none 0 0) := HS6.out.r.cell 0
            have r1 : w6.cell? ⟨rb, 1, none⟩ = some (.int .i64 0) := HS6.out.r.cell 1
            have r2 : w6.cell? ⟨rb, 2, none⟩ = some (.int .i64 0) := HS6.out.r.cell 2
            have f0 := HS6.out.r.frozen 0
            have f1 := HS6.out.r.frozen 1
            have f2 := HS6.out.r.frozen 2
            go_wp2_with fail
            all_goals first
              | exact HN.out (j) _ _ _ _ _ _ _ _ _ _ _ _ _ _ _ _ _ _ _ _ _ _ _ _ _ _ _ _ _ _ _ _ _ _ _ _ _ _ _ _ _ _ _ _ _ _ _ _ _ _ _ _ _ _ _ _ _ _ _ _ _ _ _ _ _ _ _ _ _ _ _ _ _ _ _ _ _ _ _ _ _ _ _ _ _ _ _ _ _ _ _ _ _ _ _ _ _ _ _ _ _ _ _ _ _ _ _ _ _ _ _ _ _ _ _ _ _ _ _ _ _ _ _ _ _ _ _ _ _ _ _ _ _ _ _ _ _ _ _ _ _ _ _ _ _ _ _ _ _ _ _ _ _ _ _ _ _ _ _ _ _ _ _ _ _ _ _ _ _ _ _ _ _ _ (by omega) (by omega) (by omega) HS6.out HTB6.out (.inl (by rw [HW9.out, if_neg (by omega)]))
              | exact HT.out _ _ _ _ HS6.out (.inl (by rw [HW9.out, if_pos (by omega)])) rfl rfl
          | false =>
            have HW9 := Lib.hid (show stepL (dr s k) = if 12 < j - k then some .err else some (.tok 1 (lis (s.extract k j)) (j - k)) from by rw [HW.out, hr, hg]; rfl)
            clear hr
            go_upto_region 28 with fail
            have HS6 := Lib.hid (HS5.out.tok HTB5.out HFR.out HTL.out 0 (.int .i64 1))
            have hb6 := HTB5.out.set_ 0 (.int .i64 1)
            simp only [sLA, sL0, sL1] at hb6
            have HTB6 := Lib.hid hb6
            clear hb6
            clear t0 ft0
            generalize w5.setCell ⟨tb, 0, none⟩ (.int .i64 1) = w6 at HS6 HTB6 ⊢
            have r0 : w6.cell? ⟨rb, 0, none⟩ = some (.slice none 0 0) := HS6.out.r.cell 0
            have r1 : w6.cell? ⟨rb, 1, none⟩ = some (.int .i64 0) := HS6.out.r.cell 1
            have r2 : w6.cell? ⟨rb, 2, none⟩ = some (.int .i64 0) := HS6.out.r.cell 2
            have f0 := HS6.out.r.frozen 0
            have f1 := HS6.out.r.frozen 1
            have f2 := HS6.out.r.frozen 2
            go_wp2_with fail
            all_goals first
              | exact HN.out (j) _ _ _ _ _ _ _ _ _ _ _ _ _ _ _ _ _ _ _ _ _ _ _ _ _ _ _ _ _ _ _ _ _ _ _ _ _ _ _ _ _ _ _ _ _ _ _ _ _ _ _ _ _ _ _ _ _ _ _ _ _ _ _ _ _ _ _ _ _ _ _ _ _ _ _ _ _ _ _ _ _ _ _ _ _ _ _ _ _ _ _ _ _ _ _ _ _ _ _ _ _ _ _ _ _ _ _ _ _ _ _ _ _ _ _ _ _ _ _ _ _ _ _ _ _ _ _ _ _ _ _ _ _ _ _ _ _ _ _ _ _ _ _ _ _ _ _ _ _ _ _ _ _ _ _ _ _ _ _ _ _ _ _ _ _ _ _ _ _ _ _ _ _ _ (by omega) (by omega) (by omega) HS6.out HTB6.out (.inl (by rw [HW9.out, if_neg (by omega)]))
              | exact HT.out _ _ _ _ HS6.out (.inl (by rw [HW9.out, if_pos (by omega)])) rfl rfl
    · have hjk : ¬ ((j : Int) < (s.size : Int)) := by omega
      have HW := Lib.hid (step_word hlt HX.out HCL.out hj1 hj2 HAL.out (by rw [show j = s.size by omega]; exact nextB_end _ _))
      go_upto_region 24 with fail
      have HS2 := Lib.hid (HST.out.tok HTB.out HFR.out HTL.out 1 (.string (s.extract k j)))
      have hb2 := HTB.out.set_ 1 (.string (s.extract k j))
      simp only [sLA, sL0, sL1] at hb2
      have HTB2 := Lib.hid hb2
      clear hb2 t1 ft1
      generalize wr.setCell ⟨tb, 1, none⟩ (.string (s.extract k j)) = w2 at HS2 HTB2 ⊢
      have t1 : w2.cell? ⟨tb, 1, none⟩ = some (.string (s.extract k j)) := HTB2.out.cell 1
      go_wp2_with fail
      clear t1
      refine (x59 (s.extract k j) (by rw [ByteArray.size_extract]; omega) w2).mono ?_
      rintro e w5 ⟨rfl, hb5⟩
      have HS5 := Lib.hid (HS2.out.next hb5)
      have HTB5 := Lib.hid (HTB2.out.next hb5)
      clear hb5 HS2 HTB2
      have t0 : w5.cell? ⟨tb, 0, none⟩ = some (.int .i64 0) := HTB5.out.cell 0
      have ft0 := HTB5.out.frozen 0
      have hw : wrap64 ((j : Int) - (k : Int)) = (j : Int) - (k : Int) := by unfold wrap64; omega
      cases hr : ownL (lis (s.extract k j)) with
      | true =>
        have HW9 := Lib.hid (show stepL (dr s k) = if 12 < j - k then some .err else some (.tok 5 (lis (s.extract k j)) (j - k)) from by rw [HW.out, hr]; rfl)
        clear hr
        go_upto_region 28 with fail
        have HS6 := Lib.hid (HS5.out.tok HTB5.out HFR.out HTL.out 0 (.int .i64 5))
        have hb6 := HTB5.out.set_ 0 (.int .i64 5)
        simp only [sLA, sL0, sL1] at hb6
        have HTB6 := Lib.hid hb6
        clear hb6
        clear t0 ft0
        generalize w5.setCell ⟨tb, 0, none⟩ (.int .i64 5) = w6 at HS6 HTB6 ⊢
        have r0 : w6.cell? ⟨rb, 0, none⟩ = some (.slice none 0 0) := HS6.out.r.cell 0
        have r1 : w6.cell? ⟨rb, 1, none⟩ = some (.int .i64 0) := HS6.out.r.cell 1
        have r2 : w6.cell? ⟨rb, 2, none⟩ = some (.int .i64 0) := HS6.out.r.cell 2
        have f0 := HS6.out.r.frozen 0
        have f1 := HS6.out.r.frozen 1
        have f2 := HS6.out.r.frozen 2
        go_wp2_with fail
        all_goals first
          | exact HN.out (j) _ _ _ _ _ _ _ _ _ _ _ _ _ _ _ _ _ _ _ _ _ _ _ _ _ _ _ _ _ _ _ _ _ _ _ _ _ _ _ _ _ _ _ _ _ _ _ _ _ _ _ _ _ _ _ _ _ _ _ _ _ _ _ _ _ _ _ _ _ _ _ _ _ _ _ _ _ _ _ _ _ _ _ _ _ _ _ _ _ _ _ _ _ _ _ _ _ _ _ _ _ _ _ _ _ _ _ _ _ _ _ _ _ _ _ _ _ _ _ _ _ _ _ _ _ _ _ _ _ _ _ _ _ _ _ _ _ _ _ _ _ _ _ _ _ _ _ _ _ _ _ _ _ _ _ _ _ _ _ _ _ _ _ _ _ _ _ _ _ _ _ _ _ _ (by omega) (by omega) (by omega) HS6.out HTB6.out (.inl (by rw [HW9.out, if_neg (by omega)]))
          | exact HT.out _ _ _ _ HS6.out (.inl (by rw [HW9.out, if_pos (by omega)])) rfl rfl
      | false =>
        go_wp2_with fail
        refine (c57 x w5).mono ?_
        rintro e _ ⟨rfl, rfl⟩
        cases hg : gB x with
        | true =>
          have HW9 := Lib.hid (show stepL (dr s k) = if 12 < j - k then some .err else some (.tok 2 (lis (s.extract k j)) (j - k)) from by rw [HW.out, hr, hg]; rfl)
          clear hr
          go_upto_region 28 with fail
          have HS6 := Lib.hid (HS5.out.tok HTB5.out HFR.out HTL.out 0 (.int .i64 2))
          have hb6 := HTB5.out.set_ 0 (.int .i64 2)
          simp only [sLA, sL0, sL1] at hb6
          have HTB6 := Lib.hid hb6
          clear hb6
          clear t0 ft0
          generalize w5.setCell ⟨tb, 0, none⟩ (.int .i64 2) = w6 at HS6 HTB6 ⊢
          have r0 : w6.cell? ⟨rb, 0, none⟩ = some (.slice none 0 0) := HS6.out.r.cell 0
          have r1 : w6.cell? ⟨rb, 1, none⟩ = some (.int .i64 0) := HS6.out.r.cell 1
          have r2 : w6.cell? ⟨rb, 2, none⟩ = some (.int .i64 0) := HS6.out.r.cell 2
          have f0 := HS6.out.r.frozen 0
          have f1 := HS6.out.r.frozen 1
          have f2 := HS6.out.r.frozen 2
          go_wp2_with fail
          all_goals first
            | exact HN.out (j) _ _ _ _ _ _ _ _ _ _ _ _ _ _ _ _ _ _ _ _ _ _ _ _ _ _ _ _ _ _ _ _ _ _ _ _ _ _ _ _ _ _ _ _ _ _ _ _ _ _ _ _ _ _ _ _ _ _ _ _ _ _ _ _ _ _ _ _ _ _ _ _ _ _ _ _ _ _ _ _ _ _ _ _ _ _ _ _ _ _ _ _ _ _ _ _ _ _ _ _ _ _ _ _ _ _ _ _ _ _ _ _ _ _ _ _ _ _ _ _ _ _ _ _ _ _ _ _ _ _ _ _ _ _ _ _ _ _ _ _ _ _ _ _ _ _ _ _ _ _ _ _ _ _ _ _ _ _ _ _ _ _ _ _ _ _ _ _ _ _ _ _ _ _ (by omega) (by omega) (by omega) HS6.out HTB6.out (.inl (by rw [HW9.out, if_neg (by omega)]))
            | exact HT.out _ _ _ _ HS6.out (.inl (by rw [HW9.out, if_pos (by omega)])) rfl rfl
        | false =>
          have HW9 := Lib.hid (show stepL (dr s k) = if 12 < j - k then some .err else some (.tok 1 (lis (s.extract k j)) (j - k)) from by rw [HW.out, hr, hg]; rfl)
          clear hr
          go_upto_region 28 with fail
          have HS6 := Lib.hid (HS5.out.tok HTB5.out HFR.out HTL.out 0 (.int .i64 1))
          have hb6 := HTB5.out.set_ 0 (.int .i64 1)
          simp only [sLA, sL0, sL1] at hb6
          have HTB6 := Lib.hid hb6
          clear hb6
          clear t0 ft0
          generalize w5.setCell ⟨tb, 0, none⟩ (.int .i64 1) = w6 at HS6 HTB6 ⊢
          have r0 : w6.cell? ⟨rb, 0, none⟩ = some (.slice none 0 0) := HS6.out.r.cell 0
          have r1 : w6.cell? ⟨rb, 1, none⟩ = some (.int .i64 0) := HS6.out.r.cell 1
          have r2 : w6.cell? ⟨rb, 2, none⟩ = some (.int .i64 0) := HS6.out.r.cell 2
          have f0 := HS6.out.r.frozen 0
          have f1 := HS6.out.r.frozen 1
          have f2 := HS6.out.r.frozen 2
          go_wp2_with fail
          all_goals first
            | exact HN.out (j) _ _ _ _ _ _ _ _ _ _ _ _ _ _ _ _ _ _ _ _ _ _ _ _ _ _ _ _ _ _ _ _ _ _ _ _ _ _ _ _ _ _ _ _ _ _ _ _ _ _ _ _ _ _ _ _ _ _ _ _ _ _ _ _ _ _ _ _ _ _ _ _ _ _ _ _ _ _ _ _ _ _ _ _ _ _ _ _ _ _ _ _ _ _ _ _ _ _ _ _ _ _ _ _ _ _ _ _ _ _ _ _ _ _ _ _ _ _ _ _ _ _ _ _ _ _ _ _ _ _ _ _ _ _ _ _ _ _ _ _ _ _ _ _ _ _ _ _ _ _ _ _ _ _ _ _ _ _ _ _ _ _ _ _ _ _ _ _ _ _ _ _ _ _ (by omega) (by omega) (by omega) HS6.out HTB6.out (.inl (by rw [HW9.out, if_neg (by omega)]))
            | exact HT.out _ _ _ _ HS6.out (.inl (by rw [HW9.out, if_pos (by omega)])) rfl rfl
set_option maxRecDepth 100000 in
set_option maxHeartbeats 16000000 in
theorem xtokLu {u1 u10 u11 u12 u13 u14 u15 u16 u17 u18 u19 u20 u21 u22 u23 u24 u25 u194 u195 u196 u197 u198 u199 u200 u201 u8 u9 u26 u27 u28 u29 u30 u31 u32 u33 u34 u35 u36 u37 u38 u39 u40 u41 u42 u43 u44 u45 u46 u47 u48 u49 u50 u51 u52 u53 u54 u55 u56 u57 u58 u59 u60 u61 u62 u63 u64 u65 u66 u67 u68 u69 u70 u71 u72 u73 u74 u75 u76 u77 u78 u79 u80 u81 u82 u83 u84 u85 u86 u87 u88 u89 u90 u91 u92 u93 u94 u95 u96 u97 u98 u99 u100 u101 u102 u103 u104 u105 u106 u107 u108 u109 u110 u111 u112 u113 u114 u115 u116 u117 u118 u119 u120 u121 u122 u123 u124 u125 u126 u127 u128 u129 u130 u131 u132 u133 u134 u135 u136 u137 u138 u139 u140 u141 u142 u143 u144 u145 u146 u147 u148 u149 u150 u151 u152 u153 u154 u155 u156 u157 u158 u159 u160 u161 u162 u163 u164 u165 u166 u167 u168 u169 u170 u171 u172 u173 u174 u175 u176 u177 u178 u179 u180 u181 u182 u183 u184 u185 u186 u187 u188 u189 u190 u191 u192 u193 : Value} {Q : Exit → Act → World → Prop} (s : ByteArray) (hs : s.size ≤ 3000) (w0 w : World) (gb rb tb k : Nat) (x : Int) (A : Option Addr) (c : Nat) (T : List Tok) (hlt : k < s.size) (hx : ((s[k]'hlt).toNat : Int) = x) (hst : TokSt w0 w gb rb A c T) (hfr : (Value.slice A T.length c).ownBlock ≠ some tb) (htb : Blk w tb 109 #[.int .i64 0, .string ⟨#[]⟩, .int .i64 (k : Int)]) (htl : w0.heap.size ≤ tb)
    (hQ : ∀ c (a : Act) d v w', Q (.panic c) (a.put d v) w' → Q (.panic c) a w')
    (hnorm : ∀ (j : Nat) (J κ : Int) (σ : ByteArray) (w' : World) (v8 v9 v26 v27 v28 v29 v30 v31 v32 v33 v34 v35 v36 v37 v38 v39 v40 v41 v42 v43 v44 v45 v46 v47 v48 v49 v50 v51 v52 v53 v54 v55 v56 v57 v58 v59 v60 v61 v62 v63 v64 v65 v66 v67 v68 v69 v70 v71 v72 v73 v74 v75 v76 v77 v78 v79 v80 v81 v82 v83 v84 v85 v86 v87 v88 v89 v90 v91 v92 v93 v94 v95 v96 v97 v98 v99 v100 v101 v102 v103 v104 v105 v106 v107 v108 v109 v110 v111 v112 v113 v114 v115 v116 v117 v118 v119 v120 v121 v122 v123 v124 v125 v126 v127 v128 v129 v130 v131 v132 v133 v134 v135 v136 v137 v138 v139 v140 v141 v142 v143 v144 v145 v146 v147 v148 v149 v150 v151 v152 v153 v154 v155 v156 v157 v158 v159 v160 v161 v162 v163 v164 v165 v166 v167 v168 v169 v170 v171 v172 v173 v174 v175 v176 v177 v178 v179 v180 v181 v182 v183 v184 v185 v186 v187 v188 v189 v190 v191 v192 v193 : Value), J = (j : Int) → k < j → j ≤ s.size → TokSt w0 w' gb rb A c T → Blk w' tb 109 #[.int .i64 κ, .string σ, .int .i64 (k : Int)] → StepOk (dr s k) (.tok κ (lis σ) (j - k)) → Q .normal ⟨#[.string s, u1, ptr rb, ptr gb, .int .i64 (k : Int), .int .u8 x, .int .i64 J, ptr tb, v8, v9, u10, u11, u12, u13, u14, u15, u16, u17, u18, u19, u20, u21, u22, u23, u24, u25, v26, v27, v28, v29, v30, v31, v32, v33, v34, v35, v36, v37, v38, v39, v40, v41, v42, v43, v44, v45, v46, v47, v48, v49, v50, v51, v52, v53, v54, v55, v56, v57, v58, v59, v60, v61, v62, v63, v64, v65, v66, v67, v68, v69, v70, v71, v72, v73, v74, v75, v76, v77, v78, v79, v80, v81, v82, v83, v84, v85, v86, v87, v88, v89, v90, v91, v92, v93, v94, v95, v96, v97, v98, v99, v100, v101, v102, v103, v104, v105, v106, v107, v108, v109, v110, v111, v112, v113, v114, v115, v116, v117, v118, v119, v120, v121, v122, v123, v124, v125, v126, v127, v128, v129, v130, v131, v132, v133, v134, v135, v136, v137, v138, v139, v140, v141, v142, v143, v144, v145, v146, v147, v148, v149, v150, v151, v152, v153, v154, v155, v156, v157, v158, v159, v160, v161, v162, v163, v164, v165, v166, v167, v168, v169, v170, v171, v172, v173, v174, v175, v176, v177, v178, v179, v180, v181, v182, v183, v184, v185, v186, v187, v188, v189, v190, v191, v192, v193, u194, u195, u196, u197, u198, u199, u200, u201], []⟩ w')
    (hcont : ∀ (j : Nat) (J : Int) (w' : World) (v6 v8 v9 v26 v27 v28 v29 v30 v31 v32 v33 v34 v35 v36 v37 v38 v39 v40 v41 v42 v43 v44 v45 v46 v47 v48 v49 v50 v51 v52 v53 v54 v55 v56 v57 v58 v59 v60 v61 v62 v63 v64 v65 v66 v67 v68 v69 v70 v71 v72 v73 v74 v75 v76 v77 v78 v79 v80 v81 v82 v83 v84 v85 v86 v87 v88 v89 v90 v91 v92 v93 v94 v95 v96 v97 v98 v99 v100 v101 v102 v103 v104 v105 v106 v107 v108 v109 v110 v111 v112 v113 v114 v115 v116 v117 v118 v119 v120 v121 v122 v123 v124 v125 v126 v127 v128 v129 v130 v131 v132 v133 v134 v135 v136 v137 v138 v139 v140 v141 v142 v143 v144 v145 v146 v147 v148 v149 v150 v151 v152 v153 v154 v155 v156 v157 v158 v159 v160 v161 v162 v163 v164 v165 v166 v167 v168 v169 v170 v171 v172 v173 v174 v175 v176 v177 v178 v179 v180 v181 v182 v183 v184 v185 v186 v187 v188 v189 v190 v191 v192 v193 : Value), J = (j : Int) → k < j → j ≤ s.size → TokSt w0 w' gb rb A c T → StepOk (dr s k) (.skip (j - k)) → Q (.exit 1) ⟨#[.string s, u1, ptr rb, ptr gb, .int .i64 J, .int .u8 x, v6, ptr tb, v8, v9, u10, u11, u12, u13, u14, u15, u16, u17, u18, u19, u20, u21, u22, u23, u24, u25, v26, v27, v28, v29, v30, v31, v32, v33, v34, v35, v36, v37, v38, v39, v40, v41, v42, v43, v44, v45, v46, v47, v48, v49, v50, v51, v52, v53, v54, v55, v56, v57, v58, v59, v60, v61, v62, v63, v64, v65, v66, v67, v68, v69, v70, v71, v72, v73, v74, v75, v76, v77, v78, v79, v80, v81, v82, v83, v84, v85, v86, v87, v88, v89, v90, v91, v92, v93, v94, v95, v96, v97, v98, v99, v100, v101, v102, v103, v104, v105, v106, v107, v108, v109, v110, v111, v112, v113, v114, v115, v116, v117, v118, v119, v120, v121, v122, v123, v124, v125, v126, v127, v128, v129, v130, v131, v132, v133, v134, v135, v136, v137, v138, v139, v140, v141, v142, v143, v144, v145, v146, v147, v148, v149, v150, v151, v152, v153, v154, v155, v156, v157, v158, v159, v160, v161, v162, v163, v164, v165, v166, v167, v168, v169, v170, v171, v172, v173, v174, v175, v176, v177, v178, v179, v180, v181, v182, v183, v184, v185, v186, v187, v188, v189, v190, v191, v192, v193, u194, u195, u196, u197, u198, u199, u200, u201], []⟩ w')
    (hret : ∀ (a : Act) (X Y : Int) (w' : World), TokSt w0 w' gb rb A c T → StepOk (dr s k) .err → a.defers = [] → a.tmps.getD 2 undef = ptr rb → Q .ret a (((w'.setCell ⟨rb, 0, none⟩ (.slice none 0 0)).setCell ⟨rb, 1, none⟩ (.int .i64 X)).setCell ⟨rb, 2, none⟩ (.int .i64 Y))) (hc : x = 95 ∧ ∃ h : k + 1 < s.size, vB ((s[k + 1]'h).toNat : Int) = true) :
    Code.wp Tryd.prog (block43 2) Q ⟨#[.string s, u1, ptr rb, ptr gb, .int .i64 (k : Int), .int .u8 x, .int .i64 ((k : Int) + 1), ptr tb, u8, u9, u10, u11, u12, u13, u14, u15, u16, u17, u18, u19, u20, u21, u22, u23, u24, u25, u26, u27, u28, u29, u30, u31, u32, u33, u34, u35, u36, u37, u38, u39, u40, u41, u42, u43, u44, u45, u46, u47, u48, u49, u50, u51, u52, u53, u54, u55, u56, u57, u58, u59, u60, u61, u62, u63, u64, u65, u66, u67, u68, u69, u70, u71, u72, u73, u74, u75, u76, u77, u78, u79, u80, u81, u82, u83, u84, u85, u86, u87, u88, u89, u90, u91, u92, u93, u94, u95, u96, u97, u98, u99, u100, u101, u102, u103, u104, u105, u106, u107, u108, u109, u110, u111, u112, u113, u114, u115, u116, u117, u118, u119, u120, u121, u122, u123, u124, u125, u126, u127, u128, u129, u130, u131, u132, u133, u134, u135, u136, u137, u138, u139, u140, u141, u142, u143, u144, u145, u146, u147, u148, u149, u150, u151, u152, u153, u154, u155, u156, u157, u158, u159, u160, u161, u162, u163, u164, u165, u166, u167, u168, u169, u170, u171, u172, u173, u174, u175, u176, u177, u178, u179, u180, u181, u182, u183, u184, u185, u186, u187, u188, u189, u190, u191, u192, u193, u194, u195, u196, u197, u198, u199, u200, u201], []⟩ w := by
  have HN := Lib.hid hnorm
  have HQ := Lib.hid hQ
  clear hQ
  have HC := Lib.hid hcont
  have HT := Lib.hid hret
  have HST := Lib.hid hst
  have HFR := Lib.hid hfr
  have HTB := Lib.hid htb
  have HTL := Lib.hid htl
  have HX := Lib.hid hx
  clear hnorm hcont hret hst hfr htb htl hx
  have hlk : (k : Int) < (s.size : Int) := by omega
  have hk0 : (0 : Int) ≤ (k : Int) := by omega
  conv => arg 2; whnf
  obtain ⟨rfl, hk1, hv1⟩ := hc
  have HCL := Lib.hid (show nextB vB (dr s (k + 1)) = true by rw [nextB_dr vB hk1]; exact hv1)
  have hkk : (k : Int) + 1 < (s.size : Int) := by omega
  have hk10 : (0 : Int) ≤ (k : Int) + 1 := by omega
  have htn : ((k : Int) + 1).toNat = k + 1 := by omega
  have hne : ((k : Int) + 1 == (s.size : Int)) = false := beq_false_of_ne (by omega)
  have hsb : sB 95 = true := rfl
  go_wp2_with fail
  refine (c56 95 w).mono ?_
  rintro e _ ⟨he, rfl⟩
  rw [hsb] at he
  subst he
  clear hsb
  go_wp2_with fail
  refine (c58 _ w).mono ?_
  rintro e _ ⟨he, rfl⟩
  rw [hv1] at he
  subst he
  clear hv1
  go_wp2_with fail
  go_loopw [6] (fun i wr => ∃ j : Nat, k < j ∧ j ≤ s.size ∧ i = .int .i64 j ∧ wr = w ∧ ∀ i (h : i < s.size), k < i → i < j → vB ((s[i]'h).toNat : Int) = true) (fun i _ => s.size - (intOf i).toNat)
  case atStart => exact ⟨k + 1, by omega, by omega, by go_num, rfl, fun i h h1 h2 => by omega⟩
  case round =>
    obtain ⟨j, hj1, hj2, rfl, rfl, hal⟩ := hrel
    have HAL := Lib.hid hal
    clear hal
    have t1 : wr.cell? ⟨tb, 1, none⟩ = some (.string ⟨#[]⟩) := HTB.out.cell 1
    have ft1 := HTB.out.frozen 1
    have s1 : (k : Int) ≤ (j : Int) := by omega
    have s2 : (j : Int) ≤ (s.size : Int) := by omega
    have hj0 : (0 : Int) ≤ (j : Int) := by omega
    by_cases hjs : j < s.size
    · have hjk : (j : Int) < (s.size : Int) := by omega
      go_wp2_with fail
      refine (c58 _ wr).mono ?_
      rintro e _ ⟨rfl, rfl⟩
      cases hv : vB (((s[j]'hjs).toNat : Int)) with
      | true =>
        have HAL2 := Lib.hid (show ∀ i (h : i < s.size), k < i → i < j + 1 → vB ((s[i]'h).toNat : Int) = true from fun i h h1 h2 => by
          by_cases h3 : i = j
          · subst h3; exact hv
          · exact HAL.out i h h1 (by omega))
        clear t1 ft1
        go_wp2_with fail
        all_goals exact ⟨⟨j + 1, by omega, by omega, by go_num, by first | rfl | trivial, HAL2.out⟩, by simp [intOf]; omega⟩
      | false =>
        have HW := Lib.hid (step_word hlt HX.out (.inr (.inr ⟨rfl, HCL.out⟩)) hj1 hj2 HAL.out (by rw [nextB_dr _ hjs]; exact hv))
        go_upto_region 24 with fail
        have HS2 := Lib.hid (HST.out.tok HTB.out HFR.out HTL.out 1 (.string (s.extract k j)))
        have hb2 := HTB.out.set_ 1 (.string (s.extract k j))
        simp only [sLA, sL0, sL1] at hb2
        have HTB2 := Lib.hid hb2
        clear hb2 t1 ft1
        generalize wr.setCell ⟨tb, 1, none⟩ (.string (s.extract k j)) = w2 at HS2 HTB2 ⊢
        have t1 : w2.cell? ⟨tb, 1, none⟩ = some (.string (s.extract k j)) := HTB2.out.cell 1
        go_wp2_with fail
        clear t1
        refine (x59 (s.extract k j) (by rw [ByteArray.size_extract]; omega) w2).mono ?_
        rintro e w5 ⟨rfl, hb5⟩
        have HS5 := Lib.hid (HS2.out.next hb5)
        have HTB5 := Lib.hid (HTB2.out.next hb5)
        clear hb5 HS2 HTB2
        have t0 : w5.cell? ⟨tb, 0, none⟩ = some (.int .i64 0) := HTB5.out.cell 0
        have ft0 := HTB5.out.frozen 0
        have hw : wrap64 ((j : Int) - (k : Int)) = (j : Int) - (k : Int) := by unfold wrap64; omega
        cases hr : ownL (lis (s.extract k j)) with
        | true =>
          have HW9 := Lib.hid (show stepL (dr s k) = if 12 < j - k then some .err else some (.tok 5 (lis (s.extract k j)) (j - k)) from by rw [HW.out, hr]; rfl)
          clear hr
          go_upto_region 28 with fail
          have HS6 := Lib.hid (HS5.out.tok HTB5.out HFR.out HTL.out 0 (.int .i64 5))
          have hb6 := HTB5.out.set_ 0 (.int .i64 5)
          simp only [sLA, sL0, sL1] at hb6
          have HTB6 := Lib.hid hb6
          clear hb6
          clear t0 ft0
          generalize w5.setCell ⟨tb, 0, none⟩ (.int .i64 5) = w6 at HS6 HTB6 ⊢
          have r0 : w6.cell? ⟨rb, 0, none⟩ = some (.slice none 0 0) := HS6.out.r.cell 0
          have r1 : w6.cell? ⟨rb, 1, none⟩ = some (.int .i64 0) := HS6.out.r.cell 1
          have r2 : w6.cell? ⟨rb, 2, none⟩ = some (.int .i64 0) := HS6.out.r.cell 2
          have f0 := HS6.out.r.frozen 0
          have f1 := HS6.out.r.frozen 1
          have f2 := HS6.out.r.frozen 2
          go_wp2_with fail
          all_goals first
            | exact HN.out (j) _ _ _ _ _ _ _ _ _ _ _ _ _ _ _ _ _ _ _ _ _ _ _ _ _ _ _ _ _ _ _ _ _ _ _ _ _ _ _ _ _ _ _ _ _ _ _ _ _ _ _ _ _ _ _ _ _ _ _ _ _ _ _ _ _ _ _ _ _ _ _ _ _ _ _ _ _ _ _ _ _ _ _ _ _ _ _ _ _ _ _ _ _ _ _ _ _ _ _ _ _ _ _ _ _ _ _ _ _ _ _ _ _ _ _ _ _ _ _ _ _ _ _ _ _ _ _ _ _ _ _ _ _ _ _ _ _ _ _ _ _ _ _ _ _ _ _ _ _ _ _ _ _ _ _ _ _ _ _ _ _ _ _ _ _ _ _ _ _ _ _ _ _ _ (by omega) (by omega) (by omega) HS6.out HTB6.out (.inl (by rw [HW9.out, if_neg (by omega)]))
            | exact HT.out _ _ _ _ HS6.out (.inl (by rw [HW9.out, if_pos (by omega)])) rfl rfl
        | false =>
          go_wp2_with fail
          refine (c57 95 w5).mono ?_
          rintro e _ ⟨rfl, rfl⟩
          cases hg : gB 95 with
          | true =>
            have HW9 := Lib.hid (show stepL (dr s k) = if 12 < j - k then some .err else some (.tok 2 (lis (s.extract k j)) (j - k)) from by rw [HW.out, hr, hg]; rfl)
            clear hr
            go_upto_region 28 with fail
            have HS6 := Lib.hid (HS5.out.tok HTB5.out HFR.out HTL.out 0 (.int .i64 2))
            have hb6 := HTB5.out.set_ 0 (.int .i64 2)
            simp only [sLA, sL0, sL1] at hb6
            have HTB6 := Lib.hid hb6
            clear hb6
            clear t0 ft0
            generalize w5.setCell ⟨tb, 0, none⟩ (.int .i64 2) = w6 at HS6 HTB6 ⊢
            have r0 : w6.cell? ⟨rb, 0, none⟩ = some (.slice none 0 0) := HS6.out.r.cell 0
            have r1 : w6.cell? ⟨rb, 1, none⟩ = some (.int .i64 0) := HS6.out.r.cell 1
            have r2 : w6.cell? ⟨rb, 2, none⟩ = some (.int .i64 0) := HS6.out.r.cell 2
            have f0 := HS6.out.r.frozen 0
            have f1 := HS6.out.r.frozen 1
            have f2 := HS6.out.r.frozen 2
            go_wp2_with fail
            all_goals first
              | exact HN.out (j) _ _ _ _ _ _ _ _ _ _ _ _ _ _ _ _ _ _ _ _ _ _ _ _ _ _ _ _ _ _ _ _ _ _ _ _ _ _ _ _ _ _ _ _ _ _ _ _ _ _ _ _ _ _ _ _ _ _ _ _ _ _ _ _ _ _ _ _ _ _ _ _ _ _ _ _ _ _ _ _ _ _ _ _ _ _ _ _ _ _ _ _ _ _ _ _ _ _ _ _ _ _ _ _ _ _ _ _ _ _ _ _ _ _ _ _ _ _ _ _ _ _ _ _ _ _ _ _ _ _ _ _ _ _ _ _ _ _ _ _ _ _ _ _ _ _ _ _ _ _ _ _ _ _ _ _ _ _ _ _ _ _ _ _ _ _ _ _ _ _ _ _ _ _ (by omega) (by omega) (by omega) HS6.out HTB6.out (.inl (by rw [HW9.out, if_neg (by omega)]))
              | exact HT.out _ _ _ _ HS6.out (.inl (by rw [HW9.out, if_pos (by omega)])) rfl rfl
          | false =>
            have HW9 := Lib.hid (show stepL (dr s k) = if 12 < j - k then some .err else some (.tok 1 (lis (s.extract k j)) (j - k)) from by rw [HW.out, hr, hg]; rfl)
            clear hr
            go_upto_region 28 with fail
            have HS6 := Lib.hid (HS5.out.tok HTB5.out HFR.out HTL.out 0 (.int .i64 1))
            have hb6 := HTB5.out.set_ 0 (.int .i64 1)
            simp only [sLA, sL0, sL1] at hb6
            have HTB6 := Lib.hid hb6
            clear hb6
            clear t0 ft0
            generalize w5.setCell ⟨tb, 0, none⟩ (.int .i64 1) = w6 at HS6 HTB6 ⊢
            have r0 : w6.cell? ⟨rb, 0, none⟩ = some (.slice none 0 0) := HS6.out.r.cell 0
            have r1 : w6.cell? ⟨rb, 1, none⟩ = some (.int .i64 0) := HS6.out.r.cell 1
            have r2 : w6.cell? ⟨rb, 2, none⟩ = some (.int .i64 0) := HS6.out.r.cell 2
            have f0 := HS6.out.r.frozen 0
            have f1 := HS6.out.r.frozen 1
            have f2 := HS6.out.r.frozen 2
            go_wp2_with fail
            all_goals first
              | exact HN.out (j) _ _ _ _ _ _ _ _ _ _ _ _ _ _ _ _ _ _ _ _ _ _ _ _ _ _ _ _ _ _ _ _ _ _ _ _ _ _ _ _ _ _ _ _ _ _ _ _ _ _ _ _ _ _ _ _ _ _ _ _ _ _ _ _ _ _ _ _ _ _ _ _ _ _ _ _ _ _ _ _ _ _ _ _ _ _ _ _ _ _ _ _ _ _ _ _ _ _ _ _ _ _ _ _ _ _ _ _ _ _ _ _ _ _ _ _ _ _ _ _ _ _ _ _ _ _ _ _ _ _ _ _ _ _ _ _ _ _ _ _ _ _ _ _ _ _ _ _ _ _ _ _ _ _ _ _ _ _ _ _ _ _ _ _ _ _ _ _ _ _ _ _ _ _ (by omega) (by omega) (by omega) HS6.out HTB6.out (.inl (by rw [HW9.out, if_neg (by omega)]))
              | exact HT.out _ _ _ _ HS6.out (.inl (by rw [HW9.out, if_pos (by omega)])) rfl rfl
    · have hjk : ¬ ((j : Int) < (s.size : Int)) := by omega
      have HW := Lib.hid (step_word hlt HX.out (.inr (.inr ⟨rfl, HCL.out⟩)) hj1 hj2 HAL.out (by rw [show j = s.size by omega]; exact nextB_end _ _))
      go_upto_region 24 with fail
      have HS2 := Lib.hid (HST.out.tok HTB.out HFR.out HTL.out 1 (.string (s.extract k j)))
      have hb2 := HTB.out.set_ 1 (.string (s.extract k j))
      simp only [sLA, sL0, sL1] at hb2
      have HTB2 := Lib.hid hb2
      clear hb2 t1 ft1
      generalize wr.setCell ⟨tb, 1, none⟩ (.string (s.extract k j)) = w2 at HS2 HTB2 ⊢
      have t1 : w2.cell? ⟨tb, 1, none⟩ = some (.string (s.extract k j)) := HTB2.out.cell 1
      go_wp2_with fail
      clear t1
      refine (x59 (s.extract k j) (by rw [ByteArray.size_extract]; omega) w2).mono ?_
      rintro e w5 ⟨rfl, hb5⟩
      have HS5 := Lib.hid (HS2.out.next hb5)
      have HTB5 := Lib.hid (HTB2.out.next hb5)
      clear hb5 HS2 HTB2
      have t0 : w5.cell? ⟨tb, 0, none⟩ = some (.int .i64 0) := HTB5.out.cell 0
      have ft0 := HTB5.out.frozen 0
      have hw : wrap64 ((j : Int) - (k : Int)) = (j : Int) - (k : Int) := by unfold wrap64; omega
      cases hr : ownL (lis (s.extract k j)) with
      | true =>
        have HW9 := Lib.hid (show stepL (dr s k) = if 12 < j - k then some .err else some (.tok 5 (lis (s.extract k j)) (j - k)) from by rw [HW.out, hr]; rfl)
        clear hr
        go_upto_region 28 with fail
        have HS6 := Lib.hid (HS5.out.tok HTB5.out HFR.out HTL.out 0 (.int .i64 5))
        have hb6 := HTB5.out.set_ 0 (.int .i64 5)
        simp only [sLA, sL0, sL1] at hb6
        have HTB6 := Lib.hid hb6
        clear hb6
        clear t0 ft0
        generalize w5.setCell ⟨tb, 0, none⟩ (.int .i64 5) = w6 at HS6 HTB6 ⊢
        have r0 : w6.cell? ⟨rb, 0, none⟩ = some (.slice none 0 0) := HS6.out.r.cell 0
        have r1 : w6.cell? ⟨rb, 1, none⟩ = some (.int .i64 0) := HS6.out.r.cell 1
        have r2 : w6.cell? ⟨rb, 2, none⟩ = some (.int .i64 0) := HS6.out.r.cell 2
        have f0 := HS6.out.r.frozen 0
        have f1 := HS6.out.r.frozen 1
        have f2 := HS6.out.r.frozen 2
        go_wp2_with fail
        all_goals first
          | exact HN.out (j) _ _ _ _ _ _ _ _ _ _ _ _ _ _ _ _ _ _ _ _ _ _ _ _ _ _ _ _ _ _ _ _ _ _ _ _ _ _ _ _ _ _ _ _ _ _ _ _ _ _ _ _ _ _ _ _ _ _ _ _ _ _ _ _ _ _ _ _ _ _ _ _ _ _ _ _ _ _ _ _ _ _ _ _ _ _ _ _ _ _ _ _ _ _ _ _ _ _ _ _ _ _ _ _ _ _ _ _ _ _ _ _ _ _ _ _ _ _ _ _ _ _ _ _ _ _ _ _ _ _ _ _ _ _ _ _ _ _ _ _ _ _ _ _ _ _ _ _ _ _ _ _ _ _ _ _ _ _ _ _ _ _ _ _ _ _ _ _ _ _ _ _ _ _ (by omega) (by omega) (by omega) HS6.out HTB6.out (.inl (by rw [HW9.out, if_neg (by omega)]))
          | exact HT.out _ _ _ _ HS6.out (.inl (by rw [HW9.out, if_pos (by omega)])) rfl rfl
      | false =>
        go_wp2_with fail
        refine (c57 95 w5).mono ?_
        rintro e _ ⟨rfl, rfl⟩
        cases hg : gB 95 with
        | true =>
          have HW9 := Lib.hid (show stepL (dr s k) = if 12 < j - k then some .err else some (.tok 2 (lis (s.extract k j)) (j - k)) from by rw [HW.out, hr, hg]; rfl)
          clear hr
          go_upto_region 28 with fail
          have HS6 := Lib.hid (HS5.out.tok HTB5.out HFR.out HTL.out 0 (.int .i64 2))
          have hb6 := HTB5.out.set_ 0 (.int .i64 2)
          simp only [sLA, sL0, sL1] at hb6
          have HTB6 := Lib.hid hb6
          clear hb6
          clear t0 ft0
          generalize w5.setCell ⟨tb, 0, none⟩ (.int .i64 2) = w6 at HS6 HTB6 ⊢
          have r0 : w6.cell? ⟨rb, 0, none⟩ = some (.slice none 0 0) := HS6.out.r.cell 0
          have r1 : w6.cell? ⟨rb, 1, none⟩ = some (.int .i64 0) := HS6.out.r.cell 1
          have r2 : w6.cell? ⟨rb, 2, none⟩ = some (.int .i64 0) := HS6.out.r.cell 2
          have f0 := HS6.out.r.frozen 0
          have f1 := HS6.out.r.frozen 1
          have f2 := HS6.out.r.frozen 2
          go_wp2_with fail
          all_goals first
            | exact HN.out (j) _ _ _ _ _ _ _ _ _ _ _ _ _ _ _ _ _ _ _ _ _ _ _ _ _ _ _ _ _ _ _ _ _ _ _ _ _ _ _ _ _ _ _ _ _ _ _ _ _ _ _ _ _ _ _ _ _ _ _ _ _ _ _ _ _ _ _ _ _ _ _ _ _ _ _ _ _ _ _ _ _ _ _ _ _ _ _ _ _ _ _ _ _ _ _ _ _ _ _ _ _ _ _ _ _ _ _ _ _ _ _ _ _ _ _ _ _ _ _ _ _ _ _ _ _ _ _ _ _ _ _ _ _ _ _ _ _ _ _ _ _ _ _ _ _ _ _ _ _ _ _ _ _ _ _ _ _ _ _ _ _ _ _ _ _ _ _ _ _ _ _ _ _ _ (by omega) (by omega) (by omega) HS6.out HTB6.out (.inl (by rw [HW9.out, if_neg (by omega)]))
            | exact HT.out _ _ _ _ HS6.out (.inl (by rw [HW9.out, if_pos (by omega)])) rfl rfl
        | false =>
          have HW9 := Lib.hid (show stepL (dr s k) = if 12 < j - k then some .err else some (.tok 1 (lis (s.extract k j)) (j - k)) from by rw [HW.out, hr, hg]; rfl)
          clear hr
          go_upto_region 28 with fail
          have HS6 := Lib.hid (HS5.out.tok HTB5.out HFR.out HTL.out 0 (.int .i64 1))
          have hb6 := HTB5.out.set_ 0 (.int .i64 1)
          simp only [sLA, sL0, sL1] at hb6
          have HTB6 := Lib.hid hb6
          clear hb6
          clear t0 ft0
          generalize w5.setCell ⟨tb, 0, none⟩ (.int .i64 1) = w6 at HS6 HTB6 ⊢
          have r0 : w6.cell? ⟨rb, 0, none⟩ = some (.slice none 0 0) := HS6.out.r.cell 0
          have r1 : w6.cell? ⟨rb, 1, none⟩ = some (.int .i64 0) := HS6.out.r.cell 1
          have r2 : w6.cell? ⟨rb, 2, none⟩ = some (.int .i64 0) := HS6.out.r.cell 2
          have f0 := HS6.out.r.frozen 0
          have f1 := HS6.out.r.frozen 1
          have f2 := HS6.out.r.frozen 2
          go_wp2_with fail
          all_goals first
            | exact HN.out (j) _ _ _ _ _ _ _ _ _ _ _ _ _ _ _ _ _ _ _ _ _ _ _ _ _ _ _ _ _ _ _ _ _ _ _ _ _ _ _ _ _ _ _ _ _ _ _ _ _ _ _ _ _ _ _ _ _ _ _ _ _ _ _ _ _ _ _ _ _ _ _ _ _ _ _ _ _ _ _ _ _ _ _ _ _ _ _ _ _ _ _ _ _ _ _ _ _ _ _ _ _ _ _ _ _ _ _ _ _ _ _ _ _ _ _ _ _ _ _ _ _ _ _ _ _ _ _ _ _ _ _ _ _ _ _ _ _ _ _ _ _ _ _ _ _ _ _ _ _ _ _ _ _ _ _ _ _ _ _ _ _ _ _ _ _ _ _ _ _ _ _ _ _ _ (by omega) (by omega) (by omega) HS6.out HTB6.out (.inl (by rw [HW9.out, if_neg (by omega)]))
            | exact HT.out _ _ _ _ HS6.out (.inl (by rw [HW9.out, if_pos (by omega)])) rfl rfl
end Go.Proofs.YtphojigdapaaiaaDoor
