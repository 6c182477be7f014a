/- The document's tokens: it answers. -/
import Derived.Test.YtphojigdapaaiaaDoorATp3
import Derived.Deep.CutBlock
namespace Go.Proofs.YtphojigdapaaiaaDoor
open Go.ChangeShapes Go.WideShapes Go.ChangeAt Go.RowKit
set_option linter.unusedVariables false
set_option linter.unusedSimpArgs false
set_option maxRecDepth 100000 in
set_option maxHeartbeats 16000000 in
theorem c43 (s : ByteArray) (hs : s.size ≤ 3000) (w : World) : Calls Tryd.prog 43 #[.string s] w (TokEnd w) := by
  obtain ⟨i109, fi109, hz0, hz1, hz2⟩ := info_parts tok_info
  have H109 := Lib.hid (show i109.zero = some (.agg #[.int .i64 0, .string ⟨#[]⟩, .int .i64 0]) ∧ i109.size = 3 ∧ i109.bytes = 32 from ⟨hz0, hz1, hz2⟩)
  clear hz0 hz1 hz2
  have hR := Blk.new w 92 #[.slice none 0 0, .int .i64 0, .int .i64 0]
  have hB := below_new w (.cells #[.slice none 0 0, .int .i64 0, .int .i64 0] 92)
  generalize hw1 : w.alloc (.cells #[.slice none 0 0, .int .i64 0, .int .i64 0] 92) = w1 at hR hB
  have hG := Blk.new w1 92 #[.slice none 0 0, .int .i64 0, .int .i64 0]
  have hB1 := below_new w1 (.cells #[.slice none 0 0, .int .i64 0, .int .i64 0] 92)
  have hst : TokSt w (w1.alloc (.cells #[.slice none 0 0, .int .i64 0, .int .i64 0] 92)) w1.heap.size w.heap.size none 0 [] := ⟨hG, hR.next hB1, ⟨rfl, .inl ⟨rfl, rfl⟩⟩, next_ hB hB1, hB.size, Nat.le_refl _, by have := hR.lt; omega⟩
  have HST := Lib.hid hst
  have HR := Lib.hid hR
  have HB := Lib.hid hB
  have HLE := Lib.hid (Nat.le_refl w.heap.size)
  clear hst hR hB hG hB1
  go_enter Tryd.func43, Tryd.ntmps43
  go_upto_region 1 with fail
  clear hw1
  generalize hrb : w.heap.size = rb at HR HST ⊢
  have HRLE := Lib.hid (show w.heap.size ≤ rb by omega)
  clear hrb
  have r0 : w1.cell? ⟨rb, 0, none⟩ = some (.slice none 0 0) := HR.out.cell 0
  have r1 : w1.cell? ⟨rb, 1, none⟩ = some (.int .i64 0) := HR.out.cell 1
  have r2 : w1.cell? ⟨rb, 2, none⟩ = some (.int .i64 0) := HR.out.cell 2
  have f0 := HR.out.frozen 0
  have f1 := HR.out.frozen 1
  have f2 := HR.out.frozen 2
  by_cases h2000 : 2000 < s.size
  · have h2 : (2000 : Int) < (s.size : Int) := by omega
    go_wp2_with fail
    exact bodyPost_ret (results_cell_row rfl _ _ _ 92 _ (0, 0) _ rfl (row3 HR.out) Tryd.underlying92 rfl (by kernel_rfl)) rfl ⟨[], none, 0, 10, 0, rfl, Reads.none_, low3 HRLE.out HB.out⟩
  have h2 : ¬ (2000 : Int) < (s.size : Int) := by omega
  go_upto_region 4 with fail
  clear r0 r1 r2 f0 f1 f2
  generalize w1.alloc (.cells #[.slice none 0 0, .int .i64 0, .int .i64 0] 92) = w2 at HST ⊢
  generalize hgb : w1.heap.size = gb at HST ⊢
  clear hgb
  go_wp2_with fail
  go_loopw [4] (fun i wr => ∃ (k : Nat) (T : List Tok) (A : Option Addr) (c : Nat), k ≤ s.size ∧ i = .int .i64 k ∧ TokSt w wr gb rb A c T ∧ T.length ≤ k) (fun i _ => s.size - (intOf i).toNat)
  case atStart => exact ⟨0, [], none, 0, by omega, rfl, HST.out, by simp⟩
  case round =>
    obtain ⟨k, T, A, c, hk, rfl, hst, hT⟩ := hrel
    have HS0 := Lib.hid hst
    have HTL := Lib.hid hT
    clear hst hT HST HR HB
    by_cases hlt : k < s.size
    case neg =>
      obtain rfl : k = s.size := by omega
      have hlk : ¬ ((s.size : Int) < (s.size : Int)) := by omega
      have g0 : wr.cell? ⟨gb, 0, none⟩ = some (.slice A T.length c) := HS0.out.g.cell 0
      have g1 : wr.cell? ⟨gb, 1, none⟩ = some (.int .i64 0) := HS0.out.g.cell 1
      have g2 : wr.cell? ⟨gb, 2, none⟩ = some (.int .i64 0) := HS0.out.g.cell 2
      have r0 : wr.cell? ⟨rb, 0, none⟩ = some (.slice none 0 0) := HS0.out.r.cell 0
      have r1 : wr.cell? ⟨rb, 1, none⟩ = some (.int .i64 0) := HS0.out.r.cell 1
      have r2 : wr.cell? ⟨rb, 2, none⟩ = some (.int .i64 0) := HS0.out.r.cell 2
      have f0 := HS0.out.r.frozen 0
      have f1 := HS0.out.r.frozen 1
      have f2 := HS0.out.r.frozen 2
      go_wp2_with fail
      exact bodyPost_ret (results_cell_row rfl _ _ _ 92 _ (0, 0) _ rfl (row3 HS0.out.r) Tryd.underlying92 rfl (by kernel_rfl)) rfl (HS0.out.all_ 0 0)
    have hlk : (k : Int) < (s.size : Int) := by omega
    have hk0 : (0 : Int) ≤ (k : Int) := by omega
    have hT := Blk.new wr 109 #[.int .i64 0, .string ⟨#[]⟩, .int .i64 (k : Int)]
    have hb := below_new wr (.cells #[.int .i64 0, .string ⟨#[]⟩, .int .i64 (k : Int)] 109)
    have HS1 := Lib.hid (HS0.out.next hb)
    have HFR := Lib.hid (HS0.out.fresh (Nat.le_refl _))
    have HTLE := Lib.hid (show w.heap.size ≤ wr.heap.size from HS0.out.low.size)
    generalize hw3 : wr.alloc (.cells #[.int .i64 0, .string ⟨#[]⟩, .int .i64 (k : Int)] 109) = w3 at hT hb HS1
    have HTB := Lib.hid hT
    clear hT hb
    go_upto_block 2 with fail
    clear hw3
    generalize hqq : s[k]'hlt = q
    have HQ := Lib.hid hqq
    clear hqq
    have HFR1 := HFR
    clear HFR HS0
    generalize wr.heap.size = tb at HTB HTLE HFR1 ⊢
    obtain ⟨x, hx⟩ : ∃ x : Int, (q.toNat : Int) = x := ⟨_, rfl⟩
    rw [hx]
    have HX := Lib.hid hx
    clear hx
    have hxq : ((s[k]'hlt).toNat : Int) = x := by rw [HQ.out]; exact HX.out
    refine tokAll s hs w w3 gb rb tb k x A c T hlt hxq HS1.out HFR1.out HTB.out HTLE.out (fun _ _ d _ _ h => by cases d <;> exact h) ?_ ?_ ?_
    · intro j J κ σ w6 v8 v9 v26 v27 v28 v29 v30 v31 v32 v33 v34 v35 v36 v37 v38 v39 v40 v41 v42 v43 v44 v45 v46 v47 v48 v49 v50 v51 v52 v53 v54 v55 v56 v57 v58 v59 v60 v61 v62 v63 v64 v65 v66 v67 v68 v69 v70 v71 v72 v73 v74 v75 v76 v77 v78 v79 v80 v81 v82 v83 v84 v85 v86 v87 v88 v89 v90 v91 v92 v93 v94 v95 v96 v97 v98 v99 v100 v101 v102 v103 v104 v105 v106 v107 v108 v109 v110 v111 v112 v113 v114 v115 v116 v117 v118 v119 v120 v121 v122 v123 v124 v125 v126 v127 v128 v129 v130 v131 v132 v133 v134 v135 v136 v137 v138 v139 v140 v141 v142 v143 v144 v145 v146 v147 v148 v149 v150 v151 v152 v153 v154 v155 v156 v157 v158 v159 v160 v161 v162 v163 v164 v165 v166 v167 v168 v169 v170 v171 v172 v173 v174 v175 v176 v177 v178 v179 v180 v181 v182 v183 v184 v185 v186 v187 v188 v189 v190 v191 v192 v193 hJ hj1 hj2 hS6 hT6
      subst hJ
      dsimp only [ptr]
      have HS6 := Lib.hid hS6
      have HT6 := Lib.hid hT6
      clear hS6 hT6 HS1 HTB HFR1 HX HQ hxq
      have t0 : w6.cell? ⟨tb, 0, none⟩ = some (.int .i64 κ) := HT6.out.cell 0
      have t1 : w6.cell? ⟨tb, 1, none⟩ = some (.string σ) := HT6.out.cell 1
      have t2 : w6.cell? ⟨tb, 2, none⟩ = some (.int .i64 (k : Int)) := HT6.out.cell 2
      have g0 : w6.cell? ⟨gb, 0, none⟩ = some (.slice A T.length c) := HS6.out.g.cell 0
      have hz : ∀ b : World, b = b := fun _ => rfl
      go_upto_region 42 with (at_builtin; refine wpList_append_any _ rfl (.tmp 195) (.tmp 197) 90 rfl w.heap.size 109 i109 _ 3 32 Tryd.underlying90 fi109 H109.out.1 H109.out.2.1 H109.out.2.2 rfl (by omega) (.slice A T.length c) T.length (T.flatMap tokC) rfl (own_next HS6.out.own (below_new _ _)) (w6.heap.size + 1) (some ⟨w6.heap.size, 0, none⟩) 1 1 (tokC ⟨κ, σ, k⟩) rfl (reads_row3 (Blk.new w6 109 #[.int .i64 κ, .string σ, .int .i64 (k : Int)])) (tok_one [⟨κ, σ, k⟩]) (by unfold maxLen; have := HTL.out; omega) (by have := HTL.out; omega) (by rw [World.size_alloc]; have := HS6.out.low.size; omega) ?_; intro v1 w7 oA gA nA; obtain ⟨A1, c1, rfl, hS8, hG8⟩ := (HS6.out.next (below_new w6 (.cells #[.int .i64 κ, .string σ, .int .i64 (k : Int)] 109))).push ⟨κ, σ, k⟩ oA gA; have HS8 := Lib.hid hS8; have z0 : w7.cell? ⟨gb, 0, none⟩ = some (.slice A T.length c) := hG8.cell 0; have zf := hG8.frozen 0; clear oA gA nA hS8 hG8)
      clear z0 zf t0 t1 t2 g0
      have hl9 : (T ++ [(⟨κ, σ, k⟩ : Tok)]).length = T.length + 1 := by rw [List.length_append]; rfl
      rw [hl9] at HS8
      generalize w7.setCell ⟨gb, 0, none⟩ (.slice A1 (T.length + 1) c1) = w8 at HS8 ⊢
      have HL9 := Lib.hid hl9
      clear hl9
      go_wp2_with fail
      go_roundw
      case rel => exact ⟨j, _, A1, c1, by omega, by first | rfl | go_num, HS8.out, by have := HTL.out; have := HL9.out; omega⟩
      case measure => simp [intOf]; omega
    · intro j J w6 v6 v8 v9 v26 v27 v28 v29 v30 v31 v32 v33 v34 v35 v36 v37 v38 v39 v40 v41 v42 v43 v44 v45 v46 v47 v48 v49 v50 v51 v52 v53 v54 v55 v56 v57 v58 v59 v60 v61 v62 v63 v64 v65 v66 v67 v68 v69 v70 v71 v72 v73 v74 v75 v76 v77 v78 v79 v80 v81 v82 v83 v84 v85 v86 v87 v88 v89 v90 v91 v92 v93 v94 v95 v96 v97 v98 v99 v100 v101 v102 v103 v104 v105 v106 v107 v108 v109 v110 v111 v112 v113 v114 v115 v116 v117 v118 v119 v120 v121 v122 v123 v124 v125 v126 v127 v128 v129 v130 v131 v132 v133 v134 v135 v136 v137 v138 v139 v140 v141 v142 v143 v144 v145 v146 v147 v148 v149 v150 v151 v152 v153 v154 v155 v156 v157 v158 v159 v160 v161 v162 v163 v164 v165 v166 v167 v168 v169 v170 v171 v172 v173 v174 v175 v176 v177 v178 v179 v180 v181 v182 v183 v184 v185 v186 v187 v188 v189 v190 v191 v192 v193 hJ hj1 hj2 hS6
      subst hJ
      dsimp only [ptr]
      have HS6 := Lib.hid hS6
      clear hS6
      go_wp2_with fail
      go_roundw
      case rel => exact ⟨j, T, A, c, by omega, by first | rfl | go_num, HS6.out, by have := HTL.out; omega⟩
      case measure => simp [intOf]; omega
    · intro a X Y w6 hS6 hd h2
      exact bodyPost_ret (results_cell_row rfl _ _ _ 92 _ (0, 0) _ h2 (row3 hS6.r) Tryd.underlying92 rfl (by kernel_rfl)) hd (hS6.none_ X Y)
end Go.Proofs.YtphojigdapaaiaaDoor
