/- Pieces of stockpotref08.States' round: what comes next is laid into two rows. -/
import Derived.Test.YtiphicejaljhiaaDoorRNx
import Derived.Deep.CutRange
import Derived.Deep.CutBlock
import Derived.Deep.DeepCutAuto
import Derived.Deep.LoopGhost
namespace Go.Proofs.YtiphicejaljhiaaDoor
open Go.ChangeShapes Go.WideShapes Go.ChangeAt Go.RowKit
set_option linter.unusedSimpArgs false
set_option linter.unusedVariables false
theorem below_alloc_b {B : Nat} {w w' : World} (hb : B ≤ w.heap.size) (h : Below B w w') (o : Obj) : Below B w (w'.alloc o) := h.alloc (Nat.le_trans hb h.size) o
/-- A region of a function's text, by its number. -/
def regionOf (n : Nat) : Code → Option Code
  | .region m ops d => if m = n then some (.region m ops d) else none
  | .seq a b => match regionOf n a with
    | some c => some c
    | none => regionOf n b
  | .cond _ a b => match regionOf n a with
    | some c => some c
    | none => regionOf n b
  | .block _ c => regionOf n c
  | .loop c => regionOf n c
  | .scope c => regionOf n c
  | _ => none
noncomputable def code38 (n : Nat) : Code := ((Tryd.f38.body).bind (regionOf n)).getD .skip
set_option maxRecDepth 100000 in
set_option maxHeartbeats 4000000 in
theorem reg28 {u0 u1 u2 u3 u4 u5 u6 u7 u8 u9 u11 u12 u13 u14 u18 u19 u20 u21 u22 u23 u24 u25 u26 u27 u28 u29 u30 u31 u32 u33 u34 u35 u36 u37 u38 u39 u40 u41 u42 u43 u44 u45 u46 u47 u48 u49 u50 u51 u52 u53 u54 u55 u56 u57 u58 u59 u60 u61 u62 u63 u64 u65 u66 u67 u68 u69 u70 u71 u72 u73 u74 u75 u76 u77 u78 u79 u80 u81 u82 u83 u84 u85 u86 u87 u88 u89 u90 u91 u92 u93 u94 u95 u96 u97 u98 u99 u100 u101 u102 u103 u104 u105 u106 u107 u108 u109 u110 u111 u112 u113 u114 u115 u116 u117 u118 u119 u120 u121 u122 u123 u124 u125 u126 u127 u128 u129 u130 u131 u132 u133 u134 u135 u136 u137 u138 u139 u140 u141 u142 u143 u144 u145 u146 u147 u148 u149 u150 u151 u152 u153 u154 u155 u156 u157 u158 u159 u160 u161 u162 u163 u164 u165 u166 u167 u168 u169 u170 u171 u172 u173 u174 u175 u176 u177 u178 u179 u180 u181 u182 u183 u184 u185 u186 u187 u188 u189 u190 u191 u192 u193 u194 u195 u196 u197 u198 u199 u200 u201 u202 u203 u204 u205 u206 u207 u208 u209 u210 u211 u212 u213 u214 u215 u216 u217 u218 u219 u220 u221 u222 u223 u224 u225 u226 u227 u228 u229 u230 u231 u232 u233 u234 u235 u236 u237 u238 u239 u240 u241 u242 u243 u244 u245 u246 u247 u248 u249 u250 u251 u252 u253 u254 u255 u256 u257 : Value} {Q : Exit → Act → World → Prop} (b0 bn k : Nat) (hn tn : Int) (w : World) (hb0 : b0 ≤ w.heap.size) (hbn : bn < b0) (hk : k < 1000) (N0 : Blk w bn 79 #[.int .i64 hn, .int .i64 tn]) (hQ : ∀ c (a : Act) d v w', Q (.panic c) (a.put d v) w' → Q (.panic c) a w')
    (hend : ∀ v149 v150 v151 v152 v153 v154 v155 v156 v157 v16 v17 w', Below b0 w w' → NSt w' b0 v16 v17 [((k : Int) + 1, (hn, tn))] → Q .normal ⟨#[u0, u1, u2, u3, u4, u5, u6, u7, u8, u9, .int .i64 (k : Int), u11, u12, u13, u14, .pointer (some ⟨bn, 0, none⟩), v16, v17, u18, u19, u20, u21, u22, u23, u24, u25, u26, u27, u28, u29, u30, u31, u32, u33, u34, u35, u36, u37, u38, u39, u40, u41, u42, u43, u44, u45, u46, u47, u48, u49, u50, u51, u52, u53, u54, u55, u56, u57, u58, u59, u60, u61, u62, u63, u64, u65, u66, u67, u68, u69, u70, u71, u72, u73, u74, u75, u76, u77, u78, u79, u80, u81, u82, u83, u84, u85, u86, u87, u88, u89, u90, u91, u92, u93, u94, u95, u96, u97, u98, u99, u100, u101, u102, u103, u104, u105, u106, u107, u108, u109, u110, u111, u112, u113, u114, u115, u116, u117, u118, u119, u120, u121, u122, u123, u124, u125, u126, u127, u128, u129, u130, u131, u132, u133, u134, u135, u136, u137, u138, u139, u140, u141, u142, u143, u144, u145, u146, u147, u148, v149, v150, v151, v152, v153, v154, v155, v156, v157, u158, u159, u160, u161, u162, u163, u164, u165, u166, u167, u168, u169, u170, u171, u172, u173, u174, u175, u176, u177, u178, u179, u180, u181, u182, u183, u184, u185, u186, u187, u188, u189, u190, u191, u192, u193, u194, u195, u196, u197, u198, u199, u200, u201, u202, u203, u204, u205, u206, u207, u208, u209, u210, u211, u212, u213, u214, u215, u216, u217, u218, u219, u220, u221, u222, u223, u224, u225, u226, u227, u228, u229, u230, u231, u232, u233, u234, u235, u236, u237, u238, u239, u240, u241, u242, u243, u244, u245, u246, u247, u248, u249, u250, u251, u252, u253, u254, u255, u256, u257], []⟩ w') :
    Code.wp Tryd.prog (code38 28) Q ⟨#[u0, u1, u2, u3, u4, u5, u6, u7, u8, u9, .int .i64 (k : Int), u11, u12, u13, u14, .pointer (some ⟨bn, 0, none⟩), .slice none 0 0, .slice none 0 0, u18, u19, u20, u21, u22, u23, u24, u25, u26, u27, u28, u29, u30, u31, u32, u33, u34, u35, u36, u37, u38, u39, u40, u41, u42, u43, u44, u45, u46, u47, u48, u49, u50, u51, u52, u53, u54, u55, u56, u57, u58, u59, u60, u61, u62, u63, u64, u65, u66, u67, u68, u69, u70, u71, u72, u73, u74, u75, u76, u77, u78, u79, u80, u81, u82, u83, u84, u85, u86, u87, u88, u89, u90, u91, u92, u93, u94, u95, u96, u97, u98, u99, u100, u101, u102, u103, u104, u105, u106, u107, u108, u109, u110, u111, u112, u113, u114, u115, u116, u117, u118, u119, u120, u121, u122, u123, u124, u125, u126, u127, u128, u129, u130, u131, u132, u133, u134, u135, u136, u137, u138, u139, u140, u141, u142, u143, u144, u145, u146, u147, u148, u149, u150, u151, u152, u153, u154, u155, u156, u157, u158, u159, u160, u161, u162, u163, u164, u165, u166, u167, u168, u169, u170, u171, u172, u173, u174, u175, u176, u177, u178, u179, u180, u181, u182, u183, u184, u185, u186, u187, u188, u189, u190, u191, u192, u193, u194, u195, u196, u197, u198, u199, u200, u201, u202, u203, u204, u205, u206, u207, u208, u209, u210, u211, u212, u213, u214, u215, u216, u217, u218, u219, u220, u221, u222, u223, u224, u225, u226, u227, u228, u229, u230, u231, u232, u233, u234, u235, u236, u237, u238, u239, u240, u241, u242, u243, u244, u245, u246, u247, u248, u249, u250, u251, u252, u253, u254, u255, u256, u257], []⟩ w := by
  obtain ⟨ti, hi0, hz0, hz1, hz2⟩ := info_parts pair_info
  obtain ⟨i3, fi3, nz0, nz1, nz2⟩ := info_parts (show (Tryd.prog.info? 3).map (fun i => (i.zero, i.size, i.bytes)) = some (some (.int .i64 0), 1, 8) by kernel_rfl)
  have V6 : IntKind.i64.wrap ((k : Int) + 1) = (k : Int) + 1 := IntWalk.i64_in _ (by omega)
  have HA := World.ownsRow_nil w b0 3 1
  have HB := World.ownsRow_nil w b0 79 2
  have HEND := Lib.hid hend
  clear hend
  conv => arg 2; whnf
  refine wp_region_held_drew (S := fun V => V.cell? ⟨bn, 0, none⟩ = some (.int .i64 hn) ∧ V.cell? ⟨bn, 1, none⟩ = some (.int .i64 tn)) (by kernel_rfl) ⟨N0.cell 0, N0.cell 1⟩ (fun hHeld => ?_)
  have Ld := (Below.refl b0 w).drew
  have Aod := HA.drew
  have Bod := HB.drew
  have Nd := N0.drew
  generalize w.drew = d at Ld Aod Bod Nd hHeld ⊢
  refine wpAnyH_take (i := 0) (oi := ⟨some 149, _, _, _, _, _⟩) (v := ?_) rfl (by kernel_rfl) (by kernel_rfl) (by kernel_rfl) (fun _ _ _ h => hQ _ _ _ _ _ h) (Or.inl ⟨by kernel_rfl, ?_⟩) (by assumption) ?_
  rotate_left
  · intro w hSw
    go_simp
    try with_reducible rfl
  try simp only [Act.put, List.setIfInBounds_toArray, List.set_cons_zero, List.set_cons_succ]
  refine wpAnyH_take (i := 1) (oi := ⟨some 150, _, _, _, _, _⟩) (v := ?_) rfl (by kernel_rfl) (by kernel_rfl) (by kernel_rfl) (fun _ _ _ h => hQ _ _ _ _ _ h) (Or.inl ⟨by kernel_rfl, ?_⟩) (by assumption) ?_
  rotate_left
  · intro w hSw
    go_simp
    try with_reducible rfl
  try simp only [Act.put, List.setIfInBounds_toArray, List.set_cons_zero, List.set_cons_succ]
  refine wpAnyH_take (i := 2) (oi := ⟨some 151, _, _, _, _, _⟩) (v := ?_) rfl (by kernel_rfl) (by kernel_rfl) (by kernel_rfl) (fun _ _ _ h => hQ _ _ _ _ _ h) (Or.inl ⟨by kernel_rfl, ?_⟩) (by assumption) ?_
  rotate_left
  · intro w hSw
    go_simp
    try with_reducible rfl
  try simp only [Act.put, List.setIfInBounds_toArray, List.set_cons_zero, List.set_cons_succ]
  refine wpAnyH_take (i := 5) (oi := ⟨some 154, _, _, _, _, _⟩) (v := ?_) rfl (by kernel_rfl) (by kernel_rfl) (by kernel_rfl) (fun _ _ _ h => hQ _ _ _ _ _ h) (Or.inl ⟨by kernel_rfl, ?_⟩) (by assumption) ?_
  rotate_left
  · intro w hSw
    go_simp
    try with_reducible rfl
  try simp only [Act.put, List.setIfInBounds_toArray, List.set_cons_zero, List.set_cons_succ]
  refine wpAnyH_take (i := 6) (oi := ⟨some 155, _, _, _, _, _⟩) (v := ?_) rfl (by kernel_rfl) (by kernel_rfl) (by kernel_rfl) (fun _ _ _ h => hQ _ _ _ _ _ h) (Or.inl ⟨by kernel_rfl, ?_⟩) (by assumption) ?_
  rotate_left
  · intro w hSw
    go_simp
    try with_reducible rfl
  try simp only [Act.put, List.setIfInBounds_toArray, List.set_cons_zero, List.set_cons_succ]
  refine wpAnyH_ready (rs := [3, 7]) (by kernel_rfl) (by simp) ?_
  refine (AllReadyH.cons (o := ⟨some 152, _, _, _, _, _⟩) rfl (fun K hK => ?_) (AllReadyH.cons (o := ⟨some 156, _, _, _, _, _⟩) rfl (fun K hK => ?_) AllReadyH.nil))
  · go_simp
    refine hK.out _ _ ?_ (fun hHeld => ?_)
    · exact ⟨(Nd.alloc _).cell 0, (Nd.alloc _).cell 1⟩
    clear hK K
    try simp only [Act.put, List.setIfInBounds_toArray, List.set_cons_zero, List.set_cons_succ]
    have Ld3 := below_alloc_b hb0 Ld (.cells #[.int .i64 ((k : Int) + 1)] 3)
    have Amd3 := Blk.new d 3 #[.int .i64 ((k : Int) + 1)]
    have Aod3 := Aod.alloc (.cells #[.int .i64 ((k : Int) + 1)] 3)
    have Bod3 := Bod.alloc (.cells #[.int .i64 ((k : Int) + 1)] 3)
    generalize d.heap.size = b3 at Amd3 ⊢
    have Nd3 := Nd.alloc (.cells #[.int .i64 ((k : Int) + 1)] 3)
    generalize d.alloc (.cells #[.int .i64 ((k : Int) + 1)] 3) = d3 at Ld3 Aod3 Bod3 Nd3 Amd3 ⊢
    clear Ld Aod Bod Nd
    refine wpAnyH_ready (rs := [4, 7]) (by kernel_rfl) (by simp) ?_
    refine (AllReadyH.cons (o := ⟨some 153, _, _, _, _, _⟩) rfl (fun K hK => ?_) (AllReadyH.cons (o := ⟨some 156, _, _, _, _, _⟩) rfl (fun K hK => ?_) AllReadyH.nil))
    · refine step_append_any _ (by rfl) (.tmp 149) (.tmp 152) 61 (by rfl) b0 3 i3 _ 1 8 Tryd.underlying61 fi3 nz0 nz1 nz2 rfl (by omega) (.slice none 0 0) 0 [] (by rfl) Aod3 (b3 + 1) (some ⟨b3, 0, none⟩) 1 1 [.int .i64 ((k : Int) + 1)] (by rfl) (reads_blkN (vs := [.int .i64 ((k : Int) + 1)]) Amd3 rfl) (by simp [Value.oneCell']) (by unfold maxLen; omega) (by omega) (Nat.le_trans hb0 Ld3.size) ?_
      intro v4 d34 Aod34 hgd34 _
      have Nd34 := Nd3.grown hgd34 (fun e => absurd (Aod3.lt _ e.symm).1 (by omega))
      refine hK.out _ _ ?_ (fun hHeld => ?_)
      · exact ⟨Nd34.cell 0, Nd34.cell 1⟩
      clear hK K
      try simp only [Act.put, List.setIfInBounds_toArray, List.set_cons_zero, List.set_cons_succ]
      have Ld34 := Ld3.grown hgd34 (Nat.le_trans hb0 Ld3.size) (fun k hk => (Aod3.lt k hk).1)
      have Bod34 := own_row Bod3 Aod3 hgd34 (by decide)
      clear Ld3 Aod3 Bod3 hgd34 Nd3 Amd3
      refine wpAnyH_ready (rs := [7]) (by kernel_rfl) (by simp) ?_
      refine (AllReadyH.cons (o := ⟨some 156, _, _, _, _, _⟩) rfl (fun K hK => ?_) AllReadyH.nil)
      · go_simp
        refine hK.out _ _ ?_ (fun hHeld => ?_)
        · exact ⟨(Nd34.alloc _).cell 0, (Nd34.alloc _).cell 1⟩
        clear hK K
        try simp only [Act.put, List.setIfInBounds_toArray, List.set_cons_zero, List.set_cons_succ]
        have Ld347 := below_alloc_b hb0 Ld34 (.cells #[.int .i64 hn, .int .i64 tn] 79)
        have Bmd347 := Blk.new d34 79 #[.int .i64 hn, .int .i64 tn]
        have Aod347 := Aod34.alloc (.cells #[.int .i64 hn, .int .i64 tn] 79)
        have Bod347 := Bod34.alloc (.cells #[.int .i64 hn, .int .i64 tn] 79)
        generalize d34.heap.size = b7 at Bmd347 ⊢
        have Nd347 := Nd34.alloc (.cells #[.int .i64 hn, .int .i64 tn] 79)
        generalize d34.alloc (.cells #[.int .i64 hn, .int .i64 tn] 79) = d347 at Ld347 Aod347 Bod347 Nd347 Bmd347 ⊢
        clear Ld34 Aod34 Bod34 Nd34
        refine wpAnyH_ready (rs := [8]) (by kernel_rfl) (by simp) ?_
        refine (AllReadyH.cons (o := ⟨some 157, _, _, _, _, _⟩) rfl (fun K hK => ?_) AllReadyH.nil)
        · refine step_append_any _ (by rfl) (.tmp 154) (.tmp 156) 66 (by rfl) b0 79 ti _ 2 16 Tryd.underlying66 hi0 hz0 hz1 hz2 rfl (by omega) (.slice none 0 0) 0 [] (by rfl) Bod347 (b7 + 1) (some ⟨b7, 0, none⟩) 1 1 [.int .i64 hn, .int .i64 tn] (by rfl) (reads_blkN (vs := [.int .i64 hn, .int .i64 tn]) Bmd347 rfl) (by simp [Value.oneCell']) (by unfold maxLen; omega) (by omega) (Nat.le_trans hb0 Ld347.size) ?_
          intro v8 d3478 Bod3478 hgd3478 _
          have Nd3478 := Nd347.grown hgd3478 (fun e => absurd (Bod347.lt _ e.symm).1 (by omega))
          refine hK.out _ _ ?_ (fun hHeld => ?_)
          · exact ⟨Nd3478.cell 0, Nd3478.cell 1⟩
          clear hK K
          try simp only [Act.put, List.setIfInBounds_toArray, List.set_cons_zero, List.set_cons_succ]
          have Ld3478 := Ld347.grown hgd3478 (Nat.le_trans hb0 Ld347.size) (fun k hk => (Bod347.lt k hk).1)
          have Aod3478 := own_row Aod347 Bod347 hgd3478 (by decide)
          clear Ld347 Aod347 Bod347 hgd3478 Nd347 Bmd347
          refine wpAnyH_take (i := 9) (oi := ⟨some 16, _, _, _, _, _⟩) (v := ?_) rfl (by kernel_rfl) (by kernel_rfl) (by kernel_rfl) (fun _ _ _ h => hQ _ _ _ _ _ h) (Or.inl ⟨by kernel_rfl, ?_⟩) (by assumption) ?_
          rotate_left
          · intro w hSw
            go_simp
            try with_reducible rfl
          try simp only [Act.put, List.setIfInBounds_toArray, List.set_cons_zero, List.set_cons_succ]
          refine wpAnyH_take (i := 10) (oi := ⟨some 17, _, _, _, _, _⟩) (v := ?_) rfl (by kernel_rfl) (by kernel_rfl) (by kernel_rfl) (fun _ _ _ h => hQ _ _ _ _ _ h) (Or.inl ⟨by kernel_rfl, ?_⟩) (by assumption) ?_
          rotate_left
          · intro w hSw
            go_simp
            try with_reducible rfl
          try simp only [Act.put, List.setIfInBounds_toArray, List.set_cons_zero, List.set_cons_succ]
          refine wpAnyH_done (by kernel_rfl) ?_ _
          exact HEND.out _ _ _ _ _ _ _ _ _ _ _ _ Ld3478 (NSt.of_one Aod3478 Bod3478)



    · go_simp
      refine hK.out _ _ ?_ (fun hHeld => ?_)
      · exact ⟨(Nd3.alloc _).cell 0, (Nd3.alloc _).cell 1⟩
      clear hK K
      try simp only [Act.put, List.setIfInBounds_toArray, List.set_cons_zero, List.set_cons_succ]
      have Ld37 := below_alloc_b hb0 Ld3 (.cells #[.int .i64 hn, .int .i64 tn] 79)
      have Bmd37 := Blk.new d3 79 #[.int .i64 hn, .int .i64 tn]
      have Aod37 := Aod3.alloc (.cells #[.int .i64 hn, .int .i64 tn] 79)
      have Bod37 := Bod3.alloc (.cells #[.int .i64 hn, .int .i64 tn] 79)
      generalize d3.heap.size = b7 at Bmd37 ⊢
      have Nd37 := Nd3.alloc (.cells #[.int .i64 hn, .int .i64 tn] 79)
      have Amd37 := Amd3.alloc (.cells #[.int .i64 hn, .int .i64 tn] 79)
      generalize d3.alloc (.cells #[.int .i64 hn, .int .i64 tn] 79) = d37 at Ld37 Aod37 Bod37 Nd37 Amd37 Bmd37 ⊢
      clear Ld3 Aod3 Bod3 Nd3 Amd3
      refine wpAnyH_ready (rs := [4]) (by kernel_rfl) (by simp) ?_
      refine (AllReadyH.cons (o := ⟨some 153, _, _, _, _, _⟩) rfl (fun K hK => ?_) AllReadyH.nil)
      · refine step_append_any _ (by rfl) (.tmp 149) (.tmp 152) 61 (by rfl) b0 3 i3 _ 1 8 Tryd.underlying61 fi3 nz0 nz1 nz2 rfl (by omega) (.slice none 0 0) 0 [] (by rfl) Aod37 (b3 + 1) (some ⟨b3, 0, none⟩) 1 1 [.int .i64 ((k : Int) + 1)] (by rfl) (reads_blkN (vs := [.int .i64 ((k : Int) + 1)]) Amd37 rfl) (by simp [Value.oneCell']) (by unfold maxLen; omega) (by omega) (Nat.le_trans hb0 Ld37.size) ?_
        intro v4 d374 Aod374 hgd374 _
        have Nd374 := Nd37.grown hgd374 (fun e => absurd (Aod37.lt _ e.symm).1 (by omega))
        refine hK.out _ _ ?_ (fun hHeld => ?_)
        · exact ⟨Nd374.cell 0, Nd374.cell 1⟩
        clear hK K
        try simp only [Act.put, List.setIfInBounds_toArray, List.set_cons_zero, List.set_cons_succ]
        have Ld374 := Ld37.grown hgd374 (Nat.le_trans hb0 Ld37.size) (fun k hk => (Aod37.lt k hk).1)
        have Bod374 := own_row Bod37 Aod37 hgd374 (by decide)
        have Bmd374 := blk_row Bmd37 Aod37 hgd374 (by decide)
        clear Ld37 Aod37 Bod37 hgd374 Nd37 Amd37 Bmd37
        refine wpAnyH_ready (rs := [8]) (by kernel_rfl) (by simp) ?_
        refine (AllReadyH.cons (o := ⟨some 157, _, _, _, _, _⟩) rfl (fun K hK => ?_) AllReadyH.nil)
        · refine step_append_any _ (by rfl) (.tmp 154) (.tmp 156) 66 (by rfl) b0 79 ti _ 2 16 Tryd.underlying66 hi0 hz0 hz1 hz2 rfl (by omega) (.slice none 0 0) 0 [] (by rfl) Bod374 (b7 + 1) (some ⟨b7, 0, none⟩) 1 1 [.int .i64 hn, .int .i64 tn] (by rfl) (reads_blkN (vs := [.int .i64 hn, .int .i64 tn]) Bmd374 rfl) (by simp [Value.oneCell']) (by unfold maxLen; omega) (by omega) (Nat.le_trans hb0 Ld374.size) ?_
          intro v8 d3748 Bod3748 hgd3748 _
          have Nd3748 := Nd374.grown hgd3748 (fun e => absurd (Bod374.lt _ e.symm).1 (by omega))
          refine hK.out _ _ ?_ (fun hHeld => ?_)
          · exact ⟨Nd3748.cell 0, Nd3748.cell 1⟩
          clear hK K
          try simp only [Act.put, List.setIfInBounds_toArray, List.set_cons_zero, List.set_cons_succ]
          have Ld3748 := Ld374.grown hgd3748 (Nat.le_trans hb0 Ld374.size) (fun k hk => (Bod374.lt k hk).1)
          have Aod3748 := own_row Aod374 Bod374 hgd3748 (by decide)
          clear Ld374 Aod374 Bod374 hgd3748 Nd374 Bmd374
          refine wpAnyH_take (i := 9) (oi := ⟨some 16, _, _, _, _, _⟩) (v := ?_) rfl (by kernel_rfl) (by kernel_rfl) (by kernel_rfl) (fun _ _ _ h => hQ _ _ _ _ _ h) (Or.inl ⟨by kernel_rfl, ?_⟩) (by assumption) ?_
          rotate_left
          · intro w hSw
            go_simp
            try with_reducible rfl
          try simp only [Act.put, List.setIfInBounds_toArray, List.set_cons_zero, List.set_cons_succ]
          refine wpAnyH_take (i := 10) (oi := ⟨some 17, _, _, _, _, _⟩) (v := ?_) rfl (by kernel_rfl) (by kernel_rfl) (by kernel_rfl) (fun _ _ _ h => hQ _ _ _ _ _ h) (Or.inl ⟨by kernel_rfl, ?_⟩) (by assumption) ?_
          rotate_left
          · intro w hSw
            go_simp
            try with_reducible rfl
          try simp only [Act.put, List.setIfInBounds_toArray, List.set_cons_zero, List.set_cons_succ]
          refine wpAnyH_done (by kernel_rfl) ?_ _
          exact HEND.out _ _ _ _ _ _ _ _ _ _ _ _ Ld3748 (NSt.of_one Aod3748 Bod3748)




  · go_simp
    refine hK.out _ _ ?_ (fun hHeld => ?_)
    · exact ⟨(Nd.alloc _).cell 0, (Nd.alloc _).cell 1⟩
    clear hK K
    try simp only [Act.put, List.setIfInBounds_toArray, List.set_cons_zero, List.set_cons_succ]
    have Ld7 := below_alloc_b hb0 Ld (.cells #[.int .i64 hn, .int .i64 tn] 79)
    have Bmd7 := Blk.new d 79 #[.int .i64 hn, .int .i64 tn]
    have Aod7 := Aod.alloc (.cells #[.int .i64 hn, .int .i64 tn] 79)
    have Bod7 := Bod.alloc (.cells #[.int .i64 hn, .int .i64 tn] 79)
    generalize d.heap.size = b7 at Bmd7 ⊢
    have Nd7 := Nd.alloc (.cells #[.int .i64 hn, .int .i64 tn] 79)
    generalize d.alloc (.cells #[.int .i64 hn, .int .i64 tn] 79) = d7 at Ld7 Aod7 Bod7 Nd7 Bmd7 ⊢
    clear Ld Aod Bod Nd
    refine wpAnyH_ready (rs := [3]) (by kernel_rfl) (by simp) ?_
    refine (AllReadyH.cons (o := ⟨some 152, _, _, _, _, _⟩) rfl (fun K hK => ?_) AllReadyH.nil)
    · go_simp
      refine hK.out _ _ ?_ (fun hHeld => ?_)
      · exact ⟨(Nd7.alloc _).cell 0, (Nd7.alloc _).cell 1⟩
      clear hK K
      try simp only [Act.put, List.setIfInBounds_toArray, List.set_cons_zero, List.set_cons_succ]
      have Ld73 := below_alloc_b hb0 Ld7 (.cells #[.int .i64 ((k : Int) + 1)] 3)
      have Amd73 := Blk.new d7 3 #[.int .i64 ((k : Int) + 1)]
      have Aod73 := Aod7.alloc (.cells #[.int .i64 ((k : Int) + 1)] 3)
      have Bod73 := Bod7.alloc (.cells #[.int .i64 ((k : Int) + 1)] 3)
      generalize d7.heap.size = b3 at Amd73 ⊢
      have Nd73 := Nd7.alloc (.cells #[.int .i64 ((k : Int) + 1)] 3)
      have Bmd73 := Bmd7.alloc (.cells #[.int .i64 ((k : Int) + 1)] 3)
      generalize d7.alloc (.cells #[.int .i64 ((k : Int) + 1)] 3) = d73 at Ld73 Aod73 Bod73 Nd73 Amd73 Bmd73 ⊢
      clear Ld7 Aod7 Bod7 Nd7 Bmd7
      refine wpAnyH_ready (rs := [4]) (by kernel_rfl) (by simp) ?_
      refine (AllReadyH.cons (o := ⟨some 153, _, _, _, _, _⟩) rfl (fun K hK => ?_) AllReadyH.nil)
      · refine step_append_any _ (by rfl) (.tmp 149) (.tmp 152) 61 (by rfl) b0 3 i3 _ 1 8 Tryd.underlying61 fi3 nz0 nz1 nz2 rfl (by omega) (.slice none 0 0) 0 [] (by rfl) Aod73 (b3 + 1) (some ⟨b3, 0, none⟩) 1 1 [.int .i64 ((k : Int) + 1)] (by rfl) (reads_blkN (vs := [.int .i64 ((k : Int) + 1)]) Amd73 rfl) (by simp [Value.oneCell']) (by unfold maxLen; omega) (by omega) (Nat.le_trans hb0 Ld73.size) ?_
        intro v4 d734 Aod734 hgd734 _
        have Nd734 := Nd73.grown hgd734 (fun e => absurd (Aod73.lt _ e.symm).1 (by omega))
        refine hK.out _ _ ?_ (fun hHeld => ?_)
        · exact ⟨Nd734.cell 0, Nd734.cell 1⟩
        clear hK K
        try simp only [Act.put, List.setIfInBounds_toArray, List.set_cons_zero, List.set_cons_succ]
        have Ld734 := Ld73.grown hgd734 (Nat.le_trans hb0 Ld73.size) (fun k hk => (Aod73.lt k hk).1)
        have Bod734 := own_row Bod73 Aod73 hgd734 (by decide)
        have Bmd734 := blk_row Bmd73 Aod73 hgd734 (by decide)
        clear Ld73 Aod73 Bod73 hgd734 Nd73 Amd73 Bmd73
        refine wpAnyH_ready (rs := [8]) (by kernel_rfl) (by simp) ?_
        refine (AllReadyH.cons (o := ⟨some 157, _, _, _, _, _⟩) rfl (fun K hK => ?_) AllReadyH.nil)
        · refine step_append_any _ (by rfl) (.tmp 154) (.tmp 156) 66 (by rfl) b0 79 ti _ 2 16 Tryd.underlying66 hi0 hz0 hz1 hz2 rfl (by omega) (.slice none 0 0) 0 [] (by rfl) Bod734 (b7 + 1) (some ⟨b7, 0, none⟩) 1 1 [.int .i64 hn, .int .i64 tn] (by rfl) (reads_blkN (vs := [.int .i64 hn, .int .i64 tn]) Bmd734 rfl) (by simp [Value.oneCell']) (by unfold maxLen; omega) (by omega) (Nat.le_trans hb0 Ld734.size) ?_
          intro v8 d7348 Bod7348 hgd7348 _
          have Nd7348 := Nd734.grown hgd7348 (fun e => absurd (Bod734.lt _ e.symm).1 (by omega))
          refine hK.out _ _ ?_ (fun hHeld => ?_)
          · exact ⟨Nd7348.cell 0, Nd7348.cell 1⟩
          clear hK K
          try simp only [Act.put, List.setIfInBounds_toArray, List.set_cons_zero, List.set_cons_succ]
          have Ld7348 := Ld734.grown hgd7348 (Nat.le_trans hb0 Ld734.size) (fun k hk => (Bod734.lt k hk).1)
          have Aod7348 := own_row Aod734 Bod734 hgd7348 (by decide)
          clear Ld734 Aod734 Bod734 hgd7348 Nd734 Bmd734
          refine wpAnyH_take (i := 9) (oi := ⟨some 16, _, _, _, _, _⟩) (v := ?_) rfl (by kernel_rfl) (by kernel_rfl) (by kernel_rfl) (fun _ _ _ h => hQ _ _ _ _ _ h) (Or.inl ⟨by kernel_rfl, ?_⟩) (by assumption) ?_
          rotate_left
          · intro w hSw
            go_simp
            try with_reducible rfl
          try simp only [Act.put, List.setIfInBounds_toArray, List.set_cons_zero, List.set_cons_succ]
          refine wpAnyH_take (i := 10) (oi := ⟨some 17, _, _, _, _, _⟩) (v := ?_) rfl (by kernel_rfl) (by kernel_rfl) (by kernel_rfl) (fun _ _ _ h => hQ _ _ _ _ _ h) (Or.inl ⟨by kernel_rfl, ?_⟩) (by assumption) ?_
          rotate_left
          · intro w hSw
            go_simp
            try with_reducible rfl
          try simp only [Act.put, List.setIfInBounds_toArray, List.set_cons_zero, List.set_cons_succ]
          refine wpAnyH_done (by kernel_rfl) ?_ _
          exact HEND.out _ _ _ _ _ _ _ _ _ _ _ _ Ld7348 (NSt.of_one Aod7348 Bod7348)





set_option maxRecDepth 100000 in
set_option maxHeartbeats 4000000 in
theorem reg32 {u0 u1 u2 u3 u4 u5 u6 u7 u8 u9 u10 u12 u13 u14 u18 u19 u20 u21 u22 u23 u24 u25 u26 u27 u28 u29 u30 u31 u32 u33 u34 u35 u36 u37 u38 u39 u40 u41 u42 u43 u44 u45 u46 u47 u48 u49 u50 u51 u52 u53 u54 u55 u56 u57 u58 u59 u60 u61 u62 u63 u64 u65 u66 u67 u68 u69 u70 u71 u72 u73 u74 u75 u76 u77 u78 u79 u80 u81 u82 u83 u84 u85 u86 u87 u88 u89 u90 u91 u92 u93 u94 u95 u96 u97 u98 u99 u100 u101 u102 u103 u104 u105 u106 u107 u108 u109 u110 u111 u112 u113 u114 u115 u116 u117 u118 u119 u120 u121 u122 u123 u124 u125 u126 u127 u128 u129 u130 u131 u132 u133 u134 u135 u136 u137 u138 u139 u140 u141 u142 u143 u144 u145 u146 u147 u148 u149 u150 u151 u152 u153 u154 u155 u156 u157 u158 u159 u160 u161 u162 u163 u164 u165 u166 u167 u168 u169 u170 u171 u172 u173 u174 u175 u176 u177 u178 u179 u180 u181 u182 u183 u184 u185 u186 u187 u188 u189 u190 u191 u192 u193 u194 u195 u196 u197 u198 u199 u200 u201 u202 u203 u204 u205 u206 u207 u208 u209 u210 u211 u212 u213 u214 u215 u216 u217 u218 u219 u220 u221 u222 u223 u224 u225 u226 u227 u228 u229 u230 u231 u232 u233 u234 u235 u236 u237 u238 u239 u240 u241 u242 u243 u244 u245 u246 u247 u248 u249 u250 u251 u252 u253 u254 u255 u256 u257 : Value} {Q : Exit → Act → World → Prop} (b0 bn bx : Nat) (o a b hn tn : Int) (A1 A2 : Option Addr) (c1 c2 : Nat) (xs1 : List Nxt) (w : World) (hb0 : b0 ≤ w.heap.size) (hbn : bn < b0) (hbx : bx < b0) (hxs : xs1.length ≤ 1) (N0 : Blk w bn 79 #[.int .i64 hn, .int .i64 tn]) (X0 : Blk w bx 23 #[.int .i64 o, .int .i64 a, .int .i64 b]) (H0 : NSt w b0 (.slice A1 xs1.length c1) (.slice A2 xs1.length c2) xs1) (hQ : ∀ c (a : Act) d v w', Q (.panic c) (a.put d v) w' → Q (.panic c) a w')
    (hend : ∀ v163 v164 v165 v166 v167 v168 v169 v170 v171 v16 v17 w', Below b0 w w' → NSt w' b0 v16 v17 (xs1 ++ [(a, (hn, tn))]) → Q .normal ⟨#[u0, u1, u2, u3, u4, u5, u6, u7, u8, u9, u10, .pointer (some ⟨bx, 0, none⟩), u12, u13, u14, .pointer (some ⟨bn, 0, none⟩), v16, v17, u18, u19, u20, u21, u22, u23, u24, u25, u26, u27, u28, u29, u30, u31, u32, u33, u34, u35, u36, u37, u38, u39, u40, u41, u42, u43, u44, u45, u46, u47, u48, u49, u50, u51, u52, u53, u54, u55, u56, u57, u58, u59, u60, u61, u62, u63, u64, u65, u66, u67, u68, u69, u70, u71, u72, u73, u74, u75, u76, u77, u78, u79, u80, u81, u82, u83, u84, u85, u86, u87, u88, u89, u90, u91, u92, u93, u94, u95, u96, u97, u98, u99, u100, u101, u102, u103, u104, u105, u106, u107, u108, u109, u110, u111, u112, u113, u114, u115, u116, u117, u118, u119, u120, u121, u122, u123, u124, u125, u126, u127, u128, u129, u130, u131, u132, u133, u134, u135, u136, u137, u138, u139, u140, u141, u142, u143, u144, u145, u146, u147, u148, u149, u150, u151, u152, u153, u154, u155, u156, u157, u158, u159, u160, u161, u162, v163, v164, v165, v166, v167, v168, v169, v170, v171, u172, u173, u174, u175, u176, u177, u178, u179, u180, u181, u182, u183, u184, u185, u186, u187, u188, u189, u190, u191, u192, u193, u194, u195, u196, u197, u198, u199, u200, u201, u202, u203, u204, u205, u206, u207, u208, u209, u210, u211, u212, u213, u214, u215, u216, u217, u218, u219, u220, u221, u222, u223, u224, u225, u226, u227, u228, u229, u230, u231, u232, u233, u234, u235, u236, u237, u238, u239, u240, u241, u242, u243, u244, u245, u246, u247, u248, u249, u250, u251, u252, u253, u254, u255, u256, u257], []⟩ w') :
    Code.wp Tryd.prog (code38 32) Q ⟨#[u0, u1, u2, u3, u4, u5, u6, u7, u8, u9, u10, .pointer (some ⟨bx, 0, none⟩), u12, u13, u14, .pointer (some ⟨bn, 0, none⟩), .slice A1 xs1.length c1, .slice A2 xs1.length c2, u18, u19, u20, u21, u22, u23, u24, u25, u26, u27, u28, u29, u30, u31, u32, u33, u34, u35, u36, u37, u38, u39, u40, u41, u42, u43, u44, u45, u46, u47, u48, u49, u50, u51, u52, u53, u54, u55, u56, u57, u58, u59, u60, u61, u62, u63, u64, u65, u66, u67, u68, u69, u70, u71, u72, u73, u74, u75, u76, u77, u78, u79, u80, u81, u82, u83, u84, u85, u86, u87, u88, u89, u90, u91, u92, u93, u94, u95, u96, u97, u98, u99, u100, u101, u102, u103, u104, u105, u106, u107, u108, u109, u110, u111, u112, u113, u114, u115, u116, u117, u118, u119, u120, u121, u122, u123, u124, u125, u126, u127, u128, u129, u130, u131, u132, u133, u134, u135, u136, u137, u138, u139, u140, u141, u142, u143, u144, u145, u146, u147, u148, u149, u150, u151, u152, u153, u154, u155, u156, u157, u158, u159, u160, u161, u162, u163, u164, u165, u166, u167, u168, u169, u170, u171, u172, u173, u174, u175, u176, u177, u178, u179, u180, u181, u182, u183, u184, u185, u186, u187, u188, u189, u190, u191, u192, u193, u194, u195, u196, u197, u198, u199, u200, u201, u202, u203, u204, u205, u206, u207, u208, u209, u210, u211, u212, u213, u214, u215, u216, u217, u218, u219, u220, u221, u222, u223, u224, u225, u226, u227, u228, u229, u230, u231, u232, u233, u234, u235, u236, u237, u238, u239, u240, u241, u242, u243, u244, u245, u246, u247, u248, u249, u250, u251, u252, u253, u254, u255, u256, u257], []⟩ w := by
  obtain ⟨ti, hi0, hz0, hz1, hz2⟩ := info_parts pair_info
  obtain ⟨i3, fi3, nz0, nz1, nz2⟩ := info_parts (show (Tryd.prog.info? 3).map (fun i => (i.zero, i.size, i.bytes)) = some (some (.int .i64 0), 1, 8) by kernel_rfl)
  have HA := H0.rt
  have HB := H0.rw
  clear H0
  have HEND := Lib.hid hend
  clear hend
  conv => arg 2; whnf
  refine wp_region_held_drew (S := fun V => V.cell? ⟨bn, 0, none⟩ = some (.int .i64 hn) ∧ V.cell? ⟨bn, 1, none⟩ = some (.int .i64 tn) ∧ V.cell? ⟨bx, 1, none⟩ = some (.int .i64 a)) (by kernel_rfl) ⟨N0.cell 0, N0.cell 1, X0.cell 1⟩ (fun hHeld => ?_)
  have Ld := (Below.refl b0 w).drew
  have Aod := HA.drew
  have Bod := HB.drew
  have Nd := N0.drew
  have Xd := X0.drew
  generalize w.drew = d at Ld Aod Bod Nd Xd hHeld ⊢
  refine wpAnyH_take (i := 0) (oi := ⟨some 163, _, _, _, _, _⟩) (v := ?_) rfl (by kernel_rfl) (by kernel_rfl) (by kernel_rfl) (fun _ _ _ h => hQ _ _ _ _ _ h) (Or.inl ⟨by kernel_rfl, ?_⟩) (by assumption) ?_
  rotate_left
  · intro w hSw
    go_simp
    try with_reducible rfl
  try simp only [Act.put, List.setIfInBounds_toArray, List.set_cons_zero, List.set_cons_succ]
  refine wpAnyH_take (i := 1) (oi := ⟨some 164, _, _, _, _, _⟩) (v := ?_) rfl (by kernel_rfl) (by kernel_rfl) (by kernel_rfl) (fun _ _ _ h => hQ _ _ _ _ _ h) (Or.inl ⟨by kernel_rfl, ?_⟩) (by assumption) ?_
  rotate_left
  · intro w hSw
    go_simp
    try with_reducible rfl
  try simp only [Act.put, List.setIfInBounds_toArray, List.set_cons_zero, List.set_cons_succ]
  refine wpAnyH_take (i := 2) (oi := ⟨some 165, _, _, _, _, _⟩) (v := ?_) rfl (by kernel_rfl) (by kernel_rfl) (by kernel_rfl) (fun _ _ _ h => hQ _ _ _ _ _ h) (Or.inl ⟨by kernel_rfl, ?_⟩) (by assumption) ?_
  rotate_left
  · intro w hSw
    go_simp
    try with_reducible rfl
  try simp only [Act.put, List.setIfInBounds_toArray, List.set_cons_zero, List.set_cons_succ]
  refine wpAnyH_take (i := 5) (oi := ⟨some 168, _, _, _, _, _⟩) (v := ?_) rfl (by kernel_rfl) (by kernel_rfl) (by kernel_rfl) (fun _ _ _ h => hQ _ _ _ _ _ h) (Or.inl ⟨by kernel_rfl, ?_⟩) (by assumption) ?_
  rotate_left
  · intro w hSw
    go_simp
    try with_reducible rfl
  try simp only [Act.put, List.setIfInBounds_toArray, List.set_cons_zero, List.set_cons_succ]
  refine wpAnyH_take (i := 6) (oi := ⟨some 169, _, _, _, _, _⟩) (v := ?_) rfl (by kernel_rfl) (by kernel_rfl) (by kernel_rfl) (fun _ _ _ h => hQ _ _ _ _ _ h) (Or.inl ⟨by kernel_rfl, ?_⟩) (by assumption) ?_
  rotate_left
  · intro w hSw
    go_simp
    try with_reducible rfl
  try simp only [Act.put, List.setIfInBounds_toArray, List.set_cons_zero, List.set_cons_succ]
  refine wpAnyH_ready (rs := [3, 7]) (by kernel_rfl) (by simp) ?_
  refine (AllReadyH.cons (o := ⟨some 166, _, _, _, _, _⟩) rfl (fun K hK => ?_) (AllReadyH.cons (o := ⟨some 170, _, _, _, _, _⟩) rfl (fun K hK => ?_) AllReadyH.nil))
  · go_simp
    refine hK.out _ _ ?_ (fun hHeld => ?_)
    · exact ⟨(Nd.alloc _).cell 0, (Nd.alloc _).cell 1, (Xd.alloc _).cell 1⟩
    clear hK K
    try simp only [Act.put, List.setIfInBounds_toArray, List.set_cons_zero, List.set_cons_succ]
    have Ld3 := below_alloc_b hb0 Ld (.cells #[.int .i64 a] 3)
    have Amd3 := Blk.new d 3 #[.int .i64 a]
    have Aod3 := Aod.alloc (.cells #[.int .i64 a] 3)
    have Bod3 := Bod.alloc (.cells #[.int .i64 a] 3)
    generalize d.heap.size = b3 at Amd3 ⊢
    have Nd3 := Nd.alloc (.cells #[.int .i64 a] 3)
    have Xd3 := Xd.alloc (.cells #[.int .i64 a] 3)
    generalize d.alloc (.cells #[.int .i64 a] 3) = d3 at Ld3 Aod3 Bod3 Nd3 Xd3 Amd3 ⊢
    clear Ld Aod Bod Nd Xd
    refine wpAnyH_ready (rs := [4, 7]) (by kernel_rfl) (by simp) ?_
    refine (AllReadyH.cons (o := ⟨some 167, _, _, _, _, _⟩) rfl (fun K hK => ?_) (AllReadyH.cons (o := ⟨some 170, _, _, _, _, _⟩) rfl (fun K hK => ?_) AllReadyH.nil))
    · refine step_append_any _ (by rfl) (.tmp 163) (.tmp 166) 61 (by rfl) b0 3 i3 _ 1 8 Tryd.underlying61 fi3 nz0 nz1 nz2 rfl (by omega) (.slice A1 xs1.length c1) xs1.length (xs1.map fun x => Value.int .i64 x.1) (by rfl) Aod3 (b3 + 1) (some ⟨b3, 0, none⟩) 1 1 [.int .i64 a] (by rfl) (reads_blkN (vs := [.int .i64 a]) Amd3 rfl) (by simp [Value.oneCell']) (by unfold maxLen; omega) (by omega) (Nat.le_trans hb0 Ld3.size) ?_
      intro v4 d34 Aod34 hgd34 _
      have Nd34 := Nd3.grown hgd34 (fun e => absurd (Aod3.lt _ e.symm).1 (by omega))
      have Xd34 := Xd3.grown hgd34 (fun e => absurd (Aod3.lt _ e.symm).1 (by omega))
      refine hK.out _ _ ?_ (fun hHeld => ?_)
      · exact ⟨Nd34.cell 0, Nd34.cell 1, Xd34.cell 1⟩
      clear hK K
      try simp only [Act.put, List.setIfInBounds_toArray, List.set_cons_zero, List.set_cons_succ]
      have Ld34 := Ld3.grown hgd34 (Nat.le_trans hb0 Ld3.size) (fun k hk => (Aod3.lt k hk).1)
      have Bod34 := own_row Bod3 Aod3 hgd34 (by decide)
      clear Ld3 Aod3 Bod3 hgd34 Nd3 Xd3 Amd3
      refine wpAnyH_ready (rs := [7]) (by kernel_rfl) (by simp) ?_
      refine (AllReadyH.cons (o := ⟨some 170, _, _, _, _, _⟩) rfl (fun K hK => ?_) AllReadyH.nil)
      · go_simp
        refine hK.out _ _ ?_ (fun hHeld => ?_)
        · exact ⟨(Nd34.alloc _).cell 0, (Nd34.alloc _).cell 1, (Xd34.alloc _).cell 1⟩
        clear hK K
        try simp only [Act.put, List.setIfInBounds_toArray, List.set_cons_zero, List.set_cons_succ]
        have Ld347 := below_alloc_b hb0 Ld34 (.cells #[.int .i64 hn, .int .i64 tn] 79)
        have Bmd347 := Blk.new d34 79 #[.int .i64 hn, .int .i64 tn]
        have Aod347 := Aod34.alloc (.cells #[.int .i64 hn, .int .i64 tn] 79)
        have Bod347 := Bod34.alloc (.cells #[.int .i64 hn, .int .i64 tn] 79)
        generalize d34.heap.size = b7 at Bmd347 ⊢
        have Nd347 := Nd34.alloc (.cells #[.int .i64 hn, .int .i64 tn] 79)
        have Xd347 := Xd34.alloc (.cells #[.int .i64 hn, .int .i64 tn] 79)
        generalize d34.alloc (.cells #[.int .i64 hn, .int .i64 tn] 79) = d347 at Ld347 Aod347 Bod347 Nd347 Xd347 Bmd347 ⊢
        clear Ld34 Aod34 Bod34 Nd34 Xd34
        refine wpAnyH_ready (rs := [8]) (by kernel_rfl) (by simp) ?_
        refine (AllReadyH.cons (o := ⟨some 171, _, _, _, _, _⟩) rfl (fun K hK => ?_) AllReadyH.nil)
        · refine step_append_any _ (by rfl) (.tmp 168) (.tmp 170) 66 (by rfl) b0 79 ti _ 2 16 Tryd.underlying66 hi0 hz0 hz1 hz2 rfl (by omega) (.slice A2 xs1.length c2) xs1.length (xs1.flatMap fun x => stCells x.2) (by rfl) Bod347 (b7 + 1) (some ⟨b7, 0, none⟩) 1 1 [.int .i64 hn, .int .i64 tn] (by rfl) (reads_blkN (vs := [.int .i64 hn, .int .i64 tn]) Bmd347 rfl) (by simp [Value.oneCell']) (by unfold maxLen; omega) (by omega) (Nat.le_trans hb0 Ld347.size) ?_
          intro v8 d3478 Bod3478 hgd3478 _
          have Nd3478 := Nd347.grown hgd3478 (fun e => absurd (Bod347.lt _ e.symm).1 (by omega))
          have Xd3478 := Xd347.grown hgd3478 (fun e => absurd (Bod347.lt _ e.symm).1 (by omega))
          refine hK.out _ _ ?_ (fun hHeld => ?_)
          · exact ⟨Nd3478.cell 0, Nd3478.cell 1, Xd3478.cell 1⟩
          clear hK K
          try simp only [Act.put, List.setIfInBounds_toArray, List.set_cons_zero, List.set_cons_succ]
          have Ld3478 := Ld347.grown hgd3478 (Nat.le_trans hb0 Ld347.size) (fun k hk => (Bod347.lt k hk).1)
          have Aod3478 := own_row Aod347 Bod347 hgd3478 (by decide)
          clear Ld347 Aod347 Bod347 hgd3478 Nd347 Xd347 Bmd347
          refine wpAnyH_take (i := 9) (oi := ⟨some 16, _, _, _, _, _⟩) (v := ?_) rfl (by kernel_rfl) (by kernel_rfl) (by kernel_rfl) (fun _ _ _ h => hQ _ _ _ _ _ h) (Or.inl ⟨by kernel_rfl, ?_⟩) (by assumption) ?_
          rotate_left
          · intro w hSw
            go_simp
            try with_reducible rfl
          try simp only [Act.put, List.setIfInBounds_toArray, List.set_cons_zero, List.set_cons_succ]
          refine wpAnyH_take (i := 10) (oi := ⟨some 17, _, _, _, _, _⟩) (v := ?_) rfl (by kernel_rfl) (by kernel_rfl) (by kernel_rfl) (fun _ _ _ h => hQ _ _ _ _ _ h) (Or.inl ⟨by kernel_rfl, ?_⟩) (by assumption) ?_
          rotate_left
          · intro w hSw
            go_simp
            try with_reducible rfl
          try simp only [Act.put, List.setIfInBounds_toArray, List.set_cons_zero, List.set_cons_succ]
          refine wpAnyH_done (by kernel_rfl) ?_ _
          exact HEND.out _ _ _ _ _ _ _ _ _ _ _ _ Ld3478 (NSt.of_snoc Aod3478 Bod3478)



    · go_simp
      refine hK.out _ _ ?_ (fun hHeld => ?_)
      · exact ⟨(Nd3.alloc _).cell 0, (Nd3.alloc _).cell 1, (Xd3.alloc _).cell 1⟩
      clear hK K
      try simp only [Act.put, List.setIfInBounds_toArray, List.set_cons_zero, List.set_cons_succ]
      have Ld37 := below_alloc_b hb0 Ld3 (.cells #[.int .i64 hn, .int .i64 tn] 79)
      have Bmd37 := Blk.new d3 79 #[.int .i64 hn, .int .i64 tn]
      have Aod37 := Aod3.alloc (.cells #[.int .i64 hn, .int .i64 tn] 79)
      have Bod37 := Bod3.alloc (.cells #[.int .i64 hn, .int .i64 tn] 79)
      generalize d3.heap.size = b7 at Bmd37 ⊢
      have Nd37 := Nd3.alloc (.cells #[.int .i64 hn, .int .i64 tn] 79)
      have Xd37 := Xd3.alloc (.cells #[.int .i64 hn, .int .i64 tn] 79)
      have Amd37 := Amd3.alloc (.cells #[.int .i64 hn, .int .i64 tn] 79)
      generalize d3.alloc (.cells #[.int .i64 hn, .int .i64 tn] 79) = d37 at Ld37 Aod37 Bod37 Nd37 Xd37 Amd37 Bmd37 ⊢
      clear Ld3 Aod3 Bod3 Nd3 Xd3 Amd3
      refine wpAnyH_ready (rs := [4]) (by kernel_rfl) (by simp) ?_
      refine (AllReadyH.cons (o := ⟨some 167, _, _, _, _, _⟩) rfl (fun K hK => ?_) AllReadyH.nil)
      · refine step_append_any _ (by rfl) (.tmp 163) (.tmp 166) 61 (by rfl) b0 3 i3 _ 1 8 Tryd.underlying61 fi3 nz0 nz1 nz2 rfl (by omega) (.slice A1 xs1.length c1) xs1.length (xs1.map fun x => Value.int .i64 x.1) (by rfl) Aod37 (b3 + 1) (some ⟨b3, 0, none⟩) 1 1 [.int .i64 a] (by rfl) (reads_blkN (vs := [.int .i64 a]) Amd37 rfl) (by simp [Value.oneCell']) (by unfold maxLen; omega) (by omega) (Nat.le_trans hb0 Ld37.size) ?_
        intro v4 d374 Aod374 hgd374 _
        have Nd374 := Nd37.grown hgd374 (fun e => absurd (Aod37.lt _ e.symm).1 (by omega))
        have Xd374 := Xd37.grown hgd374 (fun e => absurd (Aod37.lt _ e.symm).1 (by omega))
        refine hK.out _ _ ?_ (fun hHeld => ?_)
        · exact ⟨Nd374.cell 0, Nd374.cell 1, Xd374.cell 1⟩
        clear hK K
        try simp only [Act.put, List.setIfInBounds_toArray, List.set_cons_zero, List.set_cons_succ]
        have Ld374 := Ld37.grown hgd374 (Nat.le_trans hb0 Ld37.size) (fun k hk => (Aod37.lt k hk).1)
        have Bod374 := own_row Bod37 Aod37 hgd374 (by decide)
        have Bmd374 := blk_row Bmd37 Aod37 hgd374 (by decide)
        clear Ld37 Aod37 Bod37 hgd374 Nd37 Xd37 Amd37 Bmd37
        refine wpAnyH_ready (rs := [8]) (by kernel_rfl) (by simp) ?_
        refine (AllReadyH.cons (o := ⟨some 171, _, _, _, _, _⟩) rfl (fun K hK => ?_) AllReadyH.nil)
        · refine step_append_any _ (by rfl) (.tmp 168) (.tmp 170) 66 (by rfl) b0 79 ti _ 2 16 Tryd.underlying66 hi0 hz0 hz1 hz2 rfl (by omega) (.slice A2 xs1.length c2) xs1.length (xs1.flatMap fun x => stCells x.2) (by rfl) Bod374 (b7 + 1) (some ⟨b7, 0, none⟩) 1 1 [.int .i64 hn, .int .i64 tn] (by rfl) (reads_blkN (vs := [.int .i64 hn, .int .i64 tn]) Bmd374 rfl) (by simp [Value.oneCell']) (by unfold maxLen; omega) (by omega) (Nat.le_trans hb0 Ld374.size) ?_
          intro v8 d3748 Bod3748 hgd3748 _
          have Nd3748 := Nd374.grown hgd3748 (fun e => absurd (Bod374.lt _ e.symm).1 (by omega))
          have Xd3748 := Xd374.grown hgd3748 (fun e => absurd (Bod374.lt _ e.symm).1 (by omega))
          refine hK.out _ _ ?_ (fun hHeld => ?_)
          · exact ⟨Nd3748.cell 0, Nd3748.cell 1, Xd3748.cell 1⟩
          clear hK K
          try simp only [Act.put, List.setIfInBounds_toArray, List.set_cons_zero, List.set_cons_succ]
          have Ld3748 := Ld374.grown hgd3748 (Nat.le_trans hb0 Ld374.size) (fun k hk => (Bod374.lt k hk).1)
          have Aod3748 := own_row Aod374 Bod374 hgd3748 (by decide)
          clear Ld374 Aod374 Bod374 hgd3748 Nd374 Xd374 Bmd374
          refine wpAnyH_take (i := 9) (oi := ⟨some 16, _, _, _, _, _⟩) (v := ?_) rfl (by kernel_rfl) (by kernel_rfl) (by kernel_rfl) (fun _ _ _ h => hQ _ _ _ _ _ h) (Or.inl ⟨by kernel_rfl, ?_⟩) (by assumption) ?_
          rotate_left
          · intro w hSw
            go_simp
            try with_reducible rfl
          try simp only [Act.put, List.setIfInBounds_toArray, List.set_cons_zero, List.set_cons_succ]
          refine wpAnyH_take (i := 10) (oi := ⟨some 17, _, _, _, _, _⟩) (v := ?_) rfl (by kernel_rfl) (by kernel_rfl) (by kernel_rfl) (fun _ _ _ h => hQ _ _ _ _ _ h) (Or.inl ⟨by kernel_rfl, ?_⟩) (by assumption) ?_
          rotate_left
          · intro w hSw
            go_simp
            try with_reducible rfl
          try simp only [Act.put, List.setIfInBounds_toArray, List.set_cons_zero, List.set_cons_succ]
          refine wpAnyH_done (by kernel_rfl) ?_ _
          exact HEND.out _ _ _ _ _ _ _ _ _ _ _ _ Ld3748 (NSt.of_snoc Aod3748 Bod3748)




  · go_simp
    refine hK.out _ _ ?_ (fun hHeld => ?_)
    · exact ⟨(Nd.alloc _).cell 0, (Nd.alloc _).cell 1, (Xd.alloc _).cell 1⟩
    clear hK K
    try simp only [Act.put, List.setIfInBounds_toArray, List.set_cons_zero, List.set_cons_succ]
    have Ld7 := below_alloc_b hb0 Ld (.cells #[.int .i64 hn, .int .i64 tn] 79)
    have Bmd7 := Blk.new d 79 #[.int .i64 hn, .int .i64 tn]
    have Aod7 := Aod.alloc (.cells #[.int .i64 hn, .int .i64 tn] 79)
    have Bod7 := Bod.alloc (.cells #[.int .i64 hn, .int .i64 tn] 79)
    generalize d.heap.size = b7 at Bmd7 ⊢
    have Nd7 := Nd.alloc (.cells #[.int .i64 hn, .int .i64 tn] 79)
    have Xd7 := Xd.alloc (.cells #[.int .i64 hn, .int .i64 tn] 79)
    generalize d.alloc (.cells #[.int .i64 hn, .int .i64 tn] 79) = d7 at Ld7 Aod7 Bod7 Nd7 Xd7 Bmd7 ⊢
    clear Ld Aod Bod Nd Xd
    refine wpAnyH_ready (rs := [3]) (by kernel_rfl) (by simp) ?_
    refine (AllReadyH.cons (o := ⟨some 166, _, _, _, _, _⟩) rfl (fun K hK => ?_) AllReadyH.nil)
    · go_simp
      refine hK.out _ _ ?_ (fun hHeld => ?_)
      · exact ⟨(Nd7.alloc _).cell 0, (Nd7.alloc _).cell 1, (Xd7.alloc _).cell 1⟩
      clear hK K
      try simp only [Act.put, List.setIfInBounds_toArray, List.set_cons_zero, List.set_cons_succ]
      have Ld73 := below_alloc_b hb0 Ld7 (.cells #[.int .i64 a] 3)
      have Amd73 := Blk.new d7 3 #[.int .i64 a]
      have Aod73 := Aod7.alloc (.cells #[.int .i64 a] 3)
      have Bod73 := Bod7.alloc (.cells #[.int .i64 a] 3)
      generalize d7.heap.size = b3 at Amd73 ⊢
      have Nd73 := Nd7.alloc (.cells #[.int .i64 a] 3)
      have Xd73 := Xd7.alloc (.cells #[.int .i64 a] 3)
      have Bmd73 := Bmd7.alloc (.cells #[.int .i64 a] 3)
      generalize d7.alloc (.cells #[.int .i64 a] 3) = d73 at Ld73 Aod73 Bod73 Nd73 Xd73 Amd73 Bmd73 ⊢
      clear Ld7 Aod7 Bod7 Nd7 Xd7 Bmd7
      refine wpAnyH_ready (rs := [4]) (by kernel_rfl) (by simp) ?_
      refine (AllReadyH.cons (o := ⟨some 167, _, _, _, _, _⟩) rfl (fun K hK => ?_) AllReadyH.nil)
      · refine step_append_any _ (by rfl) (.tmp 163) (.tmp 166) 61 (by rfl) b0 3 i3 _ 1 8 Tryd.underlying61 fi3 nz0 nz1 nz2 rfl (by omega) (.slice A1 xs1.length c1) xs1.length (xs1.map fun x => Value.int .i64 x.1) (by rfl) Aod73 (b3 + 1) (some ⟨b3, 0, none⟩) 1 1 [.int .i64 a] (by rfl) (reads_blkN (vs := [.int .i64 a]) Amd73 rfl) (by simp [Value.oneCell']) (by unfold maxLen; omega) (by omega) (Nat.le_trans hb0 Ld73.size) ?_
        intro v4 d734 Aod734 hgd734 _
        have Nd734 := Nd73.grown hgd734 (fun e => absurd (Aod73.lt _ e.symm).1 (by omega))
        have Xd734 := Xd73.grown hgd734 (fun e => absurd (Aod73.lt _ e.symm).1 (by omega))
        refine hK.out _ _ ?_ (fun hHeld => ?_)
        · exact ⟨Nd734.cell 0, Nd734.cell 1, Xd734.cell 1⟩
        clear hK K
        try simp only [Act.put, List.setIfInBounds_toArray, List.set_cons_zero, List.set_cons_succ]
        have Ld734 := Ld73.grown hgd734 (Nat.le_trans hb0 Ld73.size) (fun k hk => (Aod73.lt k hk).1)
        have Bod734 := own_row Bod73 Aod73 hgd734 (by decide)
        have Bmd734 := blk_row Bmd73 Aod73 hgd734 (by decide)
        clear Ld73 Aod73 Bod73 hgd734 Nd73 Xd73 Amd73 Bmd73
        refine wpAnyH_ready (rs := [8]) (by kernel_rfl) (by simp) ?_
        refine (AllReadyH.cons (o := ⟨some 171, _, _, _, _, _⟩) rfl (fun K hK => ?_) AllReadyH.nil)
        · refine step_append_any _ (by rfl) (.tmp 168) (.tmp 170) 66 (by rfl) b0 79 ti _ 2 16 Tryd.underlying66 hi0 hz0 hz1 hz2 rfl (by omega) (.slice A2 xs1.length c2) xs1.length (xs1.flatMap fun x => stCells x.2) (by rfl) Bod734 (b7 + 1) (some ⟨b7, 0, none⟩) 1 1 [.int .i64 hn, .int .i64 tn] (by rfl) (reads_blkN (vs := [.int .i64 hn, .int .i64 tn]) Bmd734 rfl) (by simp [Value.oneCell']) (by unfold maxLen; omega) (by omega) (Nat.le_trans hb0 Ld734.size) ?_
          intro v8 d7348 Bod7348 hgd7348 _
          have Nd7348 := Nd734.grown hgd7348 (fun e => absurd (Bod734.lt _ e.symm).1 (by omega))
          have Xd7348 := Xd734.grown hgd7348 (fun e => absurd (Bod734.lt _ e.symm).1 (by omega))
          refine hK.out _ _ ?_ (fun hHeld => ?_)
          · exact ⟨Nd7348.cell 0, Nd7348.cell 1, Xd7348.cell 1⟩
          clear hK K
          try simp only [Act.put, List.setIfInBounds_toArray, List.set_cons_zero, List.set_cons_succ]
          have Ld7348 := Ld734.grown hgd7348 (Nat.le_trans hb0 Ld734.size) (fun k hk => (Bod734.lt k hk).1)
          have Aod7348 := own_row Aod734 Bod734 hgd7348 (by decide)
          clear Ld734 Aod734 Bod734 hgd7348 Nd734 Xd734 Bmd734
          refine wpAnyH_take (i := 9) (oi := ⟨some 16, _, _, _, _, _⟩) (v := ?_) rfl (by kernel_rfl) (by kernel_rfl) (by kernel_rfl) (fun _ _ _ h => hQ _ _ _ _ _ h) (Or.inl ⟨by kernel_rfl, ?_⟩) (by assumption) ?_
          rotate_left
          · intro w hSw
            go_simp
            try with_reducible rfl
          try simp only [Act.put, List.setIfInBounds_toArray, List.set_cons_zero, List.set_cons_succ]
          refine wpAnyH_take (i := 10) (oi := ⟨some 17, _, _, _, _, _⟩) (v := ?_) rfl (by kernel_rfl) (by kernel_rfl) (by kernel_rfl) (fun _ _ _ h => hQ _ _ _ _ _ h) (Or.inl ⟨by kernel_rfl, ?_⟩) (by assumption) ?_
          rotate_left
          · intro w hSw
            go_simp
            try with_reducible rfl
          try simp only [Act.put, List.setIfInBounds_toArray, List.set_cons_zero, List.set_cons_succ]
          refine wpAnyH_done (by kernel_rfl) ?_ _
          exact HEND.out _ _ _ _ _ _ _ _ _ _ _ _ Ld7348 (NSt.of_snoc Aod7348 Bod7348)





end Go.Proofs.YtiphicejaljhiaaDoor
