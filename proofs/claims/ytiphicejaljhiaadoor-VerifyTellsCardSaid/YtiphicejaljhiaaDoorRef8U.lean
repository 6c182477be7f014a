/- Pieces of stockpotref08.States' round: what a jump or a try adds. -/
import Derived.Test.YtiphicejaljhiaaDoorRef8T
namespace Go.Proofs.YtiphicejaljhiaaDoor
open Go.ChangeShapes Go.WideShapes Go.ChangeAt Go.RowKit
set_option linter.unusedSimpArgs false
set_option linter.unusedVariables false
/-- A block of a function's text, by its number. -/
def blockOf (n : Nat) : Code → Option Code
  | .block m c => if m = n then some (.block m c) else blockOf n c
  | .seq a b => match blockOf n a with
    | some c => some c
    | none => blockOf n b
  | .cond _ a b => match blockOf n a with
    | some c => some c
    | none => blockOf n b
  | .loop c => blockOf n c
  | .scope c => blockOf n c
  | _ => none
noncomputable def block38 (n : Nat) : Code := ((Tryd.f38.body).bind (blockOf n)).getD .skip
set_option maxRecDepth 100000 in
set_option maxHeartbeats 4000000 in
theorem sw38 {u0 u1 u2 u3 u4 u5 u6 u7 u8 u9 u10 u12 u18 u19 u20 u21 u22 u23 u24 u25 u26 u27 u28 u29 u30 u31 u32 u33 u34 u35 u36 u37 u38 u39 u40 u41 u42 u43 u44 u45 u46 u47 u48 u49 u50 u51 u52 u53 u54 u55 u56 u57 u58 u59 u60 u61 u62 u63 u64 u65 u66 u67 u68 u69 u70 u71 u72 u73 u74 u75 u76 u77 u78 u79 u80 u81 u82 u83 u84 u85 u86 u87 u88 u89 u90 u91 u92 u93 u94 u95 u96 u97 u98 u99 u100 u101 u102 u103 u104 u105 u106 u107 u108 u109 u110 u111 u112 u113 u114 u115 u116 u117 u118 u119 u120 u121 u122 u123 u124 u125 u126 u127 u128 u129 u130 u131 u132 u133 u134 u135 u136 u137 u138 u139 u140 u141 u142 u143 u144 u145 u146 u147 u148 u149 u150 u151 u152 u153 u154 u155 u156 u157 u158 u160 u161 u162 u163 u164 u165 u166 u167 u168 u169 u170 u171 u172 u173 u174 u175 u176 u177 u178 u179 u180 u181 u182 u183 u184 u185 u186 u187 u188 u189 u190 u191 u192 u193 u194 u195 u196 u197 u198 u199 u200 u201 u202 u203 u204 u205 u206 u207 u208 u209 u210 u211 u212 u213 u214 u215 u216 u217 u218 u219 u220 u221 u222 u223 u224 u225 u226 u227 u228 u229 u230 u231 u232 u233 u234 u235 u236 u237 u238 u239 u240 u241 u242 u243 u244 u245 u246 u247 u248 u249 u250 u251 u252 u253 u254 u255 u256 u257 : Value} {Q : Exit → Act → World → Prop} (b0 bn bx : Nat) (o a b h t hn tn : Int) (A1 A2 : Option Addr) (c1 c2 : Nat) (xs1 : List Nxt) (w : World)
    (hb0 : b0 ≤ w.heap.size) (hbn : bn < b0) (hbx : bx < b0) (hxs : xs1.length ≤ 1) (hh0 : 0 ≤ h) (hh1 : h ≤ 1000) (N0 : Blk w bn 79 #[.int .i64 hn, .int .i64 tn]) (X0 : Blk w bx 23 #[.int .i64 o, .int .i64 a, .int .i64 b]) (H0 : NSt w b0 (.slice A1 xs1.length c1) (.slice A2 xs1.length c2) xs1)
    (hQ : ∀ c (a : Act) d v w', Q (.panic c) (a.put d v) w' → Q (.panic c) a w')
    (hend : ∀ v160 v161 v162 v163 v164 v165 v166 v167 v168 v169 v170 v171 v172 v173 v174 v175 v176 v177 v178 v179 v180 v181 v182 v183 v184 v185 v16 v17 w', Below b0 w w' → NSt w' b0 v16 v17 (xs1 ++ (if o = 10 ∨ o = 11 then [(a, (hn, tn))] else if o = 33 then [(a, (h + 1, t))] else [])) → Q .normal ⟨#[u0, u1, u2, u3, u4, u5, u6, u7, u8, u9, u10, .pointer (some ⟨bx, 0, none⟩), u12, .int .i64 h, .int .i64 t, .pointer (some ⟨bn, 0, none⟩), v16, v17, u18, u19, u20, u21, u22, u23, u24, u25, u26, u27, u28, u29, u30, u31, u32, u33, u34, u35, u36, u37, u38, u39, u40, u41, u42, u43, u44, u45, u46, u47, u48, u49, u50, u51, u52, u53, u54, u55, u56, u57, u58, u59, u60, u61, u62, u63, u64, u65, u66, u67, u68, u69, u70, u71, u72, u73, u74, u75, u76, u77, u78, u79, u80, u81, u82, u83, u84, u85, u86, u87, u88, u89, u90, u91, u92, u93, u94, u95, u96, u97, u98, u99, u100, u101, u102, u103, u104, u105, u106, u107, u108, u109, u110, u111, u112, u113, u114, u115, u116, u117, u118, u119, u120, u121, u122, u123, u124, u125, u126, u127, u128, u129, u130, u131, u132, u133, u134, u135, u136, u137, u138, u139, u140, u141, u142, u143, u144, u145, u146, u147, u148, u149, u150, u151, u152, u153, u154, u155, u156, u157, u158, .int .i64 o, v160, v161, v162, v163, v164, v165, v166, v167, v168, v169, v170, v171, v172, v173, v174, v175, v176, v177, v178, v179, v180, v181, v182, v183, v184, v185, u186, u187, u188, u189, u190, u191, u192, u193, u194, u195, u196, u197, u198, u199, u200, u201, u202, u203, u204, u205, u206, u207, u208, u209, u210, u211, u212, u213, u214, u215, u216, u217, u218, u219, u220, u221, u222, u223, u224, u225, u226, u227, u228, u229, u230, u231, u232, u233, u234, u235, u236, u237, u238, u239, u240, u241, u242, u243, u244, u245, u246, u247, u248, u249, u250, u251, u252, u253, u254, u255, u256, u257], []⟩ w') :
    Code.wp Tryd.prog (block38 4) Q ⟨#[u0, u1, u2, u3, u4, u5, u6, u7, u8, u9, u10, .pointer (some ⟨bx, 0, none⟩), u12, .int .i64 h, .int .i64 t, .pointer (some ⟨bn, 0, none⟩), .slice A1 xs1.length c1, .slice A2 xs1.length c2, u18, u19, u20, u21, u22, u23, u24, u25, u26, u27, u28, u29, u30, u31, u32, u33, u34, u35, u36, u37, u38, u39, u40, u41, u42, u43, u44, u45, u46, u47, u48, u49, u50, u51, u52, u53, u54, u55, u56, u57, u58, u59, u60, u61, u62, u63, u64, u65, u66, u67, u68, u69, u70, u71, u72, u73, u74, u75, u76, u77, u78, u79, u80, u81, u82, u83, u84, u85, u86, u87, u88, u89, u90, u91, u92, u93, u94, u95, u96, u97, u98, u99, u100, u101, u102, u103, u104, u105, u106, u107, u108, u109, u110, u111, u112, u113, u114, u115, u116, u117, u118, u119, u120, u121, u122, u123, u124, u125, u126, u127, u128, u129, u130, u131, u132, u133, u134, u135, u136, u137, u138, u139, u140, u141, u142, u143, u144, u145, u146, u147, u148, u149, u150, u151, u152, u153, u154, u155, u156, u157, u158, .int .i64 o, u160, u161, u162, u163, u164, u165, u166, u167, u168, u169, u170, u171, u172, u173, u174, u175, u176, u177, u178, u179, u180, u181, u182, u183, u184, u185, u186, u187, u188, u189, u190, u191, u192, u193, u194, u195, u196, u197, u198, u199, u200, u201, u202, u203, u204, u205, u206, u207, u208, u209, u210, u211, u212, u213, u214, u215, u216, u217, u218, u219, u220, u221, u222, u223, u224, u225, u226, u227, u228, u229, u230, u231, u232, u233, u234, u235, u236, u237, u238, u239, u240, u241, u242, u243, u244, u245, u246, u247, u248, u249, u250, u251, u252, u253, u254, u255, u256, u257], []⟩ w := by
  obtain ⟨ti, hi0, hz0, hz1, hz2⟩ := info_parts pair_info
  obtain ⟨i3, fi3, nz0, nz1, nz2⟩ := info_parts (show (Tryd.prog.info? 3).map (fun i => (i.zero, i.size, i.bytes)) = some (some (.int .i64 0), 1, 8) by kernel_rfl)
  have HEND := Lib.hid hend
  have HQ := Lib.hid hQ
  have HN := Lib.hid H0
  clear hend hQ H0
  have V7 : IntKind.i64.wrap (h + 1) = h + 1 := IntWalk.i64_in _ (by omega)
  have x1 := X0.cell 1
  conv => arg 2; whnf
  by_cases gj : o = 10 ∨ o = 11
  · rcases gj with rfl | rfl
    all_goals
      go_wp2_with fail
      refine reg32 b0 bn bx _ a b hn tn A1 A2 c1 c2 xs1 w hb0 hbn hbx hxs N0 X0 HN.out HQ.out ?_
      intro v163 v164 v165 v166 v167 v168 v169 v170 v171 v16 v17 w' hb hN
      have HB' := Lib.hid hb
      have HN' := Lib.hid hN
      clear hb hN x1
      go_wp2_with fail
      exact HEND.out _ _ _ _ _ _ _ _ _ _ _ _ _ _ _ _ _ _ _ _ _ _ _ _ _ _ _ _ _ HB'.out (by rw [if_pos (by decide)]; exact HN'.out)
  · have f10 : (o == 10) = false := beq_eq_false_iff_ne.2 (by omega)
    have f11 : (o == 11) = false := beq_eq_false_iff_ne.2 (by omega)
    by_cases g33 : o = 33
    · subst g33
      have hA := HN.out.rt.alloc (.cells #[.int .i64 a] 3)
      have Am := Blk.new w 3 #[.int .i64 a]
      have hB := HN.out.rw.alloc (.cells #[.int .i64 a] 3)
      have L1 := (Below.refl b0 w).alloc hb0 (.cells #[.int .i64 a] 3)
      have HA := Lib.hid hA
      have HAm := Lib.hid Am
      have HB := Lib.hid hB
      have HL := Lib.hid L1
      clear hA Am hB L1
      go_wp2_with (first
        | (at_builtin; refine wpList_append_any _ rfl (.tmp 174) (.tmp 177) 61 rfl b0 3 i3 _ 1 8 Tryd.underlying61 fi3 nz0 nz1 nz2 rfl (by omega) (.slice A1 xs1.length c1) xs1.length (xs1.map fun x => Value.int .i64 x.1) rfl HA.out (w.heap.size + 1) (some ⟨w.heap.size, 0, none⟩) 1 1 [.int .i64 a] rfl (reads_blkN (vs := [.int .i64 a]) HAm.out rfl) (by simp [Value.oneCell']) (by unfold maxLen; omega) (by omega) (Nat.le_trans hb0 HL.out.size) ?_; intro v1 wA oA gA eA; clear eA; have HA2 := Lib.hid (oA.alloc (.cells #[.int .i64 (h + 1), .int .i64 t] 79)); have HB2 := Lib.hid ((own_row HB.out HA.out gA (by decide)).alloc (.cells #[.int .i64 (h + 1), .int .i64 t] 79)); have HBm := Lib.hid (Blk.new wA 79 #[.int .i64 (h + 1), .int .i64 t]); have HL1 := Lib.hid (HL.out.grown gA (Nat.le_trans hb0 HL.out.size) (fun k hk => (HA.out.lt k hk).1)); have HL2 := Lib.hid (HL1.out.alloc (Nat.le_trans hb0 HL1.out.size) (.cells #[.int .i64 (h + 1), .int .i64 t] 79)); clear oA gA)
        | (at_builtin; refine wpList_append_any _ rfl (.tmp 179) (.tmp 184) 66 rfl b0 79 ti _ 2 16 Tryd.underlying66 hi0 hz0 hz1 hz2 rfl (by omega) (.slice A2 xs1.length c2) xs1.length (xs1.flatMap fun x => stCells x.2) rfl HB2.out (wA.heap.size + 1) (some ⟨wA.heap.size, 0, none⟩) 1 1 [.int .i64 (h + 1), .int .i64 t] rfl (reads_blkN (vs := [.int .i64 (h + 1), .int .i64 t]) HBm.out rfl) (by simp [Value.oneCell']) (by unfold maxLen; omega) (by omega) (Nat.le_trans hb0 HL2.out.size) ?_; intro v2 wB oB gB eB; clear eB; have HB3 := Lib.hid oB; have HA3 := Lib.hid (own_row HA2.out HB2.out gB (by decide)); have HL3 := Lib.hid (HL2.out.grown gB (Nat.le_trans hb0 HL2.out.size) (fun k hk => (HB2.out.lt k hk).1)); clear oB gB))
      exact HEND.out _ _ _ _ _ _ _ _ _ _ _ _ _ _ _ _ _ _ _ _ _ _ _ _ _ _ _ _ _ HL3.out (by rw [if_neg (by decide), if_pos (by trivial)]; exact NSt.of_snoc HA3.out HB3.out)
    · have f33 : (o == 33) = false := beq_eq_false_iff_ne.2 g33
      go_wp2_with fail
      exact HEND.out _ _ _ _ _ _ _ _ _ _ _ _ _ _ _ _ _ _ _ _ _ _ _ _ _ _ _ _ _ (Below.refl _ _) (by rw [if_neg gj, if_neg g33, List.append_nil]; exact HN.out)
end Go.Proofs.YtiphicejaljhiaaDoor
