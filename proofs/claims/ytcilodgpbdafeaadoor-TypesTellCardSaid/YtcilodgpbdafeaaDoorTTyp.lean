/- (*Term).Type: a term's tree as a type, its variables numbered as they come; none, if it has more than 200 parts. -/
import Derived.Test.YtcilodgpbdafeaaDoorTLay
namespace Go.Proofs.YtcilodgpbdafeaaDoor
open Go.ChangeShapes Go.WideShapes Go.ChangeAt Go.RowKit
set_option linter.unusedVariables false
set_option linter.unusedSimpArgs false
theorem varD_nil : varD [] = fun _ => none := by funext x; unfold varD; rw [if_neg (by simp)]
/-- What a call hands back as a type: parts of its own. -/
def TypeBack (W W' : World) (v : Value) (l : List Part) : Prop := W'.ownsRow W.heap.size 29 5 v l.length (l.flatMap partC) ∧ Below W.heap.size W W'
set_option maxRecDepth 100000 in
set_option maxHeartbeats 4000000 in
theorem c33big {N : Nat → Option Nd} {g : Nat} {T : Ty} (W : World) (hN : TMem W N) (hd : Den N g T) (hb : 200 < T.size) : Calls Tryd.prog 33 #[ptr g] W fun e W' => e = .returned (.tuple #[.slice none 0 0, .bool false]) ∧ Below W.heap.size W W' := by
  have HN := Lib.hid hN
  have HD := Lib.hid hd
  have hz : min T.size 201 = 201 := by omega
  have HB := Lib.hid hb
  clear hN hd hb
  go_enter Tryd.func33, Tryd.ntmps33
  go_wp2_with fail
  refine (c44 W HN.out HD.out).mono ?_
  rw [hz]
  rintro e w1 ⟨rfl, hb⟩
  have HB1 := Lib.hid hb
  clear hb hz
  go_wp2_with fail
  go_ret2
  exact ⟨rfl, HB1.out⟩
set_option maxRecDepth 100000 in
set_option maxHeartbeats 4000000 in
theorem c33 {N : Nat → Option Nd} {g : Nat} {T : Ty} (W : World) (hN : TMem W N) (hd : Den N g T) (hw : T.wf) (hb : T.size ≤ 200) : Calls Tryd.prog 33 #[ptr g] W fun e W' => ∃ v, e = .returned (.tuple #[v, .bool true]) ∧ TypeBack W W' v (norm (enc 0 T)) := by
  have HN := Lib.hid hN
  have HD := Lib.hid hd
  have HW := Lib.hid hw
  have hz : min T.size 201 = T.size := by omega
  have HB := Lib.hid hb
  have hmm := @run_makeMap Tryd.prog
  clear hN hd hw
  go_enter Tryd.func33, Tryd.ntmps33
  go_wp2_with fail
  refine (c44 W HN.out HD.out).mono ?_
  rw [hz]
  generalize hs : T.size = z at hb
  have HS := Lib.hid hs
  clear hz hs
  rintro e w1 ⟨rfl, hb1⟩
  have HB1 := Lib.hid hb1
  clear hb1
  have hb' : (z : Int) ≤ 200 := by omega
  go_wp2_with fail
  have hL : LayW N ((w1.alloc (.cells #[.slice none 0 0] 23)).alloc (.map #[] 0)) w1.heap.size (w1.heap.size + 1) W.heap.size (.slice none 0 0) [] [] := by
    refine ⟨((HN.out.next HB1.out).alloc _).alloc _, (Blk.new w1 23 _).alloc _, ⟨rfl, .inl ⟨rfl, rfl⟩⟩, ?_, ?_⟩
    · have h := PMap.made (w1.alloc (.cells #[.slice none 0 0] 23))
      rw [World.size_alloc] at h
      rw [varD_nil]
      exact h
    · rw [World.size_alloc, World.size_alloc]
      have := HB1.out.size
      omega
  have HL := Lib.hid hL
  clear hL
  refine (c45 T.size T g _ _ [] [] (Nat.le_refl _) HW.out HD.out HL.out (by have := HB.out; simp only [List.length_nil]; omega)).mono ?_
  rintro e w2 ⟨rfl, v, hL2, hS2, _⟩
  have HL2 := Lib.hid hL2
  have HS2 := Lib.hid hS2
  have q0 := hL2.out.cell 0
  clear hL2 hS2
  go_wp2_with fail
  go_ret2
  refine ⟨_, rfl, ?_, ?_⟩
  · have h := HL2.out.own
    rw [List.nil_append] at h
    exact h
  · have hb2 : Below W.heap.size W ((w1.alloc (.cells #[.slice none 0 0] 23)).alloc (.map #[] 0)) := (HB1.out.alloc HB1.out.size _).alloc (by rw [World.size_alloc]; have := HB1.out.size; omega) _
    refine ⟨HS2.out.os.trans hb2.os, HS2.out.tape.trans hb2.tape, HS2.out.output.trans hb2.output, Nat.le_trans hb2.size HS2.out.size, fun k hk => (HS2.out.block k (Nat.lt_of_lt_of_le hk hb2.size) ?_).trans (hb2.block k hk)⟩
    have h1 := HB1.out.size
    rintro (e | e | e)
    · omega
    · omega
    · cases e
end Go.Proofs.YtcilodgpbdafeaaDoor
