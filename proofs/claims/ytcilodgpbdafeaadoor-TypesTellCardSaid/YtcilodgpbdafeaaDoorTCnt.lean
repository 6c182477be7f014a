/- (*Term).Count: how many parts a term's tree has, 201 at most. -/
import Derived.Test.YtcilodgpbdafeaaDoorTMt
namespace Go.Proofs.YtcilodgpbdafeaaDoor
open Go.ChangeShapes Go.WideShapes Go.ChangeAt Go.RowKit
set_option linter.unusedVariables false
set_option linter.unusedSimpArgs false
def cnt (l : List Ty) : Nat := min ((l.map Ty.size).sum + 1) 201
theorem cnt_subs (T : Ty) : cnt T.subs = min T.size 201 := by
  cases T with
  | leaf k t => rfl
  | var n => rfl
  | one k s => simp [cnt, Ty.subs, Ty.size]
  | two k s u => simp [cnt, Ty.subs, Ty.size]
theorem cnt_snoc (l : List Ty) (U : Ty) : cnt (l ++ [U]) = min (cnt l + min U.size 201) 201 := by
  simp only [cnt, List.map_append, List.sum_append, List.map_cons, List.map_nil, List.sum_cons, List.sum_nil]
  omega
theorem cnt_le (l : List Ty) : cnt l ≤ 201 := Nat.min_le_right _ _
def CInv (N : Nat → Option Nd) (D : Nat → Option Value) : Prop := ∀ x u, D x = some u → ∃ U, Den N x U ∧ u = .int .i64 ((min U.size 201 : Nat) : Int)
def CntPost (N : Nat → Option Nd) (W : World) (b : Nat) (W' : World) : Prop := ∃ D' n', W.grownBy W' (some b) ∧ PMap W' b D' n' ∧ CInv N D'
set_option maxRecDepth 100000 in
set_option maxHeartbeats 4000000 in
theorem c53 {N : Nat → Option Nd} : ∀ (m : Nat) (T : Ty) (g : Nat) (W : World) (b n : Nat) (D : Nat → Option Value), T.size ≤ m → TMem W N → Den N g T → PMap W b D n → CInv N D →
    Calls Tryd.prog 53 #[ptr g, .map (some b)] W fun e W' => e = .returned (.int .i64 ((min T.size 201 : Nat) : Int)) ∧ CntPost N W b W' := by
  intro m
  induction m with
  | zero => intro T _ _ _ _ _ h; have := T.size_pos; omega
  | succ m ih =>
    intro T g W b n D hm hN hd hP hM
    obtain ⟨r, k, hr, hdr⟩ := hd.rep
    have hroot := hr.isRoot
    have IH := Lib.hid ih
    have HN := Lib.hid hN
    have HP := Lib.hid hP
    have HR := Lib.hid hr
    have HD := Lib.hid hdr
    have HO := Lib.hid hroot
    have HM := Lib.hid hM
    have HS := Lib.hid hm
    clear hN hP hr hd hdr hroot hM ih hm
    obtain ⟨ndr, er, _⟩ := HO.out
    have br := HN.out _ _ er
    have BR := Lib.hid br
    have hl := look78 HP.out br
    clear er br
    cases hx : D r with
    | some u =>
      obtain ⟨U, hU, rfl⟩ := HM.out r u hx
      have eU : U = T := hU.fn HD.out
      subst eU
      rw [hx] at hl
      replace hl : (Instr.lookup 78 (.map (some b)) (ptr r) true).run Tryd.prog W = .ok (.tuple #[.int .i64 ((min U.size 201 : Nat) : Int), .bool true]) W := hl
      clear hx hU
      generalize hz : min U.size 201 = z at hl ⊢
      have HZ := Lib.hid hz
      clear hz
      go_enter Tryd.func53, Tryd.ntmps53
      go_wp2_with fail
      refine (c41 HR.out W HN.out).mono ?_
      rintro e _ ⟨rfl, rfl⟩
      go_wp2_with fail
      go_ret
      exact ⟨rfl, D, n, World.grownBy.refl _ _, HP.out, HM.out⟩
    | none =>
      rw [hx] at hl
      replace hl : (Instr.lookup 78 (.map (some b)) (ptr r) true).run Tryd.prog W = .ok (.tuple #[.int .i64 0, .bool false]) W := hl
      clear hx
      obtain ⟨_, l, hparts, hlen, hkid⟩ := HD.out.parts HO.out
      have HK := Lib.hid hkid
      have HL := Lib.hid hlen
      have HPa := Lib.hid hparts
      have hl2 := hparts.len
      clear hkid hlen hparts
      go_enter Tryd.func53, Tryd.ntmps53
      go_wp2_with fail
      refine (c41 HR.out W HN.out).mono ?_
      rintro e _ ⟨rfl, rfl⟩
      go_wp2_with fail
      refine (c43 HO.out.rep HPa.out W HN.out).mono ?_
      rintro e w2 ⟨A, rfl, hrd, hb2, _⟩
      have HRD := Lib.hid hrd
      have HG2 := Lib.hid (grown_of_below hb2 (some b))
      have HP2 := Lib.hid (HP.out.next hb2)
      clear hrd hb2 hl
      go_wp2_with fail
      go_loopw [7, 23] (fun c i wr => ∃ (k : Nat) (D' : Nat → Option Value) (n' : Nat), k ≤ l.length ∧ c = .int .i64 ((cnt (T.subs.take k) : Nat) : Int) ∧ i = .int .i64 k ∧ W.grownBy wr (some b) ∧ w2.grownBy wr (some b) ∧ PMap wr b D' n' ∧ CInv N D') (fun _ i _ => l.length - (intOf i).toNat)
      case atStart => exact ⟨0, _, _, by omega, rfl, rfl, HG2.out, World.grownBy.refl _ _, HP2.out, HM.out⟩
      case round =>
        obtain ⟨k, D', n', hk, rfl, rfl, hg, hg2, hp, hmk⟩ := hrel
        have HGr := Lib.hid hg
        have HG2r := Lib.hid hg2
        have HPr := Lib.hid hp
        have HMr := Lib.hid hmk
        clear hg hg2 hp hmk
        have hcl := cnt_le (T.subs.take k)
        by_cases hlt : k < l.length
        · have hl : (k : Int) < (l.length : Int) := by omega
          have hk0 : (0 : Int) ≤ (k : Int) := by omega
          obtain ⟨ad, rfl, _, a0⟩ := (HRD.out.mapped (Nat.le_refl _) HP2.out HG2r.out).ptrAt (List.getElem?_eq_getElem hlt)
          have hsub : k < T.subs.length := by rw [← HL.out]; exact hlt
          obtain ⟨hdk, hrk⟩ := HK.out k _ _ (List.getElem?_eq_getElem hlt) (List.getElem?_eq_getElem hsub)
          have hsz := subs_lt (List.getElem?_eq_getElem hsub)
          have htk : cnt (T.subs.take (k + 1)) = min (cnt (T.subs.take k) + min T.subs[k].size 201) 201 := by
            rw [List.take_add_one, List.getElem?_eq_getElem hsub]
            exact cnt_snoc _ _
          generalize T.subs[k] = U at hdk hsz htk
          generalize l[k] = x at a0 hdk hrk
          have HDk := Lib.hid hdk
          have HSz := Lib.hid hsz
          have HTk := Lib.hid htk
          clear hdk hrk hsz htk
          generalize cnt (T.subs.take k) = c at hcl HTk ⊢
          have hus : min U.size 201 ≤ 201 := Nat.min_le_right _ _
          go_wp2_with fail
          refine (IH.out U x _ b n' D' (by have := HSz.out; have := HS.out; omega) (HN.out.mapped HP.out HGr.out) HDk.out HPr.out HMr.out).mono ?_
          rintro e w3 ⟨rfl, D3, n3, hg3, hp3, hm3⟩
          have HG3 := Lib.hid hg3
          have HP3 := Lib.hid hp3
          have HM3 := Lib.hid hm3
          clear hg3 hp3 hm3
          generalize hz : min U.size 201 = z at hus HTk ⊢
          have HZ := Lib.hid hz
          clear hz

          go_wp2_with (refine wpList_min rfl (.tmp 31) (.const (.int .i64 201)) _ rfl _ _ _ _ rfl rfl _ rfl ?_)
          go_roundw
          case rel => exact ⟨k + 1, D3, n3, by omega, by rw [HTk.out]; congr 1; split <;> omega, by go_num, HGr.out.trans HG3.out, HG2r.out.trans HG3.out, HP3.out, HM3.out⟩
          case measure => simp [intOf]; omega
        · have hl : ¬ (k : Int) < (l.length : Int) := by omega
          have hcT : cnt (T.subs.take k) = min T.size 201 := by
            rw [List.take_of_length_le (by rw [← HL.out]; omega), cnt_subs]
          rw [hcT]
          generalize hz : min T.size 201 = z
          have HZ := Lib.hid hz
          clear hz hcT hcl
          obtain ⟨ndr', er', _⟩ := HO.out
          have br' := (HN.out.mapped HP.out HGr.out) _ _ er'
          obtain ⟨w4, hst, hp4, hg4⟩ := store78 HPr.out br' (.int .i64 (z : Int))
          have HP4 := Lib.hid hp4
          have HG4 := Lib.hid hg4
          clear br' er' hp4 hg4
          go_wp2_with fail
          go_ret
          refine ⟨by rw [HZ.out]; rfl, _, _, HGr.out.trans HG4.out, HP4.out, fun x u hx => ?_⟩
          by_cases hxr : x = r
          · simp only [if_pos hxr] at hx
            exact ⟨T, hxr ▸ HD.out, by rw [HZ.out]; exact (Option.some.inj hx).symm⟩
          · simp only [if_neg hxr] at hx
            exact HMr.out x u hx
set_option maxRecDepth 100000 in
theorem c44 {N : Nat → Option Nd} {g : Nat} {T : Ty} (W : World) (hN : TMem W N) (hd : Den N g T) : Calls Tryd.prog 44 #[ptr g] W fun e W' => e = .returned (.int .i64 ((min T.size 201 : Nat) : Int)) ∧ Below W.heap.size W W' := by
  have HN := Lib.hid hN
  have HD := Lib.hid hd
  clear hN hd
  have hmm := @run_makeMap Tryd.prog
  go_enter Tryd.func44, Tryd.ntmps44
  go_wp2_with fail
  refine (c53 T.size T g _ W.heap.size 0 (fun _ => none) (Nat.le_refl _) (HN.out.alloc _) HD.out (PMap.made W) (fun x u h => by cases h)).mono ?_
  rintro e w1 ⟨rfl, hw⟩
  have HW := Lib.hid hw
  clear hw
  generalize hz : min T.size 201 = z
  have HZ := Lib.hid hz
  clear hz
  go_wp2_with fail
  go_ret
  obtain ⟨D', n', hg, _⟩ := HW.out
  exact ⟨by rw [HZ.out]; rfl, (below_new W _).grown hg (by rw [World.size_alloc]; omega) (fun k e => by injection e with e; omega)⟩
end Go.Proofs.YtcilodgpbdafeaaDoor
