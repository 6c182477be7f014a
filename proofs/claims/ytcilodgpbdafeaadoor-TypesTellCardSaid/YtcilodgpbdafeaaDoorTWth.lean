/- term.within: whether a variable stands in a tree; the parts of a tree; maps keyed by nodes. -/
import Derived.Test.YtcilodgpbdafeaaDoorTParts
namespace Go.Proofs.YtcilodgpbdafeaaDoor
open Go.ChangeShapes Go.WideShapes Go.ChangeAt Go.RowKit
set_option linter.unusedVariables false
set_option linter.unusedSimpArgs false
def Ty.subs : Ty → List Ty
  | .leaf _ _ => []
  | .var _ => []
  | .one _ s => [s]
  | .two _ s u => [s, u]
def Ty.kind : Ty → Int
  | .leaf k _ => k
  | .var _ => 11
  | .one k _ => k
  | .two k _ _ => k
def Ty.text : Ty → List UInt8
  | .leaf _ t => t
  | _ => []
/-- Node r stands for itself. -/
def Root (N : Nat → Option Nd) (r : Nat) : Prop := ∃ nd, N r = some nd ∧ nd.to = none
theorem Rep.isRoot {N : Nat → Option Nd} {g r n : Nat} (h : Rep N g r n) : Root N r := h.root
theorem Root.rep {N : Nat → Option Nd} {r : Nat} (h : Root N r) : Rep N r r 0 := by obtain ⟨nd, e1, e2⟩ := h; exact .here e1 e2
theorem Root.var {N : Nat → Option Nd} {g v : Nat} (h : Root N g) (hd : Den N g (.var v)) : g = v := by
  obtain ⟨nd, e1, e2⟩ := h
  cases hd with
  | to f1 f2 _ => rw [e1] at f1; cases f1; rw [e2] at f2; cases f2
  | var => rfl
/-- A root of a tree: its kind, its text, its parts. -/
theorem Den.parts {N : Nat → Option Nd} {r : Nat} {T : Ty} (h : Den N r T) (hr : Root N r) :
    (∃ nd, N r = some nd ∧ nd.k = T.kind ∧ nd.t = T.text ∧ nd.to = none) ∧ ∃ l : List Nat, Parts N r l ∧ l.length = T.subs.length ∧ ∀ (i x : Nat) (U : Ty), l[i]? = some x → T.subs[i]? = some U → Den N x U ∧ Root N x := by
  obtain ⟨nd, e1, e2⟩ := hr
  cases h with
  | to f1 f2 _ => rw [e1] at f1; cases f1; rw [e2] at f2; cases f2
  | var f1 f2 f3 f4 f5 f6 => exact ⟨⟨_, f1, f5, f6, f2⟩, [], ⟨_, f1, f2, .inl ⟨f3, rfl⟩⟩, rfl, fun i x U h => by simp at h⟩
  | leaf f1 f2 f3 f4 f5 => exact ⟨⟨_, f1, rfl, rfl, f2⟩, [], ⟨_, f1, f2, .inl ⟨f3, rfl⟩⟩, rfl, fun i x U h => by simp at h⟩
  | one f1 f2 f3 f4 f5 f6 k =>
    obtain ⟨y, n, h1, h2⟩ := k.rep
    refine ⟨⟨_, f1, rfl, f5, f2⟩, [y], ⟨_, f1, f2, .inr (.inl ⟨_, _, _, f3, f4, h1, rfl⟩)⟩, rfl, fun i x U h h' => ?_⟩
    match i, h, h' with
    | 0, h, h' => cases h; cases h'; exact ⟨h2, h1.isRoot⟩
  | two f1 f2 f3 f4 f5 f6 k k' =>
    obtain ⟨y, n, h1, h2⟩ := k.rep
    obtain ⟨z, n', h3, h4⟩ := k'.rep
    refine ⟨⟨_, f1, rfl, f5, f2⟩, [y, z], ⟨_, f1, f2, .inr (.inr ⟨_, _, _, _, _, _, f3, f4, h1, h3, rfl⟩)⟩, rfl, fun i x U h h' => ?_⟩
    match i, h, h' with
    | 0, h, h' => cases h; cases h'; exact ⟨h2, h1.isRoot⟩
    | 1, h, h' => cases h; cases h'; exact ⟨h4, h3.isRoot⟩
theorem Parts.len {N : Nat → Option Nd} {r : Nat} {l : List Nat} (h : Parts N r l) : l.length ≤ 2 := by
  obtain ⟨nd, _, _, h⟩ := h
  rcases h with ⟨_, rfl⟩ | ⟨_, _, _, _, _, _, rfl⟩ | ⟨_, _, _, _, _, _, _, _, _, _, rfl⟩ <;> simp
theorem subs_lt {T U : Ty} {i : Nat} (h : T.subs[i]? = some U) : U.size < T.size := by
  cases T with
  | leaf k t => simp [Ty.subs] at h
  | var n => simp [Ty.subs] at h
  | one k s =>
    match i, h with
    | 0, h => cases h; exact Nat.lt_succ_self _
  | two k s u =>
    match i, h with
    | 0, h => cases h; simp only [Ty.size]; omega
    | 1, h => cases h; simp only [Ty.size]; omega
theorem occ_subs (v : Int) (T : Ty) (h : T ≠ .var v) : occ v T = T.subs.any (occ v) := by
  cases T with
  | leaf k t => rfl
  | var n =>
    show (n == v) = false
    exact beq_false_of_ne fun e => h (by rw [e])
  | one k s => simp [occ, Ty.subs]
  | two k s u => simp [occ, Ty.subs]
/-- Blocks that are known whole lie in no map. -/
theorem PMap.ne {w : World} {b n g : Nat} {D : Nat → Option Value} {t : TypeId} {cs : Array Value} (h : PMap w b D n) (hg : Blk w g t cs) : g ≠ b := by
  rintro rfl
  obtain ⟨es, clock, l, h1, _⟩ := h
  unfold Blk at hg
  rw [h1] at hg
  cases hg
theorem TMem.mapped {W W' : World} {N : Nat → Option Nd} {b n : Nat} {D : Nat → Option Value} (h : TMem W N) (hP : PMap W b D n) (hg : W.grownBy W' (some b)) : TMem W' N :=
  h.grown hg fun g d hd e => hP.ne (h g d hd) (by injection e)
theorem PMap.cell_ne {w : World} {b n : Nat} {D : Nat → Option Value} {p : Addr} {u : Value} (h : PMap w b D n) (hp : w.cell? p = some u) : p.block ≠ b := by
  intro e
  obtain ⟨es, clock, l, h1, _⟩ := h
  unfold World.cell? at hp
  rw [e, h1] at hp
  cases hp
theorem Reads.mapped {W W' : World} {b n B size k : Nat} {D : Nat → Option Value} {A : Option Addr} {xs : List Value} (h : Reads W B size A k xs) (hB : B ≤ W.heap.size) (hP : PMap W b D n) (hg : W.grownBy W' (some b)) : Reads W' B size A k xs := by
  refine ⟨h.1, fun hn => ?_⟩
  obtain ⟨ad, e, hlt, hc⟩ := h.2 hn
  refine ⟨ad, e, hlt, fun j u hu => ?_⟩
  have hne := hP.cell_ne (hc j u hu)
  have hbl := block_of_add ad j
  rw [hbl] at hne
  rw [← hc j u hu]
  have := hg.block ad.block (by omega) (fun e => hne (by injection e))
  unfold World.cell?
  rw [hbl, this]
theorem Reads.at_ {w : World} {B n : Nat} {A : Option Addr} {xs : List Value} {k : Nat} (h : Reads w B 1 A n xs) (hk : k < n) : ∃ ad u, A = some ad ∧ ad.block < B ∧ xs[k]? = some u ∧ w.cell? (ad.add k) = some u := by
  obtain ⟨ad, e, hb, hc⟩ := h.2 (by omega)
  have hl : k < xs.length := by rw [h.1]; omega
  exact ⟨ad, _, e, hb, List.getElem?_eq_getElem hl, hc k _ (List.getElem?_eq_getElem hl)⟩
theorem Reads.ptrAt {w : World} {B n : Nat} {A : Option Addr} {l : List Nat} {k x : Nat} (h : Reads w B 1 A n (l.map ptr)) (hk : l[k]? = some x) : ∃ ad, A = some ad ∧ ad.block < B ∧ w.cell? (ad.add k) = some (ptr x) := by
  have hlt : k < l.length := (List.getElem?_eq_some_iff.1 hk).1
  have hn := h.1
  rw [List.length_map] at hn
  obtain ⟨ad, u, e, hb, hu, hc⟩ := h.at_ (k := k) (by omega)
  rw [List.getElem?_map, hk] at hu
  obtain rfl := Option.some.inj hu
  exact ⟨ad, e, hb, hc⟩
theorem info69 : ∃ j, Tryd.prog.info? 69 = some j ∧ j.size ≠ 0 := by
  have h : ((Tryd.prog.info? 69).map (·.size)) = some 5 := by kernel_rfl
  cases hx : Tryd.prog.info? 69 with
  | none => rw [hx] at h; cases h
  | some j => rw [hx] at h; exact ⟨j, rfl, by injection h with h; rw [show j.size = 5 from h]; decide⟩
section
variable {W : World} {b n g : Nat} {D : Nat → Option Value} {t : TypeId} {cs : Array Value}
theorem look73 (h : PMap W b D n) (hg : Blk W g t cs) : (Instr.lookup 73 (.map (some b)) (ptr g) false).run Tryd.prog W = .ok ((D g).getD (.bool false)) W := by
  obtain ⟨j, hj, hs⟩ := info69
  exact h.look1 Tryd.underlying73 Tryd.underlying51 hj hs (by kernel_rfl) hg
theorem store73 (h : PMap W b D n) (hg : Blk W g 69 cs) (v : Value) : ∃ w', (Instr.mapUpdate 73 (.map (some b)) (ptr g) v).run Tryd.prog W = .ok () w' ∧ PMap w' b (fun x => if x = g then some v else D x) (if (D g).isSome then n else n + 1) ∧ W.grownBy w' (some b) := by
  obtain ⟨j, hj, hs⟩ := info69
  exact h.store Tryd.underlying73 Tryd.underlying51 hj hs hg v
theorem look78 (h : PMap W b D n) (hg : Blk W g t cs) : (Instr.lookup 78 (.map (some b)) (ptr g) true).run Tryd.prog W = .ok (.tuple #[(D g).getD (.int .i64 0), .bool (D g).isSome]) W := by
  obtain ⟨j, hj, hs⟩ := info69
  exact h.look Tryd.underlying78 Tryd.underlying51 hj hs (by kernel_rfl) hg
theorem store78 (h : PMap W b D n) (hg : Blk W g 69 cs) (v : Value) : ∃ w', (Instr.mapUpdate 78 (.map (some b)) (ptr g) v).run Tryd.prog W = .ok () w' ∧ PMap w' b (fun x => if x = g then some v else D x) (if (D g).isSome then n else n + 1) ∧ W.grownBy w' (some b) := by
  obtain ⟨j, hj, hs⟩ := info69
  exact h.store Tryd.underlying78 Tryd.underlying51 hj hs hg v
theorem neq51 {g' : Nat} {t' : TypeId} {cs' : Array Value} (hg : Blk W g t cs) (hg' : Blk W g' t' cs') : (binOp .neq 51 (ptr g) (ptr g')).run Tryd.prog W = .ok (.bool (!(g == g'))) W := by
  obtain ⟨j, hj, hs⟩ := info69
  exact run_neq_p Tryd.underlying51 hj hs hg hg'
theorem eql51 {g' : Nat} {t' : TypeId} {cs' : Array Value} (hg : Blk W g t cs) (hg' : Blk W g' t' cs') : (binOp .eql 51 (ptr g) (ptr g')).run Tryd.prog W = .ok (.bool (g == g')) W := by
  obtain ⟨j, hj, hs⟩ := info69
  exact run_eql_p Tryd.underlying51 hj hs hg hg'
end
/-- What is marked: nodes of trees that have not the variable, or of trees that are greater than s. -/
def Mark (N : Nat → Option Nd) (v : Int) (s : Nat) (D : Nat → Option Value) : Prop := ∀ x u, D x = some u → u = .bool true ∧ ∃ U, Den N x U ∧ (occ v U = false ∨ s < U.size)
def Marked (N : Nat → Option Nd) (v : Int) (D D' : Nat → Option Value) : Prop := ∀ x u, D' x = some u → D x = some u ∨ (u = .bool true ∧ ∃ U, Den N x U ∧ occ v U = false)
theorem Marked.refl {N : Nat → Option Nd} {v : Int} {D : Nat → Option Value} : Marked N v D D := fun _ _ h => .inl h
theorem Marked.trans {N : Nat → Option Nd} {v : Int} {D D' D'' : Nat → Option Value} (h : Marked N v D D') (h' : Marked N v D' D'') : Marked N v D D'' := fun x u hx => by
  rcases h' x u hx with h1 | h1
  · exact h x u h1
  · exact .inr h1
/-- A root r of tree T is marked: what a part of T may find marked. -/
theorem Mark.part {N : Nat → Option Nd} {v : Int} {D D' : Nat → Option Value} {r : Nat} {T U : Ty} (h : Mark N v T.size D) (hr : Den N r T) (hM : Marked N v (fun x => if x = r then some (.bool true) else D x) D') (hU : U.size < T.size) : Mark N v U.size D' := by
  intro x u hx
  rcases hM x u hx with h1 | ⟨h1, V, h2, h3⟩
  · by_cases hxr : x = r
    · simp only [if_pos hxr] at h1
      exact ⟨(Option.some.inj h1).symm, T, hxr ▸ hr, .inr hU⟩
    · simp only [if_neg hxr] at h1
      obtain ⟨h4, V, h5, h6⟩ := h x u h1
      exact ⟨h4, V, h5, h6.imp id fun h => Nat.lt_trans hU h⟩
  · exact ⟨h1, V, h2, .inl h3⟩
theorem Marked.whole {N : Nat → Option Nd} {v : Int} {D D' : Nat → Option Value} {r : Nat} {T : Ty} (hr : Den N r T) (hM : Marked N v (fun x => if x = r then some (.bool true) else D x) D') (ho : occ v T = false) : Marked N v D D' := by
  intro x u hx
  rcases hM x u hx with h1 | h1
  · by_cases hxr : x = r
    · simp only [if_pos hxr] at h1
      exact .inr ⟨(Option.some.inj h1).symm, T, hxr ▸ hr, ho⟩
    · simp only [if_neg hxr] at h1
      exact .inl h1
  · exact .inr h1
def WthPost (N : Nat → Option Nd) (v : Int) (T : Ty) (W : World) (b : Nat) (D : Nat → Option Value) (W' : World) : Prop := ∃ D' n', W.grownBy W' (some b) ∧ PMap W' b D' n' ∧ (occ v T = false → Marked N v D D')
set_option maxRecDepth 100000 in
set_option maxHeartbeats 4000000 in
theorem c42 {N : Nat → Option Nd} {v : Nat} (hv : Den N v (.var v)) (rv : Root N v) : ∀ (m : Nat) (T : Ty) (g : Nat) (W : World) (b n : Nat) (D : Nat → Option Value), T.size ≤ m → TMem W N → Den N g T → PMap W b D n → Mark N v T.size D →
    Calls Tryd.prog 42 #[ptr v, ptr g, .map (some b)] W fun e W' => e = .returned (.bool (occ v T)) ∧ WthPost N v T W b D W' := by
  intro m
  induction m with
  | zero => intro T _ _ _ _ _ h; have := T.size_pos; omega
  | succ m ih =>
    intro T g W b n D hm hN hd hP hM
    obtain ⟨r, k, hr, hdr⟩ := hd.rep
    have hroot := hr.isRoot
    have IH := Lib.hid ih
    have HN := Lib.hid hN
    have HP := Lib.hid hP
    have HR := Lib.hid hr
    have HD := Lib.hid hdr
    have HO := Lib.hid hroot
    have HM := Lib.hid hM
    have HS := Lib.hid hm
    have HV := Lib.hid hv
    have HW := Lib.hid rv
    clear hN hP hr hd hdr hroot hM ih hm hv rv
    obtain ⟨ndr, er, _⟩ := HO.out
    obtain ⟨ndv, ev, _⟩ := HW.out
    have br := HN.out _ _ er
    have bv := HN.out _ _ ev
    have BR := Lib.hid br
    have hq := eql51 br bv
    have hl := look73 HP.out br
    clear er ev bv br
    by_cases hrv : r = v
    · subst hrv
      have eT : T = .var r := HD.out.fn HV.out
      have fq : (r == r) = true := beq_self_eq_true r
      have ho : occ r T = true := by rw [eT]; show ((r : Int) == r) = true; exact beq_self_eq_true _
      clear hl
      have ho' := ho
      rw [ho]
      rw [fq] at hq
      clear eT ho
      go_enter Tryd.func42, Tryd.ntmps42
      go_wp2_with fail
      refine (c41 HR.out W HN.out).mono ?_
      rintro e _ ⟨rfl, rfl⟩
      go_wp2_with fail
      go_ret
      exact ⟨rfl, D, n, World.grownBy.refl _ _, HP.out, fun h => by rw [ho'] at h; cases h⟩
    · have fq : (r == v) = false := beq_false_of_ne hrv
      rw [fq] at hq
      have hT : T ≠ .var v := fun e => hrv (HO.out.var (e ▸ HD.out))
      have HT := Lib.hid hT
      clear hrv fq hT
      cases hx : D r with
      | some u =>
        obtain ⟨rfl, U, hU, ho⟩ := HM.out r u hx
        have eU : U = T := hU.fn HD.out
        subst eU
        have ho : occ v U = false := ho.resolve_right (Nat.lt_irrefl _)
        rw [hx] at hl
        replace hl : (Instr.lookup 73 (.map (some b)) (ptr r) false).run Tryd.prog W = .ok (.bool true) W := hl
        clear hx hU
        rw [ho]
        clear ho
        go_enter Tryd.func42, Tryd.ntmps42
        go_wp2_with fail
        refine (c41 HR.out W HN.out).mono ?_
        rintro e _ ⟨rfl, rfl⟩
        go_wp2_with fail
        go_ret
        exact ⟨rfl, D, n, World.grownBy.refl _ _, HP.out, fun _ x u h => .inl h⟩
      | none =>
        rw [hx] at hl
        replace hl : (Instr.lookup 73 (.map (some b)) (ptr r) false).run Tryd.prog W = .ok (.bool false) W := hl
        obtain ⟨w1, hst, hp1, hg1⟩ := store73 HP.out BR.out (.bool true)
        rw [hx] at hp1
        have HX := Lib.hid hx
        have HP1 := Lib.hid hp1
        have HG1 := Lib.hid hg1
        clear hx hp1 hg1
        go_enter Tryd.func42, Tryd.ntmps42
        go_wp2_with fail
        refine (c41 HR.out W HN.out).mono ?_
        rintro e _ ⟨rfl, rfl⟩
        go_wp2_with fail
        clear hst hq hl
        obtain ⟨_, l, hparts, hlen, hkid⟩ := HD.out.parts HO.out
        have HK := Lib.hid hkid
        have HL := Lib.hid hlen
        have HPa := Lib.hid hparts
        have hl2 := hparts.len
        clear hkid hlen hparts
        refine (c43 HO.out.rep HPa.out w1 (HN.out.mapped HP.out HG1.out)).mono ?_
        rintro e w2 ⟨A, rfl, hrd, hb2, _⟩
        have HRD := Lib.hid hrd
        have HB2 := Lib.hid hb2
        have HG2 := Lib.hid (HG1.out.trans (grown_of_below hb2 (some b)))
        have HP2 := Lib.hid (HP1.out.next hb2)
        clear hrd hb2
        go_wp2_with fail
        go_loopw [22] (fun i wr => ∃ (k : Nat) (D' : Nat → Option Value) (n' : Nat), k ≤ l.length ∧ i = .int .i64 k ∧ W.grownBy wr (some b) ∧ w2.grownBy wr (some b) ∧ PMap wr b D' n' ∧ Marked N v (fun x => if x = r then some (.bool true) else D x) D' ∧ (T.subs.take k).any (occ v) = false) (fun i _ => l.length - (intOf i).toNat)
        case atStart => exact ⟨0, _, _, by omega, rfl, HG2.out, World.grownBy.refl _ _, HP2.out, Marked.refl, rfl⟩
        case round =>
          obtain ⟨k, D', n', hk, rfl, hg, hg2, hp, hmk, hany⟩ := hrel
          have HGr := Lib.hid hg
          have HG2r := Lib.hid hg2
          have HPr := Lib.hid hp
          have HMr := Lib.hid hmk
          have HAr := Lib.hid hany
          clear hg hg2 hp hmk hany
          by_cases hlt : k < l.length
          · have hl : (k : Int) < (l.length : Int) := by omega
            have hk0 : (0 : Int) ≤ (k : Int) := by omega
            obtain ⟨ad, rfl, _, a0⟩ := (HRD.out.mapped (Nat.le_refl _) HP2.out HG2r.out).ptrAt (List.getElem?_eq_getElem hlt)
            have hsub : k < T.subs.length := by rw [← HL.out]; exact hlt
            obtain ⟨hdk, hrk⟩ := HK.out k _ _ (List.getElem?_eq_getElem hlt) (List.getElem?_eq_getElem hsub)
            have hsz := subs_lt (List.getElem?_eq_getElem hsub)
            have htk : ∀ x, occ v T.subs[k] = x → (T.subs.take (k + 1)).any (occ v) = x := fun x hx => by
              rw [List.take_add_one, List.any_append, HAr.out, List.getElem?_eq_getElem hsub]
              simp [hx]
            have hin : T.subs[k] ∈ T.subs := List.getElem_mem hsub
            generalize T.subs[k] = U at hdk hsz htk hin
            generalize l[k] = x at a0 hdk hrk
            have HDk := Lib.hid hdk
            have HSz := Lib.hid hsz
            have HTk := Lib.hid htk
            have HIn := Lib.hid hin
            clear hdk hrk hsz htk hin
            go_wp2_with fail
            refine (IH.out U x _ b n' D' (by have := HSz.out; have := HS.out; omega) (HN.out.mapped HP.out HGr.out) HDk.out HPr.out (HM.out.part HD.out HMr.out HSz.out)).mono ?_
            rintro e w3 ⟨rfl, D3, n3, hg3, hp3, hm3⟩
            have HG3 := Lib.hid hg3
            have HP3 := Lib.hid hp3
            have HM3 := Lib.hid hm3
            clear hg3 hp3 hm3
            cases ho : occ v U with
            | true =>
              go_wp2_with fail
              go_ret
              have hoT : occ v T = true := by
                rw [occ_subs v T HT.out, List.any_eq_true]
                exact ⟨U, HIn.out, ho⟩
              exact ⟨by rw [hoT]; rfl, D3, n3, HGr.out.trans HG3.out, HP3.out, fun h => by rw [hoT] at h; cases h⟩
            | false =>
              go_wp2_with fail
              go_roundw
              case rel => exact ⟨k + 1, D3, n3, by omega, by go_num, HGr.out.trans HG3.out, HG2r.out.trans HG3.out, HP3.out, HMr.out.trans (HM3.out ho), HTk.out _ ho⟩
              case measure => simp [intOf]; omega
          · have hl : ¬ (k : Int) < (l.length : Int) := by omega
            have hoT : occ v T = false := by
              rw [occ_subs v T HT.out]
              have := HAr.out
              rwa [List.take_of_length_le (by rw [← HL.out]; omega)] at this
            have HoT := Lib.hid hoT
            clear hoT
            go_wp2_with fail
            go_ret
            exact ⟨by rw [HoT.out]; rfl, D', n', HGr.out, HPr.out, fun _ => HMr.out.whole HD.out HoT.out⟩
end Go.Proofs.YtcilodgpbdafeaaDoor
