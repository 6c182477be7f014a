/- Proved: stockpotlaw18.ScopeBinds returns true whatever its arguments are, and the arguments read afterwards as they read before, in every world in which the row's tables hold what their initialisers lay. Conditions: those that the row itself lays down (calm; the clocks alone may advance); the walk uses neither. -/
import Derived.Test.YtphojigdapaaiaaDoorCards
import Derived.Test.YtphojigdapaaiaaDoorTie
import Derived.Test.YtphojigdapaaiaaDoorZBp
import Derived.Test.YtphojigdapaaiaaDoorZBq
import Derived.Deep.DeepHandedRow
import Derived.Lib.LaidTab
import Derived.Lib.SmallJoins
import Derived.ChangeMaps5
import Derived.Clock
import Derived.Lay
import Derived.LaidMore
namespace Go.Proofs.YtphojigdapaaiaaDoor.lawScopeBinds
open Go.ChangeShapes Go.WideShapes Go.ChangeAt Go.RowKit Go.Clock
set_option linter.unusedVariables false

set_option maxRecDepth 100000 in
/-- WHAT THE WALK GIVES, for every argument and every world that holds the tables. -/
theorem contract (H : Type) (enc : TypeId × Value → H) (W : World) (base : Nat) (args : Array Value) (ds gs : List (DataW H)) (before : List MemPlace)
    (hval : ∀ (j : Nat) t v, Tryd.f4.params[j]? = some t → args[j]? = some v → Value.okWide Tryd.prog W .any base t v)
    (hW : DataW.Whole enc Tryd.prog Tryd.f4.params.toList Rows.scopeBindsSpec.vars false W args.toList ds gs before) (hz : (DataW.weightsEach Tryd.prog (Tryd.f4.params.toList ++ []) (ds ++ gs)).all (· ≤ reachBytes) = true) (hL : laidMetH Tryd.prog Rows.scopeBindsRow.laid W)
    (hsh : W.ShapedOpen Tryd.prog) :
    Calls Tryd.prog 4 args W fun e W' => ∃ v, e = .returned v ∧ Rows.scopeBindsSpec.post enc Tryd.prog Tryd.f4 false true false false W args v W' ∧ W'.os = W.os := by
  have hT : Tabs W := tabs_of hsh hL
  obtain ⟨tab, hT⟩ := hT.rows
  have hW' := hW
  obtain ⟨p, q, hA0, hV, rfl, hfz, hnd⟩ := hW
  have hA : DataW.TrodAll enc Tryd.prog W 0 (fun _ => true) true Tryd.f4.params.toList args.toList ds p := hA0
  rw [Tryd.params4] at hA hval hz
  obtain ⟨v0, vs0, d0, ds0, p0, q0, hargs, rfl, rfl, h0, r0⟩ := trodAll_cons hA
  obtain ⟨v1, vs1, d1, ds1, p1, q1, rfl, rfl, rfl, h1, r1⟩ := trodAll_cons r0
  obtain ⟨rfl, rfl, rfl⟩ := trodAll_nil r1
  obtain rfl : args = #[v0, v1] := by cases args; simp_all
  obtain ⟨rfl, rfl⟩ := trodVars_none hV
  obtain ⟨A, A', c, c', t, rfl, hq⟩ := open_tree (hval 0 25 v0 rfl rfl) h0 (fun m hm => by have h := List.all_eq_true.1 hz m (DataW.weights_mem_each (j := 0) (t := 25) (d := d0) rfl rfl m hm); simpa using h)
  obtain ⟨s, rfl, rfl, _, hs⟩ := Go.ChangeMaps.open_string Tryd.underlying9 (hval 1 9 v1 rfl rfl) h1
  clear hA0
  have hs' : s.data.toList.length ≤ 281474976710656 := by
    have h := List.all_eq_true.1 hz s.data.toList.length (DataW.weights_mem_each (j := 1) (t := 9) (d := .lit (.string s.data.toList)) rfl rfl _ (by show s.data.toList.length ∈ [s.data.toList.length]; exact List.mem_singleton.2 rfl))
    simp only [decide_eq_true_eq] at h
    unfold reachBytes at h
    omega
  refine (show Calls Tryd.prog 4 #[treV A c A' c' t, .string s] W _ from c4 t s.data.toList A A' c c' W hq hT hs').mono fun e W' ⟨he, hb⟩ => ?_
  subst he
  exact ⟨_, rfl, law_post (tb := 4) laidOut (by rw [Tryd.params4]; exact of_decide_eq_true (by kernel_rfl)) rfl Tryd.underlying4 rfl hW' rfl rfl rfl hb, hb.os⟩

/-- A block of cells with other cells. -/
def putRow (cs : Array Value) : Obj → Obj
  | .cells _ t frozen => .cells cs t frozen
  | o => o
/-- A WORLD FOR THE WITNESS: the settled one, the tables holding what their initialisers lay. -/
noncomputable def laidWorld (os : Os) : World :=
  { World.holding Tryd.prog os ⟨#[], #[], []⟩ with heap := (((World.holding Tryd.prog os ⟨#[], #[], []⟩).heap.modify 2 (putRow (wordsL.map strV).toArray)).modify 0 (putRow (rowsL.flatMap rowC).toArray)) }
noncomputable def arg0 : Value := .agg #[.slice none 0 0, .slice none 0 0, .int .i64 0]
theorem laid_met (os : Os) : laidMet Tryd.prog Rows.scopeBindsRow.laid ((laidWorld os).forCall (fun _ _ => 0) ⟨#[], #[arg0, .string ⟨#[]⟩], []⟩).memory :=
  laidMet_of_run' 8 (by kernel_rfl) (by kernel_rfl)

set_option maxRecDepth 100000 in
theorem lifted (os : Os) (started : os.Started) (H : Type) (enc : TypeId × Value → H) (F : Stop.Interp) :
    ReturnsInHanded { calm := true } Tryd.checked os 4 .any (fun w args => (Rows.scopeBindsSpec.pre enc Tryd.prog Tryd.f4 [] false w args ∧ laidMetH Tryd.prog Rows.scopeBindsRow.laid w) ∧ sizedMet enc Tryd.prog Tryd.f4 (OpenSpec.ofChange Rows.scopeBindsSpec) false w args)
      ((OpenSpec.ofChange Rows.scopeBindsSpec).postWith enc Tryd.prog Tryd.f4 F (outsideKept [.timePasses]) false true false) := by
  refine returns_of_change (C := Tryd.checked) (X := fun w _ => laidMetH Tryd.prog Rows.scopeBindsRow.laid w) (fun _ _ _ hh h => h.of_heap hh) own started (by kernel_rfl) Tryd.func4
    (witness_at (enc := enc) (C := Tryd.checked) (X := fun w _ => laidMetH Tryd.prog Rows.scopeBindsRow.laid w) (laidWorld os) #[arg0, .string ⟨#[]⟩] 8 rfl (World.shaped_of_ZipB (by kernel_rfl) (by kernel_rfl)) (by kernel_rfl) (by kernel_rfl) (by kernel_rfl)
      (by rw [MakeChecks.laidMetH_plain _ _ _ (by kernel_rfl)]; exact laid_met os)) ?_
  intro W base args ds gs before hval hW _ hz hL hsh
  refine (contract H enc W base args ds gs before hval hW hz hL hsh).mono fun e W' ⟨v, he, hp, ho⟩ => ⟨v, he, ?_, by rw [ho]; exact Later.refl _⟩
  rw [show ({ W' with os := W.os } : World) = W' by rw [← ho]]
  exact hp

theorem said : Rows.ScopeBindsSaid :=
  holds_of_wide_time 4 Tryd.f4 rfl rfl rfl rfl rfl rfl rfl ⟨rfl, rfl, rfl, rfl, rfl⟩ rfl rfl rfl rfl rfl (by kernel_rfl) Tryd.func4 (by kernel_rfl)
    (of_decide_eq_true (by kernel_rfl)) (by unfold Func.isWrapper; first | (rw [if_pos (by decide +kernel)]; kernel_rfl) | (rw [if_neg (by decide +kernel)]; exact ⟨rfl, rfl⟩))
    (fun os started H enc _ F => lifted os started H enc F)

/-- No parameter wants a stand-in; the program's own looks are off. -/
theorem plain (f : FuncId) (fn : Func) (hf : Tryd.pinned.checked.prog.funcNamed "stockpot/stockpotlaw18.ScopeBinds" = some f) (hfn : Tryd.pinned.checked.prog.funcs[f]? = some fn) :
    false = Tryd.pinned.checked.prog.looks [] ∧ ∀ (j : Nat) t, fn.params[j]? = some t → Tryd.pinned.checked.prog.wantsStandIn t = false := by
  obtain rfl : f = 4 := Option.some.inj ((show Tryd.prog.funcNamed "stockpot/stockpotlaw18.ScopeBinds" = some 4 by kernel_rfl).symm.trans hf) |>.symm
  obtain rfl : fn = Tryd.f4 := (Option.some.inj (Tryd.func4.symm.trans hfn)).symm
  refine ⟨by kernel_rfl, fun j t ht => ?_⟩
  rw [Tryd.params4] at ht
  have hm : t ∈ [25, 9] := by simpa using Array.mem_of_getElem? ht
  have hall : ([25, 9].all fun u => !Tryd.prog.wantsStandIn u) = true := by kernel_rfl
  exact (show Tryd.prog.wantsStandIn t = false by simpa using List.all_eq_true.1 hall t hm)

theorem proved : Rows.ScopeBindsCardSaid :=
  Claim7.holds_tied_plain_at .later [] _ _ _ _ said (fun _ h => by cases h) (by kernel_rfl) (fun _ h => by cases h) scopeBinds_row_tie rfl ⟨rfl, rfl⟩ (by kernel_rfl) rfl plain (by kernel_rfl)
end Go.Proofs.YtphojigdapaaiaaDoor.lawScopeBinds
