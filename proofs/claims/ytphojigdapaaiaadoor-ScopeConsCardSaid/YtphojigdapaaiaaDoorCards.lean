/-
  DERIVED. GIVEN WITH THE SEED: THE CARDS: each row of YtphojigdapaaiaaDoorRows.lean that lists a variable, with what it lists TIED to the program's text (the seventh form; the later family's looks); each row that meets fmt, with fmt's text TOLD by the authors' own Lean function (tested against real Go, not proved from fmt's source: count such statements apart). THE CARD IS WHAT COUNTS. Prove the row's statement (the work); the ties are given (YtphojigdapaaiaaDoorTie.lean); close each card by the builder's one call (the guide's Derived/Test/ToyasCard.lean, 'card_holds'). Laid BY PROGRAM, IN A SANDBOX (cutbox-door.mjs). By AI agents, Wed Nov 11 2026. No macro, syntax, notation, axiom, sorry.
-/
import Derived.Test.YtphojigdapaaiaaDoorRows
import GoSem.ClaimSeven
namespace Go.Proofs.YtphojigdapaaiaaDoor
namespace Rows

/-- THE TIED CARD OF 'stockpotlaw15.AstLeaves'. -/
def astLeavesCard : Claim7 := { stood := { row := astLeavesRow, standIns := [], harness := (true, "333414709dfcfba15c7944b95d122b4ffeed5a9dfec3c57789d22be683dcdbe2"), looks := false }, kinds := [], alts := [], laidByText := true, laidKinds := [.widerDeep, .data], laidTests := true, laidLooks := .later }
def AstLeavesCardSaid : Prop := Claim7.holds Tryd.pinned (.plain (OpenSpec.ofChange astLeavesSpec)) astLeavesCard

/-- THE TIED CARD OF 'stockpotlaw18.ScopeBinds'. -/
def scopeBindsCard : Claim7 := { stood := { row := scopeBindsRow, standIns := [], harness := (true, "333414709dfcfba15c7944b95d122b4ffeed5a9dfec3c57789d22be683dcdbe2"), looks := false }, kinds := [], alts := [], laidByText := true, laidKinds := [.widerDeep, .data], laidTests := true, laidLooks := .later }
def ScopeBindsCardSaid : Prop := Claim7.holds Tryd.pinned (.plain (OpenSpec.ofChange scopeBindsSpec)) scopeBindsCard

/-- THE TIED CARD OF 'stockpotlaw18.ScopeCons'. -/
def scopeConsCard : Claim7 := { stood := { row := scopeConsRow, standIns := [], harness := (true, "333414709dfcfba15c7944b95d122b4ffeed5a9dfec3c57789d22be683dcdbe2"), looks := false }, kinds := [], alts := [], laidByText := true, laidKinds := [.widerDeep, .data], laidTests := true, laidLooks := .later }
def ScopeConsCardSaid : Prop := Claim7.holds Tryd.pinned (.plain (OpenSpec.ofChange scopeConsSpec)) scopeConsCard

/-- THE SECOND FORM's CARD OF 'stockpotlaw15.AstLeaves'. -/
def astLeavesUptoCard : Claim7 := { stood := { row := astLeavesUptoRow, standIns := [], harness := (true, "333414709dfcfba15c7944b95d122b4ffeed5a9dfec3c57789d22be683dcdbe2"), looks := false }, kinds := [], alts := [], laidByText := true, laidKinds := [.widerDeep, .data], laidTests := true, laidLooks := .later }
def AstLeavesUptoCardSaid : Prop := Claim7.holds Tryd.pinned (.plain (OpenSpec.upto astLeavesSpec)) astLeavesUptoCard

/-- THE SECOND FORM's CARD OF 'stockpotlaw18.ScopeCons'. -/
def scopeConsUptoCard : Claim7 := { stood := { row := scopeConsUptoRow, standIns := [], harness := (true, "333414709dfcfba15c7944b95d122b4ffeed5a9dfec3c57789d22be683dcdbe2"), looks := false }, kinds := [], alts := [], laidByText := true, laidKinds := [.widerDeep, .data], laidTests := true, laidLooks := .later }
def ScopeConsUptoCardSaid : Prop := Claim7.holds Tryd.pinned (.plain (OpenSpec.upto scopeConsSpec)) scopeConsUptoCard
end Rows
end Go.Proofs.YtphojigdapaaiaaDoor
