/-
  DERIVED. GIVEN WITH THE SEED: THE CARDS: each row of YtcilodgpbdafeaaDoorRows.lean that lists a variable, with what it lists TIED to the program's text (the seventh form; the later family's looks); each row that meets fmt, with fmt's text TOLD by the authors' own Lean function (tested against real Go, not proved from fmt's source: count such statements apart). THE CARD IS WHAT COUNTS. Prove the row's statement (the work); the ties are given (YtcilodgpbdafeaaDoorTie.lean); close each card by the builder's one call (the guide's Derived/Test/ToyasCard.lean, 'card_holds'). Laid BY PROGRAM, IN A SANDBOX (cutbox-door.mjs). By AI agents, Wed Nov 11 2026. No macro, syntax, notation, axiom, sorry.
-/
import Derived.Test.YtcilodgpbdafeaaDoorRows
import GoSem.ClaimSeven
namespace Go.Proofs.YtcilodgpbdafeaaDoor
namespace Rows

/-- THE TIED CARD OF 'stockpotlaw19.TypesBuild'. -/
def typesBuildCard : Claim7 := { stood := { row := typesBuildRow, standIns := [], harness := (true, "f489f75954540794b243314643ca69a930d1c60b0bc4717f6049be88a4bf0dd7"), looks := false }, kinds := [], alts := [], laidByText := true, laidKinds := [.data, .data, .data, .data], laidTests := true, laidLooks := .later }
def TypesBuildCardSaid : Prop := Claim7.holds Tryd.pinned (.plain (OpenSpec.ofChange typesBuildSpec)) typesBuildCard

/-- THE TIED CARD OF 'stockpotlaw19.TypesOrder'. -/
def typesOrderCard : Claim7 := { stood := { row := typesOrderRow, standIns := [], harness := (true, "f489f75954540794b243314643ca69a930d1c60b0bc4717f6049be88a4bf0dd7"), looks := false }, kinds := [], alts := [], laidByText := true, laidKinds := [.data, .data, .data, .data], laidTests := true, laidLooks := .later }
def TypesOrderCardSaid : Prop := Claim7.holds Tryd.pinned (.plain (OpenSpec.ofChange typesOrderSpec)) typesOrderCard

/-- THE TIED CARD OF 'stockpotlaw19.TypesTell'. -/
def typesTellCard : Claim7 := { stood := { row := typesTellRow, standIns := [], harness := (true, "f489f75954540794b243314643ca69a930d1c60b0bc4717f6049be88a4bf0dd7"), looks := false }, kinds := [], alts := [], laidByText := true, laidKinds := [.data, .data, .data, .data], laidTests := true, laidLooks := .later }
def TypesTellCardSaid : Prop := Claim7.holds Tryd.pinned (.plain (OpenSpec.ofChange typesTellSpec)) typesTellCard

/-- THE TIED CARD OF 'stockpotlaw19.TypesMeet'. -/
def typesMeetCard : Claim7 := { stood := { row := typesMeetRow, standIns := [], harness := (true, "f489f75954540794b243314643ca69a930d1c60b0bc4717f6049be88a4bf0dd7"), looks := false }, kinds := [], alts := [], laidByText := true, laidKinds := [.data, .data, .data, .data], laidTests := true, laidLooks := .later }
def TypesMeetCardSaid : Prop := Claim7.holds Tryd.pinned (.plain (OpenSpec.ofChange typesMeetSpec)) typesMeetCard

/-- THE TIED CARD OF 'stockpotlaw19.TypesNormal'. -/
def typesNormalCard : Claim7 := { stood := { row := typesNormalRow, standIns := [], harness := (true, "f489f75954540794b243314643ca69a930d1c60b0bc4717f6049be88a4bf0dd7"), looks := false }, kinds := [], alts := [], laidByText := true, laidKinds := [.data, .data, .data, .data], laidTests := true, laidLooks := .later }
def TypesNormalCardSaid : Prop := Claim7.holds Tryd.pinned (.plain (OpenSpec.ofChange typesNormalSpec)) typesNormalCard

/-- THE SECOND FORM's CARD OF 'stockpotlaw19.TypesBuild'. -/
def typesBuildUptoCard : Claim7 := { stood := { row := typesBuildUptoRow, standIns := [], harness := (true, "f489f75954540794b243314643ca69a930d1c60b0bc4717f6049be88a4bf0dd7"), looks := false }, kinds := [], alts := [], laidByText := true, laidKinds := [.data, .data, .data, .data], laidTests := true, laidLooks := .later }
def TypesBuildUptoCardSaid : Prop := Claim7.holds Tryd.pinned (.plain (OpenSpec.upto typesBuildSpec)) typesBuildUptoCard

/-- THE SECOND FORM's CARD OF 'stockpotlaw19.TypesOrder'. -/
def typesOrderUptoCard : Claim7 := { stood := { row := typesOrderUptoRow, standIns := [], harness := (true, "f489f75954540794b243314643ca69a930d1c60b0bc4717f6049be88a4bf0dd7"), looks := false }, kinds := [], alts := [], laidByText := true, laidKinds := [.data, .data, .data, .data], laidTests := true, laidLooks := .later }
def TypesOrderUptoCardSaid : Prop := Claim7.holds Tryd.pinned (.plain (OpenSpec.upto typesOrderSpec)) typesOrderUptoCard

/-- THE SECOND FORM's CARD OF 'stockpotlaw19.TypesTell'. -/
def typesTellUptoCard : Claim7 := { stood := { row := typesTellUptoRow, standIns := [], harness := (true, "f489f75954540794b243314643ca69a930d1c60b0bc4717f6049be88a4bf0dd7"), looks := false }, kinds := [], alts := [], laidByText := true, laidKinds := [.data, .data, .data, .data], laidTests := true, laidLooks := .later }
def TypesTellUptoCardSaid : Prop := Claim7.holds Tryd.pinned (.plain (OpenSpec.upto typesTellSpec)) typesTellUptoCard

/-- THE SECOND FORM's CARD OF 'stockpotlaw19.TypesMeet'. -/
def typesMeetUptoCard : Claim7 := { stood := { row := typesMeetUptoRow, standIns := [], harness := (true, "f489f75954540794b243314643ca69a930d1c60b0bc4717f6049be88a4bf0dd7"), looks := false }, kinds := [], alts := [], laidByText := true, laidKinds := [.data, .data, .data, .data], laidTests := true, laidLooks := .later }
def TypesMeetUptoCardSaid : Prop := Claim7.holds Tryd.pinned (.plain (OpenSpec.upto typesMeetSpec)) typesMeetUptoCard

/-- THE SECOND FORM's CARD OF 'stockpotlaw19.TypesNormal'. -/
def typesNormalUptoCard : Claim7 := { stood := { row := typesNormalUptoRow, standIns := [], harness := (true, "f489f75954540794b243314643ca69a930d1c60b0bc4717f6049be88a4bf0dd7"), looks := false }, kinds := [], alts := [], laidByText := true, laidKinds := [.data, .data, .data, .data], laidTests := true, laidLooks := .later }
def TypesNormalUptoCardSaid : Prop := Claim7.holds Tryd.pinned (.plain (OpenSpec.upto typesNormalSpec)) typesNormalUptoCard
end Rows
end Go.Proofs.YtcilodgpbdafeaaDoor
