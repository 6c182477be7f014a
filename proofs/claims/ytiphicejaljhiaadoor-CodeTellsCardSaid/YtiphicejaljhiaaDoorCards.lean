/-
  DERIVED. GIVEN WITH THE SEED: THE CARDS: each row of YtiphicejaljhiaaDoorRows.lean that lists a variable, with what it lists TIED to the program's text (the seventh form; the later family's looks); each row that meets fmt, with fmt's text TOLD by the authors' own Lean function (tested against real Go, not proved from fmt's source: count such statements apart). THE CARD IS WHAT COUNTS. Prove the row's statement (the work); the ties are given (YtiphicejaljhiaaDoorTie.lean); close each card by the builder's one call (the guide's Derived/Test/ToyasCard.lean, 'card_holds'). Laid BY PROGRAM, IN A SANDBOX (cutbox-door.mjs). By AI agents, Wed Nov 11 2026. No macro, syntax, notation, axiom, sorry.
-/
import Derived.Test.YtiphicejaljhiaaDoorRows
import GoSem.ClaimSeven
namespace Go.Proofs.YtiphicejaljhiaaDoor
namespace Rows

/-- THE TIED CARD OF 'stockpotlaw06.OpTells'. -/
def opTellsCard : Claim7 := { stood := { row := opTellsRow, standIns := [], harness := (true, "eadffef7d8b34f4617edbad2cb636bf96ee9eb540a9151bff8eba8e14b9df038"), looks := false }, kinds := [], alts := [], laidByText := true, laidKinds := [.data], laidTests := true, laidLooks := .later }
def OpTellsCardSaid : Prop := Claim7.holds Tryd.pinned (.plain (OpenSpec.ofChange opTellsSpec)) opTellsCard

/-- THE TIED CARD OF 'stockpotlaw06.OpNames'. -/
def opNamesCard : Claim7 := { stood := { row := opNamesRow, standIns := [], harness := (true, "eadffef7d8b34f4617edbad2cb636bf96ee9eb540a9151bff8eba8e14b9df038"), looks := false }, kinds := [], alts := [], laidByText := true, laidKinds := [.data], laidTests := true, laidLooks := .later }
def OpNamesCardSaid : Prop := Claim7.holds Tryd.pinned (.plain (OpenSpec.ofChange opNamesSpec)) opNamesCard

/-- THE TIED CARD OF 'stockpotlaw06.OpEffects'. -/
def opEffectsCard : Claim7 := { stood := { row := opEffectsRow, standIns := [], harness := (true, "eadffef7d8b34f4617edbad2cb636bf96ee9eb540a9151bff8eba8e14b9df038"), looks := false }, kinds := [], alts := [], laidByText := true, laidKinds := [.data], laidTests := true, laidLooks := .later }
def OpEffectsCardSaid : Prop := Claim7.holds Tryd.pinned (.plain (OpenSpec.ofChange opEffectsSpec)) opEffectsCard

/-- THE TIED CARD OF 'stockpotlaw06.OpStrange'. -/
def opStrangeCard : Claim7 := { stood := { row := opStrangeRow, standIns := [], harness := (true, "eadffef7d8b34f4617edbad2cb636bf96ee9eb540a9151bff8eba8e14b9df038"), looks := false }, kinds := [], alts := [], laidByText := true, laidKinds := [.data], laidTests := true, laidLooks := .later }
def OpStrangeCardSaid : Prop := Claim7.holds Tryd.pinned (.plain (OpenSpec.ofChange opStrangeSpec)) opStrangeCard

/-- THE TIED CARD OF 'stockpotlaw07.CodeTells'. -/
def codeTellsCard : Claim7 := { stood := { row := codeTellsRow, standIns := [], harness := (true, "eadffef7d8b34f4617edbad2cb636bf96ee9eb540a9151bff8eba8e14b9df038"), looks := false }, kinds := [], alts := [], laidByText := true, laidKinds := [.data, .data, .data], laidTests := true, laidLooks := .later }
def CodeTellsCardSaid : Prop := Claim7.holds Tryd.pinned (.plain (OpenSpec.ofChange codeTellsSpec)) codeTellsCard

/-- THE TIED CARD OF 'stockpotlaw07.CodeBack'. -/
def codeBackCard : Claim7 := { stood := { row := codeBackRow, standIns := [], harness := (true, "eadffef7d8b34f4617edbad2cb636bf96ee9eb540a9151bff8eba8e14b9df038"), looks := false }, kinds := [], alts := [], laidByText := true, laidKinds := [.data, .data, .data], laidTests := true, laidLooks := .later }
def CodeBackCardSaid : Prop := Claim7.holds Tryd.pinned (.plain (OpenSpec.ofChange codeBackSpec)) codeBackCard

/-- THE TIED CARD OF 'stockpotlaw07.CodeLengths'. -/
def codeLengthsCard : Claim7 := { stood := { row := codeLengthsRow, standIns := [], harness := (true, "eadffef7d8b34f4617edbad2cb636bf96ee9eb540a9151bff8eba8e14b9df038"), looks := false }, kinds := [], alts := [], laidByText := true, laidKinds := [.data, .data, .data], laidTests := true, laidLooks := .later }
def CodeLengthsCardSaid : Prop := Claim7.holds Tryd.pinned (.plain (OpenSpec.ofChange codeLengthsSpec)) codeLengthsCard

/-- THE TIED CARD OF 'stockpotlaw07.CodeSpoilt'. -/
def codeSpoiltCard : Claim7 := { stood := { row := codeSpoiltRow, standIns := [], harness := (true, "eadffef7d8b34f4617edbad2cb636bf96ee9eb540a9151bff8eba8e14b9df038"), looks := false }, kinds := [], alts := [], laidByText := true, laidKinds := [.data, .data, .data], laidTests := true, laidLooks := .later }
def CodeSpoiltCardSaid : Prop := Claim7.holds Tryd.pinned (.plain (OpenSpec.ofChange codeSpoiltSpec)) codeSpoiltCard

/-- THE TIED CARD OF 'stockpotlaw08.VerifyTells'. -/
def verifyTellsCard : Claim7 := { stood := { row := verifyTellsRow, standIns := [], harness := (true, "eadffef7d8b34f4617edbad2cb636bf96ee9eb540a9151bff8eba8e14b9df038"), looks := false }, kinds := [], alts := [], laidByText := true, laidKinds := [.data, .data], laidTests := true, laidLooks := .later }
def VerifyTellsCardSaid : Prop := Claim7.holds Tryd.pinned (.plain (OpenSpec.ofChange verifyTellsSpec)) verifyTellsCard

/-- THE TIED CARD OF 'stockpotlaw08.VerifyFlows'. -/
def verifyFlowsCard : Claim7 := { stood := { row := verifyFlowsRow, standIns := [], harness := (true, "eadffef7d8b34f4617edbad2cb636bf96ee9eb540a9151bff8eba8e14b9df038"), looks := false }, kinds := [], alts := [], laidByText := true, laidKinds := [.data, .data], laidTests := true, laidLooks := .later }
def VerifyFlowsCardSaid : Prop := Claim7.holds Tryd.pinned (.plain (OpenSpec.ofChange verifyFlowsSpec)) verifyFlowsCard

/-- THE TIED CARD OF 'stockpotlaw08.VerifyMore'. -/
def verifyMoreCard : Claim7 := { stood := { row := verifyMoreRow, standIns := [], harness := (true, "eadffef7d8b34f4617edbad2cb636bf96ee9eb540a9151bff8eba8e14b9df038"), looks := false }, kinds := [], alts := [], laidByText := true, laidKinds := [.data, .data], laidTests := true, laidLooks := .later }
def VerifyMoreCardSaid : Prop := Claim7.holds Tryd.pinned (.plain (OpenSpec.ofChange verifyMoreSpec)) verifyMoreCard

/-- THE TIED CARD OF 'stockpotlaw08.VerifyBounds'. -/
def verifyBoundsCard : Claim7 := { stood := { row := verifyBoundsRow, standIns := [], harness := (true, "eadffef7d8b34f4617edbad2cb636bf96ee9eb540a9151bff8eba8e14b9df038"), looks := false }, kinds := [], alts := [], laidByText := true, laidKinds := [.data, .data], laidTests := true, laidLooks := .later }
def VerifyBoundsCardSaid : Prop := Claim7.holds Tryd.pinned (.plain (OpenSpec.ofChange verifyBoundsSpec)) verifyBoundsCard

/-- THE SECOND FORM's CARD OF 'stockpotlaw06.OpTells'. -/
def opTellsUptoCard : Claim7 := { stood := { row := opTellsUptoRow, standIns := [], harness := (true, "eadffef7d8b34f4617edbad2cb636bf96ee9eb540a9151bff8eba8e14b9df038"), looks := false }, kinds := [], alts := [], laidByText := true, laidKinds := [.data], laidTests := true, laidLooks := .later }
def OpTellsUptoCardSaid : Prop := Claim7.holds Tryd.pinned (.plain (OpenSpec.upto opTellsSpec)) opTellsUptoCard

/-- THE SECOND FORM's CARD OF 'stockpotlaw06.OpNames'. -/
def opNamesUptoCard : Claim7 := { stood := { row := opNamesUptoRow, standIns := [], harness := (true, "eadffef7d8b34f4617edbad2cb636bf96ee9eb540a9151bff8eba8e14b9df038"), looks := false }, kinds := [], alts := [], laidByText := true, laidKinds := [.data], laidTests := true, laidLooks := .later }
def OpNamesUptoCardSaid : Prop := Claim7.holds Tryd.pinned (.plain (OpenSpec.upto opNamesSpec)) opNamesUptoCard

/-- THE SECOND FORM's CARD OF 'stockpotlaw06.OpEffects'. -/
def opEffectsUptoCard : Claim7 := { stood := { row := opEffectsUptoRow, standIns := [], harness := (true, "eadffef7d8b34f4617edbad2cb636bf96ee9eb540a9151bff8eba8e14b9df038"), looks := false }, kinds := [], alts := [], laidByText := true, laidKinds := [.data], laidTests := true, laidLooks := .later }
def OpEffectsUptoCardSaid : Prop := Claim7.holds Tryd.pinned (.plain (OpenSpec.upto opEffectsSpec)) opEffectsUptoCard

/-- THE SECOND FORM's CARD OF 'stockpotlaw06.OpStrange'. -/
def opStrangeUptoCard : Claim7 := { stood := { row := opStrangeUptoRow, standIns := [], harness := (true, "eadffef7d8b34f4617edbad2cb636bf96ee9eb540a9151bff8eba8e14b9df038"), looks := false }, kinds := [], alts := [], laidByText := true, laidKinds := [.data], laidTests := true, laidLooks := .later }
def OpStrangeUptoCardSaid : Prop := Claim7.holds Tryd.pinned (.plain (OpenSpec.upto opStrangeSpec)) opStrangeUptoCard

/-- THE SECOND FORM's CARD OF 'stockpotlaw07.CodeTells'. -/
def codeTellsUptoCard : Claim7 := { stood := { row := codeTellsUptoRow, standIns := [], harness := (true, "eadffef7d8b34f4617edbad2cb636bf96ee9eb540a9151bff8eba8e14b9df038"), looks := false }, kinds := [], alts := [], laidByText := true, laidKinds := [.data, .data, .data], laidTests := true, laidLooks := .later }
def CodeTellsUptoCardSaid : Prop := Claim7.holds Tryd.pinned (.plain (OpenSpec.upto codeTellsSpec)) codeTellsUptoCard

/-- THE SECOND FORM's CARD OF 'stockpotlaw07.CodeBack'. -/
def codeBackUptoCard : Claim7 := { stood := { row := codeBackUptoRow, standIns := [], harness := (true, "eadffef7d8b34f4617edbad2cb636bf96ee9eb540a9151bff8eba8e14b9df038"), looks := false }, kinds := [], alts := [], laidByText := true, laidKinds := [.data, .data, .data], laidTests := true, laidLooks := .later }
def CodeBackUptoCardSaid : Prop := Claim7.holds Tryd.pinned (.plain (OpenSpec.upto codeBackSpec)) codeBackUptoCard

/-- THE SECOND FORM's CARD OF 'stockpotlaw07.CodeLengths'. -/
def codeLengthsUptoCard : Claim7 := { stood := { row := codeLengthsUptoRow, standIns := [], harness := (true, "eadffef7d8b34f4617edbad2cb636bf96ee9eb540a9151bff8eba8e14b9df038"), looks := false }, kinds := [], alts := [], laidByText := true, laidKinds := [.data, .data, .data], laidTests := true, laidLooks := .later }
def CodeLengthsUptoCardSaid : Prop := Claim7.holds Tryd.pinned (.plain (OpenSpec.upto codeLengthsSpec)) codeLengthsUptoCard

/-- THE SECOND FORM's CARD OF 'stockpotlaw07.CodeSpoilt'. -/
def codeSpoiltUptoCard : Claim7 := { stood := { row := codeSpoiltUptoRow, standIns := [], harness := (true, "eadffef7d8b34f4617edbad2cb636bf96ee9eb540a9151bff8eba8e14b9df038"), looks := false }, kinds := [], alts := [], laidByText := true, laidKinds := [.data, .data, .data], laidTests := true, laidLooks := .later }
def CodeSpoiltUptoCardSaid : Prop := Claim7.holds Tryd.pinned (.plain (OpenSpec.upto codeSpoiltSpec)) codeSpoiltUptoCard

/-- THE SECOND FORM's CARD OF 'stockpotlaw08.VerifyTells'. -/
def verifyTellsUptoCard : Claim7 := { stood := { row := verifyTellsUptoRow, standIns := [], harness := (true, "eadffef7d8b34f4617edbad2cb636bf96ee9eb540a9151bff8eba8e14b9df038"), looks := false }, kinds := [], alts := [], laidByText := true, laidKinds := [.data, .data], laidTests := true, laidLooks := .later }
def VerifyTellsUptoCardSaid : Prop := Claim7.holds Tryd.pinned (.plain (OpenSpec.upto verifyTellsSpec)) verifyTellsUptoCard

/-- THE SECOND FORM's CARD OF 'stockpotlaw08.VerifyFlows'. -/
def verifyFlowsUptoCard : Claim7 := { stood := { row := verifyFlowsUptoRow, standIns := [], harness := (true, "eadffef7d8b34f4617edbad2cb636bf96ee9eb540a9151bff8eba8e14b9df038"), looks := false }, kinds := [], alts := [], laidByText := true, laidKinds := [.data, .data], laidTests := true, laidLooks := .later }
def VerifyFlowsUptoCardSaid : Prop := Claim7.holds Tryd.pinned (.plain (OpenSpec.upto verifyFlowsSpec)) verifyFlowsUptoCard

/-- THE SECOND FORM's CARD OF 'stockpotlaw08.VerifyMore'. -/
def verifyMoreUptoCard : Claim7 := { stood := { row := verifyMoreUptoRow, standIns := [], harness := (true, "eadffef7d8b34f4617edbad2cb636bf96ee9eb540a9151bff8eba8e14b9df038"), looks := false }, kinds := [], alts := [], laidByText := true, laidKinds := [.data, .data], laidTests := true, laidLooks := .later }
def VerifyMoreUptoCardSaid : Prop := Claim7.holds Tryd.pinned (.plain (OpenSpec.upto verifyMoreSpec)) verifyMoreUptoCard

/-- THE SECOND FORM's CARD OF 'stockpotlaw08.VerifyBounds'. -/
def verifyBoundsUptoCard : Claim7 := { stood := { row := verifyBoundsUptoRow, standIns := [], harness := (true, "eadffef7d8b34f4617edbad2cb636bf96ee9eb540a9151bff8eba8e14b9df038"), looks := false }, kinds := [], alts := [], laidByText := true, laidKinds := [.data, .data], laidTests := true, laidLooks := .later }
def VerifyBoundsUptoCardSaid : Prop := Claim7.holds Tryd.pinned (.plain (OpenSpec.upto verifyBoundsSpec)) verifyBoundsUptoCard
end Rows
end Go.Proofs.YtiphicejaljhiaaDoor
