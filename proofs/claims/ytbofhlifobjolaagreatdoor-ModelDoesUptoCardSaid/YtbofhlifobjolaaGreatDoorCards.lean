/-
  DERIVED. GIVEN WITH THE SEED: THE CARDS: each row of YtbofhlifobjolaaGreatDoorRows.lean that lists a variable, with what it lists TIED to the program's text (the seventh form; the later family's looks); each row that meets fmt, with fmt's text TOLD by the authors' own Lean function (tested against real Go, not proved from fmt's source: count such statements apart). THE CARD IS WHAT COUNTS. Prove the row's statement (the work); the ties are given (YtbofhlifobjolaaGreatDoorTie.lean); close each card by the builder's one call (the guide's Derived/Test/ToyasCard.lean, 'card_holds'). Laid BY PROGRAM, IN A SANDBOX (cutbox-door.mjs). By AI agents, Wed Nov 11 2026. No macro, syntax, notation, axiom, sorry.
-/
import Derived.Test.YtbofhlifobjolaaGreatDoorRows
import GoSem.ClaimSeven
namespace Go.Proofs.YtbofhlifobjolaaGreatDoor
namespace Rows

/-- THE TIED CARD OF 'cartularylaw14.ModelDoes'. -/
def modelDoesCard : Claim7 := { stood := { row := modelDoesRow, standIns := [], harness := (true, "55f3668c6e80a6c2fd0819e91a7b86484ecf9adcadcd20cf6ea74f97887cf546"), looks := true }, kinds := [], alts := [], laidByText := true, laidKinds := [.data, .pinned], laidTests := true, laidLooks := .later }
def ModelDoesCardSaid : Prop := Claim7.holds Tryz.pinned (.plain (OpenSpec.ofChange modelDoesSpec)) modelDoesCard

/-- THE TIED CARD OF 'cartularylaw14.ModelWrites'. -/
def modelWritesCard : Claim7 := { stood := { row := modelWritesRow, standIns := [], harness := (true, "55f3668c6e80a6c2fd0819e91a7b86484ecf9adcadcd20cf6ea74f97887cf546"), looks := true }, kinds := [], alts := [], laidByText := true, laidKinds := [.data, .pinned], laidTests := true, laidLooks := .later }
def ModelWritesCardSaid : Prop := Claim7.holds Tryz.pinned (.plain (OpenSpec.ofChange modelWritesSpec)) modelWritesCard

/-- THE TIED CARD OF 'cartularylaw14.ModelFails'. -/
def modelFailsCard : Claim7 := { stood := { row := modelFailsRow, standIns := [], harness := (true, "55f3668c6e80a6c2fd0819e91a7b86484ecf9adcadcd20cf6ea74f97887cf546"), looks := true }, kinds := [], alts := [], laidByText := true, laidKinds := [.data, .pinned], laidTests := true, laidLooks := .later }
def ModelFailsCardSaid : Prop := Claim7.holds Tryz.pinned (.plain (OpenSpec.ofChange modelFailsSpec)) modelFailsCard

/-- THE TIED CARD OF 'cartularylaw14.ModelCounts'. -/
def modelCountsCard : Claim7 := { stood := { row := modelCountsRow, standIns := [], harness := (true, "55f3668c6e80a6c2fd0819e91a7b86484ecf9adcadcd20cf6ea74f97887cf546"), looks := true }, kinds := [], alts := [], laidByText := true, laidKinds := [.data, .pinned], laidTests := true, laidLooks := .later }
def ModelCountsCardSaid : Prop := Claim7.holds Tryz.pinned (.plain (OpenSpec.ofChange modelCountsSpec)) modelCountsCard

/-- THE TIED CARD OF 'cartularylaw14.ModelNil'. -/
def modelNilCard : Claim7 := { stood := { row := modelNilRow, standIns := [], harness := (true, "55f3668c6e80a6c2fd0819e91a7b86484ecf9adcadcd20cf6ea74f97887cf546"), looks := true }, kinds := [], alts := [], laidByText := true, laidKinds := [.data, .pinned], laidTests := true, laidLooks := .later }
def ModelNilCardSaid : Prop := Claim7.holds Tryz.pinned (.plain (OpenSpec.ofChange modelNilSpec)) modelNilCard

/-- THE TIED CARD OF 'cartularylaw14.ModelMoves'. -/
def modelMovesCard : Claim7 := { stood := { row := modelMovesRow, standIns := [], harness := (true, "55f3668c6e80a6c2fd0819e91a7b86484ecf9adcadcd20cf6ea74f97887cf546"), looks := true }, kinds := [], alts := [], laidByText := true, laidKinds := [.data, .pinned], laidTests := true, laidLooks := .later }
def ModelMovesCardSaid : Prop := Claim7.holds Tryz.pinned (.plain (OpenSpec.ofChange modelMovesSpec)) modelMovesCard

/-- THE TIED CARD OF 'cartularylaw26.TraceBegins'. -/
def traceBeginsCard : Claim7 := { stood := { row := traceBeginsRow, standIns := [], harness := (true, "55f3668c6e80a6c2fd0819e91a7b86484ecf9adcadcd20cf6ea74f97887cf546"), looks := true }, kinds := [], alts := [], laidByText := true, laidKinds := [.data, .pinned], laidTests := true, laidLooks := .later }
def TraceBeginsCardSaid : Prop := Claim7.holds Tryz.pinned (.plain (OpenSpec.ofChange traceBeginsSpec)) traceBeginsCard

/-- THE TIED CARD OF 'cartularylaw26.TraceOnce'. -/
def traceOnceCard : Claim7 := { stood := { row := traceOnceRow, standIns := [], harness := (true, "55f3668c6e80a6c2fd0819e91a7b86484ecf9adcadcd20cf6ea74f97887cf546"), looks := true }, kinds := [], alts := [], laidByText := true, laidKinds := [.data, .pinned], laidTests := true, laidLooks := .later }
def TraceOnceCardSaid : Prop := Claim7.holds Tryz.pinned (.plain (OpenSpec.ofChange traceOnceSpec)) traceOnceCard

/-- THE TIED CARD OF 'cartularylaw26.TraceOpen'. -/
def traceOpenCard : Claim7 := { stood := { row := traceOpenRow, standIns := [], harness := (true, "55f3668c6e80a6c2fd0819e91a7b86484ecf9adcadcd20cf6ea74f97887cf546"), looks := true }, kinds := [], alts := [], laidByText := true, laidKinds := [.data, .pinned], laidTests := true, laidLooks := .later }
def TraceOpenCardSaid : Prop := Claim7.holds Tryz.pinned (.plain (OpenSpec.ofChange traceOpenSpec)) traceOpenCard

/-- THE SECOND FORM's CARD OF 'cartularylaw14.ModelDoes'. -/
def modelDoesUptoCard : Claim7 := { stood := { row := modelDoesUptoRow, standIns := [], harness := (true, "55f3668c6e80a6c2fd0819e91a7b86484ecf9adcadcd20cf6ea74f97887cf546"), looks := true }, kinds := [], alts := [], laidByText := true, laidKinds := [.data, .pinned], laidTests := true, laidLooks := .later }
def ModelDoesUptoCardSaid : Prop := Claim7.holds Tryz.pinned (.plain (OpenSpec.upto modelDoesSpec)) modelDoesUptoCard

/-- THE SECOND FORM's CARD OF 'cartularylaw14.ModelWrites'. -/
def modelWritesUptoCard : Claim7 := { stood := { row := modelWritesUptoRow, standIns := [], harness := (true, "55f3668c6e80a6c2fd0819e91a7b86484ecf9adcadcd20cf6ea74f97887cf546"), looks := true }, kinds := [], alts := [], laidByText := true, laidKinds := [.data, .pinned], laidTests := true, laidLooks := .later }
def ModelWritesUptoCardSaid : Prop := Claim7.holds Tryz.pinned (.plain (OpenSpec.upto modelWritesSpec)) modelWritesUptoCard

/-- THE SECOND FORM's CARD OF 'cartularylaw14.ModelFails'. -/
def modelFailsUptoCard : Claim7 := { stood := { row := modelFailsUptoRow, standIns := [], harness := (true, "55f3668c6e80a6c2fd0819e91a7b86484ecf9adcadcd20cf6ea74f97887cf546"), looks := true }, kinds := [], alts := [], laidByText := true, laidKinds := [.data, .pinned], laidTests := true, laidLooks := .later }
def ModelFailsUptoCardSaid : Prop := Claim7.holds Tryz.pinned (.plain (OpenSpec.upto modelFailsSpec)) modelFailsUptoCard

/-- THE SECOND FORM's CARD OF 'cartularylaw14.ModelCounts'. -/
def modelCountsUptoCard : Claim7 := { stood := { row := modelCountsUptoRow, standIns := [], harness := (true, "55f3668c6e80a6c2fd0819e91a7b86484ecf9adcadcd20cf6ea74f97887cf546"), looks := true }, kinds := [], alts := [], laidByText := true, laidKinds := [.data, .pinned], laidTests := true, laidLooks := .later }
def ModelCountsUptoCardSaid : Prop := Claim7.holds Tryz.pinned (.plain (OpenSpec.upto modelCountsSpec)) modelCountsUptoCard

/-- THE SECOND FORM's CARD OF 'cartularylaw14.ModelNil'. -/
def modelNilUptoCard : Claim7 := { stood := { row := modelNilUptoRow, standIns := [], harness := (true, "55f3668c6e80a6c2fd0819e91a7b86484ecf9adcadcd20cf6ea74f97887cf546"), looks := true }, kinds := [], alts := [], laidByText := true, laidKinds := [.data, .pinned], laidTests := true, laidLooks := .later }
def ModelNilUptoCardSaid : Prop := Claim7.holds Tryz.pinned (.plain (OpenSpec.upto modelNilSpec)) modelNilUptoCard

/-- THE SECOND FORM's CARD OF 'cartularylaw14.ModelMoves'. -/
def modelMovesUptoCard : Claim7 := { stood := { row := modelMovesUptoRow, standIns := [], harness := (true, "55f3668c6e80a6c2fd0819e91a7b86484ecf9adcadcd20cf6ea74f97887cf546"), looks := true }, kinds := [], alts := [], laidByText := true, laidKinds := [.data, .pinned], laidTests := true, laidLooks := .later }
def ModelMovesUptoCardSaid : Prop := Claim7.holds Tryz.pinned (.plain (OpenSpec.upto modelMovesSpec)) modelMovesUptoCard

/-- THE SECOND FORM's CARD OF 'cartularylaw26.TraceBegins'. -/
def traceBeginsUptoCard : Claim7 := { stood := { row := traceBeginsUptoRow, standIns := [], harness := (true, "55f3668c6e80a6c2fd0819e91a7b86484ecf9adcadcd20cf6ea74f97887cf546"), looks := true }, kinds := [], alts := [], laidByText := true, laidKinds := [.data, .pinned], laidTests := true, laidLooks := .later }
def TraceBeginsUptoCardSaid : Prop := Claim7.holds Tryz.pinned (.plain (OpenSpec.upto traceBeginsSpec)) traceBeginsUptoCard

/-- THE SECOND FORM's CARD OF 'cartularylaw26.TraceOnce'. -/
def traceOnceUptoCard : Claim7 := { stood := { row := traceOnceUptoRow, standIns := [], harness := (true, "55f3668c6e80a6c2fd0819e91a7b86484ecf9adcadcd20cf6ea74f97887cf546"), looks := true }, kinds := [], alts := [], laidByText := true, laidKinds := [.data, .pinned], laidTests := true, laidLooks := .later }
def TraceOnceUptoCardSaid : Prop := Claim7.holds Tryz.pinned (.plain (OpenSpec.upto traceOnceSpec)) traceOnceUptoCard

/-- THE SECOND FORM's CARD OF 'cartularylaw26.TraceOpen'. -/
def traceOpenUptoCard : Claim7 := { stood := { row := traceOpenUptoRow, standIns := [], harness := (true, "55f3668c6e80a6c2fd0819e91a7b86484ecf9adcadcd20cf6ea74f97887cf546"), looks := true }, kinds := [], alts := [], laidByText := true, laidKinds := [.data, .pinned], laidTests := true, laidLooks := .later }
def TraceOpenUptoCardSaid : Prop := Claim7.holds Tryz.pinned (.plain (OpenSpec.upto traceOpenSpec)) traceOpenUptoCard
end Rows
end Go.Proofs.YtbofhlifobjolaaGreatDoor
