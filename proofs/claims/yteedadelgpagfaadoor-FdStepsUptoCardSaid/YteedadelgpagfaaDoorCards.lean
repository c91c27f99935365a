/-
  DERIVED. GIVEN WITH THE SEED: THE CARDS: each row of YteedadelgpagfaaDoorRows.lean that lists a variable, with what it lists TIED to the program's text (the seventh form; the later family's looks); each row that meets fmt, with fmt's text TOLD by the authors' own Lean function (tested against real Go, not proved from fmt's source: count such statements apart). THE CARD IS WHAT COUNTS. Prove the row's statement (the work); the ties are given (YteedadelgpagfaaDoorTie.lean); close each card by the builder's one call (the guide's Derived/Test/ToyasCard.lean, 'card_holds'). Laid BY PROGRAM, IN A SANDBOX (cutbox-door.mjs). By AI agents, Wed Nov 11 2026. No macro, syntax, notation, axiom, sorry.
-/
import Derived.Test.YteedadelgpagfaaDoorRows
import GoSem.ClaimSeven
namespace Go.Proofs.YteedadelgpagfaaDoor
namespace Rows

/-- THE TIED CARD OF 'cartularylaw19.FdOnce'. -/
def fdOnceCard : Claim7 := { stood := { row := fdOnceRow, standIns := [], harness := (true, "7f88235ab9102d61614c622358242cd91141459841d9dca6ffe7ff2770b923c3"), looks := false }, kinds := [], alts := [], laidByText := true, laidKinds := [.data, .pinned], laidTests := true, laidLooks := .later }
def FdOnceCardSaid : Prop := Claim7.holds Tryd.pinned (.plain (OpenSpec.ofChange fdOnceSpec)) fdOnceCard

/-- THE TIED CARD OF 'cartularylaw19.FdPlaces'. -/
def fdPlacesCard : Claim7 := { stood := { row := fdPlacesRow, standIns := [], harness := (true, "7f88235ab9102d61614c622358242cd91141459841d9dca6ffe7ff2770b923c3"), looks := false }, kinds := [], alts := [], laidByText := true, laidKinds := [.data, .pinned], laidTests := true, laidLooks := .later }
def FdPlacesCardSaid : Prop := Claim7.holds Tryd.pinned (.plain (OpenSpec.ofChange fdPlacesSpec)) fdPlacesCard

/-- THE TIED CARD OF 'cartularylaw19.FdSteps'. -/
def fdStepsCard : Claim7 := { stood := { row := fdStepsRow, standIns := [], harness := (true, "7f88235ab9102d61614c622358242cd91141459841d9dca6ffe7ff2770b923c3"), looks := false }, kinds := [], alts := [], laidByText := true, laidKinds := [.data, .pinned], laidTests := true, laidLooks := .later }
def FdStepsCardSaid : Prop := Claim7.holds Tryd.pinned (.plain (OpenSpec.ofChange fdStepsSpec)) fdStepsCard

/-- THE TIED CARD OF 'cartularylaw19.FdNil'. -/
def fdNilCard : Claim7 := { stood := { row := fdNilRow, standIns := [], harness := (true, "7f88235ab9102d61614c622358242cd91141459841d9dca6ffe7ff2770b923c3"), looks := false }, kinds := [], alts := [], laidByText := true, laidKinds := [.data, .pinned], laidTests := true, laidLooks := .later }
def FdNilCardSaid : Prop := Claim7.holds Tryd.pinned (.plain (OpenSpec.ofChange fdNilSpec)) fdNilCard

/-- THE SECOND FORM's CARD OF 'cartularylaw19.FdOnce'. -/
def fdOnceUptoCard : Claim7 := { stood := { row := fdOnceUptoRow, standIns := [], harness := (true, "7f88235ab9102d61614c622358242cd91141459841d9dca6ffe7ff2770b923c3"), looks := false }, kinds := [], alts := [], laidByText := true, laidKinds := [.data, .pinned], laidTests := true, laidLooks := .later }
def FdOnceUptoCardSaid : Prop := Claim7.holds Tryd.pinned (.plain (OpenSpec.upto fdOnceSpec)) fdOnceUptoCard

/-- THE SECOND FORM's CARD OF 'cartularylaw19.FdPlaces'. -/
def fdPlacesUptoCard : Claim7 := { stood := { row := fdPlacesUptoRow, standIns := [], harness := (true, "7f88235ab9102d61614c622358242cd91141459841d9dca6ffe7ff2770b923c3"), looks := false }, kinds := [], alts := [], laidByText := true, laidKinds := [.data, .pinned], laidTests := true, laidLooks := .later }
def FdPlacesUptoCardSaid : Prop := Claim7.holds Tryd.pinned (.plain (OpenSpec.upto fdPlacesSpec)) fdPlacesUptoCard

/-- THE SECOND FORM's CARD OF 'cartularylaw19.FdSteps'. -/
def fdStepsUptoCard : Claim7 := { stood := { row := fdStepsUptoRow, standIns := [], harness := (true, "7f88235ab9102d61614c622358242cd91141459841d9dca6ffe7ff2770b923c3"), looks := false }, kinds := [], alts := [], laidByText := true, laidKinds := [.data, .pinned], laidTests := true, laidLooks := .later }
def FdStepsUptoCardSaid : Prop := Claim7.holds Tryd.pinned (.plain (OpenSpec.upto fdStepsSpec)) fdStepsUptoCard

/-- THE SECOND FORM's CARD OF 'cartularylaw19.FdNil'. -/
def fdNilUptoCard : Claim7 := { stood := { row := fdNilUptoRow, standIns := [], harness := (true, "7f88235ab9102d61614c622358242cd91141459841d9dca6ffe7ff2770b923c3"), looks := false }, kinds := [], alts := [], laidByText := true, laidKinds := [.data, .pinned], laidTests := true, laidLooks := .later }
def FdNilUptoCardSaid : Prop := Claim7.holds Tryd.pinned (.plain (OpenSpec.upto fdNilSpec)) fdNilUptoCard
end Rows
end Go.Proofs.YteedadelgpagfaaDoor
