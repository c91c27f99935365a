/-
  NARROWER THAN 'FOR EVERY INPUT', by the rows' own cells (each row's printed sentence says how): FdOnce: laid · FdPlaces: laid · FdSteps: laid · FdNil: laid.
  DERIVED. THE GIVEN ROWS OF THIS SEAT. 4 by the template 'for every input the law returns true; each argument reads behind the call as it read before'; 0 by the template 'total and deterministic' (their statements: YteedadelgpagfaaDoorTotals.lean).
  GIVEN WITH THE SEED: the statements are not yours to turn. If you find one false, say at which input.
  Laid BY PROGRAM, IN A SANDBOX (cutbox-rows.mjs): the forced cells as the released guide's own fill.sh prints them over the translation 4c561754057a29d7… (all of the seat's roots in one cut). By AI agents, Wed Nov 11 2026. No macro, syntax, notation, axiom, sorry.
-/
import Derived.Test.YteedadelgpagfaaDoorChecked
import GoSem.PinnedTables
import GoSem.Claim
import GoSem.ClaimJoined
import GoSem.ClaimMapViews
import Derived.JoinedTies
import Derived.KernelRfl
namespace Go.Proofs.YteedadelgpagfaaDoor
/- THE CELL 'sum', in the pinned program and in every row, IS THE sha256 OF THE DUMP (.gsa) THAT YteedadelgpagfaaDoorProg.lean LOADS. Nothing in Lean hashes anything: it is a label: what it is worth is what the hold of that sum in a sandbox is worth. -/
noncomputable def Tryd.pinned : Pinned := { name := "yteedadelgpagfaadoor", sum := "4c561754057a29d760f810b86c23be578e24d02714ae816c73e124f0a22b7075", checked := Tryd.checked }
namespace Rows
def none {H : Type} : Left H := { results := [], args := [] }

/- WHAT THE LISTED PACKAGE-LEVEL VARIABLES READ AS WHEN THE CALL BEGINS. Each datum BY PROGRAM (the guide's laid-datum.mjs) off the statement by which the dump's own 'gosem.cut.vars' lays the variable. In a bare row this is a premise. The card (YteedadelgpagfaaDoorCards.lean) ties it to the program's text. -/
def laid_unicode_utf8_acceptRanges {H : Type} : DataW H := .agg [.agg [.lit (.int .u8 128), .lit (.int .u8 191)], .agg [.lit (.int .u8 160), .lit (.int .u8 191)], .agg [.lit (.int .u8 128), .lit (.int .u8 159)], .agg [.lit (.int .u8 144), .lit (.int .u8 191)], .agg [.lit (.int .u8 128), .lit (.int .u8 143)], .agg [.lit (.int .u8 0), .lit (.int .u8 0)], .agg [.lit (.int .u8 0), .lit (.int .u8 0)], .agg [.lit (.int .u8 0), .lit (.int .u8 0)], .agg [.lit (.int .u8 0), .lit (.int .u8 0)], .agg [.lit (.int .u8 0), .lit (.int .u8 0)], .agg [.lit (.int .u8 0), .lit (.int .u8 0)], .agg [.lit (.int .u8 0), .lit (.int .u8 0)], .agg [.lit (.int .u8 0), .lit (.int .u8 0)], .agg [.lit (.int .u8 0), .lit (.int .u8 0)], .agg [.lit (.int .u8 0), .lit (.int .u8 0)], .agg [.lit (.int .u8 0), .lit (.int .u8 0)]]
/-- One of Go's own tables, pinned by name: the form's constant. -/
def laid_unicode_utf8_first : DataW Unit := Go.Pinned.utf8First

/-- 'cartularylaw19.FdOnce': WHATEVER THE INPUT: true; the input reads as it did. -/
def fdOnceSpec : ChangeSpec := { name := "fdOnce", fn := fun _ => fun
  | [d] => { results := [.lit (.bool true)], args := [d] }
  | _ => none }
def fdOnceRow : OpenClaim := { program := "yteedadelgpagfaadoor", sum := "4c561754057a29d760f810b86c23be578e24d02714ae816c73e124f0a22b7075", func := "cartulary/cartularylaw19.FdOnce", spec := "fdOnce", inPlace := ["internal/bytealg.CountString", "internal/bytealg.IndexByteString", "internal/bytealg.IndexString"], named := ["unicode/utf8.first", "unicode/utf8.acceptRanges", "internal/bytealg.MaxLen"], apart := false, laid := [("unicode/utf8.acceptRanges", laid_unicode_utf8_acceptRanges), ("unicode/utf8.first", laid_unicode_utf8_first)] }
def FdOnceSaid : Prop := fdOnceRow.holds Tryd.pinned (OpenSpec.ofChange fdOnceSpec)

/-- ITS FALSE NEIGHBOUR: 'it returns false'. Refute it at one input. -/
def fdOnceWrong : ChangeSpec := { name := "fdOnce", fn := fun _ => fun
  | [d] => { results := [.lit (.bool false)], args := [d] }
  | _ => none }
def FdOnceWrongFalsely : Prop := fdOnceRow.holds Tryd.pinned (OpenSpec.ofChange fdOnceWrong)

/-- 'cartularylaw19.FdPlaces': WHATEVER THE INPUT: true; the input reads as it did. -/
def fdPlacesSpec : ChangeSpec := { name := "fdPlaces", fn := fun _ => fun
  | [d] => { results := [.lit (.bool true)], args := [d] }
  | _ => none }
def fdPlacesRow : OpenClaim := { program := "yteedadelgpagfaadoor", sum := "4c561754057a29d760f810b86c23be578e24d02714ae816c73e124f0a22b7075", func := "cartulary/cartularylaw19.FdPlaces", spec := "fdPlaces", inPlace := ["internal/bytealg.CountString", "internal/bytealg.IndexByteString", "internal/bytealg.IndexString"], named := ["unicode/utf8.first", "unicode/utf8.acceptRanges", "internal/bytealg.MaxLen"], apart := false, laid := [("unicode/utf8.acceptRanges", laid_unicode_utf8_acceptRanges), ("unicode/utf8.first", laid_unicode_utf8_first)] }
def FdPlacesSaid : Prop := fdPlacesRow.holds Tryd.pinned (OpenSpec.ofChange fdPlacesSpec)

/-- ITS FALSE NEIGHBOUR: 'it returns false'. Refute it at one input. -/
def fdPlacesWrong : ChangeSpec := { name := "fdPlaces", fn := fun _ => fun
  | [d] => { results := [.lit (.bool false)], args := [d] }
  | _ => none }
def FdPlacesWrongFalsely : Prop := fdPlacesRow.holds Tryd.pinned (OpenSpec.ofChange fdPlacesWrong)

/-- 'cartularylaw19.FdSteps': WHATEVER THE INPUT: true; the input reads as it did. -/
def fdStepsSpec : ChangeSpec := { name := "fdSteps", fn := fun _ => fun
  | [d] => { results := [.lit (.bool true)], args := [d] }
  | _ => none }
def fdStepsRow : OpenClaim := { program := "yteedadelgpagfaadoor", sum := "4c561754057a29d760f810b86c23be578e24d02714ae816c73e124f0a22b7075", func := "cartulary/cartularylaw19.FdSteps", spec := "fdSteps", inPlace := ["internal/bytealg.CountString", "internal/bytealg.IndexByteString", "internal/bytealg.IndexString"], named := ["unicode/utf8.first", "unicode/utf8.acceptRanges", "internal/bytealg.MaxLen"], apart := false, laid := [("unicode/utf8.acceptRanges", laid_unicode_utf8_acceptRanges), ("unicode/utf8.first", laid_unicode_utf8_first)] }
def FdStepsSaid : Prop := fdStepsRow.holds Tryd.pinned (OpenSpec.ofChange fdStepsSpec)

/-- ITS FALSE NEIGHBOUR: 'it returns false'. Refute it at one input. -/
def fdStepsWrong : ChangeSpec := { name := "fdSteps", fn := fun _ => fun
  | [d] => { results := [.lit (.bool false)], args := [d] }
  | _ => none }
def FdStepsWrongFalsely : Prop := fdStepsRow.holds Tryd.pinned (OpenSpec.ofChange fdStepsWrong)

/-- 'cartularylaw19.FdNil': WHATEVER THE INPUT: true; the input reads as it did. -/
def fdNilSpec : ChangeSpec := { name := "fdNil", fn := fun _ => fun
  | [d1, d2] => { results := [.lit (.bool true)], args := [d1, d2] }
  | _ => none }
def fdNilRow : OpenClaim := { program := "yteedadelgpagfaadoor", sum := "4c561754057a29d760f810b86c23be578e24d02714ae816c73e124f0a22b7075", func := "cartulary/cartularylaw19.FdNil", spec := "fdNil", inPlace := ["internal/bytealg.CountString", "internal/bytealg.IndexByteString", "internal/bytealg.IndexString"], named := ["unicode/utf8.first", "unicode/utf8.acceptRanges", "internal/bytealg.MaxLen"], apart := false, laid := [("unicode/utf8.acceptRanges", laid_unicode_utf8_acceptRanges), ("unicode/utf8.first", laid_unicode_utf8_first)] }
def FdNilSaid : Prop := fdNilRow.holds Tryd.pinned (OpenSpec.ofChange fdNilSpec)

/-- ITS FALSE NEIGHBOUR: 'it returns false'. Refute it at one input. -/
def fdNilWrong : ChangeSpec := { name := "fdNil", fn := fun _ => fun
  | [d1, d2] => { results := [.lit (.bool false)], args := [d1, d2] }
  | _ => none }
def FdNilWrongFalsely : Prop := fdNilRow.holds Tryd.pinned (OpenSpec.ofChange fdNilWrong)

/- THE SECOND FORM. 'bulk': how many values and letters a reading holds, each counted each time it is reached (what is shared counts as often as it is met; a slice's spare places count too). A statement '..UptoSaid' is the law's where the arguments, and the package variables that the reading takes, are together of bulk at most 1048576: NARROWER than '..Said'. Prove '..Said' where nothing that the law and all that it calls make is longer than what came in: it says more and counts as full. Else prove '..UptoSaid'. A law counts once. -/
mutual
def uptoBulk {H : Type} : DataW H → Nat
  | .lit (.string bytes) => bytes.length + 1
  | .lit _ => 1
  | .nil => 1
  | .ptr d => uptoBulk d + 1
  | .slice elems spare => uptoBulkAll elems + uptoBulkAll spare + 1
  | .agg parts => uptoBulkAll parts + 1
  | .iface _ d => uptoBulk d + 1
  | .map entries => uptoBulkEntries entries + 1
  | .held _ => 1
def uptoBulkAll {H : Type} : List (DataW H) → Nat
  | [] => 0
  | d :: r => uptoBulk d + uptoBulkAll r
def uptoBulkEntries {H : Type} : List (Lit × DataW H) → Nat
  | [] => 0
  | x :: r => uptoBulkEntry x + uptoBulkEntries r
def uptoBulkEntry {H : Type} : Lit × DataW H → Nat
  | (.string bytes, d) => bytes.length + uptoBulk d + 1
  | (_, d) => uptoBulk d + 1
 end
def uptoSmall : (H : Type) → List (DataW H) → Bool := fun _ ds => decide (uptoBulkAll ds ≤ 1048576)
def OpenSpec.upto (s : _root_.Go.ChangeSpec) : _root_.Go.OpenSpec := { _root_.Go.OpenSpec.ofChange s with cond := some uptoSmall }

/-- 'cartularylaw19.FdOnce', WHERE WHAT IT READS IS OF BULK AT MOST 1048576: true; the input reads as it did. -/
def fdOnceUptoRow : OpenClaim := { program := "yteedadelgpagfaadoor", sum := "4c561754057a29d760f810b86c23be578e24d02714ae816c73e124f0a22b7075", func := "cartulary/cartularylaw19.FdOnce", spec := "fdOnce", inPlace := ["internal/bytealg.CountString", "internal/bytealg.IndexByteString", "internal/bytealg.IndexString"], named := ["unicode/utf8.first", "unicode/utf8.acceptRanges", "internal/bytealg.MaxLen"], apart := false, laid := [("unicode/utf8.acceptRanges", laid_unicode_utf8_acceptRanges), ("unicode/utf8.first", laid_unicode_utf8_first)], narrowed := true }
def FdOnceUptoSaid : Prop := fdOnceUptoRow.holds Tryd.pinned (OpenSpec.upto fdOnceSpec)

/-- 'cartularylaw19.FdPlaces', WHERE WHAT IT READS IS OF BULK AT MOST 1048576: true; the input reads as it did. -/
def fdPlacesUptoRow : OpenClaim := { program := "yteedadelgpagfaadoor", sum := "4c561754057a29d760f810b86c23be578e24d02714ae816c73e124f0a22b7075", func := "cartulary/cartularylaw19.FdPlaces", spec := "fdPlaces", inPlace := ["internal/bytealg.CountString", "internal/bytealg.IndexByteString", "internal/bytealg.IndexString"], named := ["unicode/utf8.first", "unicode/utf8.acceptRanges", "internal/bytealg.MaxLen"], apart := false, laid := [("unicode/utf8.acceptRanges", laid_unicode_utf8_acceptRanges), ("unicode/utf8.first", laid_unicode_utf8_first)], narrowed := true }
def FdPlacesUptoSaid : Prop := fdPlacesUptoRow.holds Tryd.pinned (OpenSpec.upto fdPlacesSpec)

/-- 'cartularylaw19.FdSteps', WHERE WHAT IT READS IS OF BULK AT MOST 1048576: true; the input reads as it did. -/
def fdStepsUptoRow : OpenClaim := { program := "yteedadelgpagfaadoor", sum := "4c561754057a29d760f810b86c23be578e24d02714ae816c73e124f0a22b7075", func := "cartulary/cartularylaw19.FdSteps", spec := "fdSteps", inPlace := ["internal/bytealg.CountString", "internal/bytealg.IndexByteString", "internal/bytealg.IndexString"], named := ["unicode/utf8.first", "unicode/utf8.acceptRanges", "internal/bytealg.MaxLen"], apart := false, laid := [("unicode/utf8.acceptRanges", laid_unicode_utf8_acceptRanges), ("unicode/utf8.first", laid_unicode_utf8_first)], narrowed := true }
def FdStepsUptoSaid : Prop := fdStepsUptoRow.holds Tryd.pinned (OpenSpec.upto fdStepsSpec)

/-- 'cartularylaw19.FdNil', WHERE WHAT IT READS IS OF BULK AT MOST 1048576: true; the input reads as it did. -/
def fdNilUptoRow : OpenClaim := { program := "yteedadelgpagfaadoor", sum := "4c561754057a29d760f810b86c23be578e24d02714ae816c73e124f0a22b7075", func := "cartulary/cartularylaw19.FdNil", spec := "fdNil", inPlace := ["internal/bytealg.CountString", "internal/bytealg.IndexByteString", "internal/bytealg.IndexString"], named := ["unicode/utf8.first", "unicode/utf8.acceptRanges", "internal/bytealg.MaxLen"], apart := false, laid := [("unicode/utf8.acceptRanges", laid_unicode_utf8_acceptRanges), ("unicode/utf8.first", laid_unicode_utf8_first)], narrowed := true }
def FdNilUptoSaid : Prop := fdNilUptoRow.holds Tryd.pinned (OpenSpec.upto fdNilSpec)

end Rows
end Go.Proofs.YteedadelgpagfaaDoor
