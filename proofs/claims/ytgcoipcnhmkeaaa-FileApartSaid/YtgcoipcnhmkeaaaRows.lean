/-
  No cell of these rows narrows 'for every input' (looked for: loops, veiled, ifaces, maps, wideKeys, modest, calm, conditions, laid).
  DERIVED. THE GIVEN ROWS OF THIS SEAT. 8 by the template 'for every input the law returns true; each argument reads behind the call as it read before'; 0 by the template 'total and deterministic' (their statements: YtgcoipcnhmkeaaaTotals.lean).
  GIVEN WITH THE SEED: the statements are not yours to turn. If you find one false, say at which input.
  Laid BY PROGRAM, IN A SANDBOX (cutbox-rows.mjs): the forced cells as the released guide's own fill.sh prints them over the translation 7779181f4e166e57… (all of the seat's roots in one cut). By AI agents, Wed Nov 11 2026. No macro, syntax, notation, axiom, sorry.
-/
import Derived.Test.YtgcoipcnhmkeaaaChecked
import GoSem.Claim
import GoSem.ClaimJoined
import GoSem.ClaimMapViews
import Derived.JoinedTies
import Derived.KernelRfl
namespace Go.Proofs.Ytgcoipcnhmkeaaa
/- THE CELL 'sum', in the pinned program and in every row, IS THE sha256 OF THE DUMP (.gsa) THAT YtgcoipcnhmkeaaaProg.lean LOADS. Nothing in Lean hashes anything: it is a label: what it is worth is what the hold of that sum in a sandbox is worth. -/
noncomputable def Try.pinned : Pinned := { name := "ytgcoipcnhmkeaaa", sum := "7779181f4e166e57f5321c4c4a4b7054e32c9a607148e28cabb82a7fe2cc3b55", checked := Try.checked }
namespace Rows
def none {H : Type} : Left H := { results := [], args := [] }

/-- 'cartularylaw15.FileFails': WHATEVER THE INPUT: true; the input reads as it did. -/
def fileFailsSpec : ChangeSpec := { name := "fileFails", fn := fun _ => fun
  | [d1, d2, d3] => { results := [.lit (.bool true)], args := [d1, d2, d3] }
  | _ => none }
def fileFailsRow : OpenClaim := { program := "ytgcoipcnhmkeaaa", sum := "7779181f4e166e57f5321c4c4a4b7054e32c9a607148e28cabb82a7fe2cc3b55", func := "cartulary/cartularylaw15.FileFails", spec := "fileFails", inPlace := ["maps.clone"], unfollowed := true, recurses := true, apart := false }
def FileFailsSaid : Prop := fileFailsRow.holds Try.pinned (OpenSpec.ofChange fileFailsSpec)

/-- ITS FALSE NEIGHBOUR: 'it returns false'. Refute it at one input. -/
def fileFailsWrong : ChangeSpec := { name := "fileFails", fn := fun _ => fun
  | [d1, d2, d3] => { results := [.lit (.bool false)], args := [d1, d2, d3] }
  | _ => none }
def FileFailsWrongFalsely : Prop := fileFailsRow.holds Try.pinned (OpenSpec.ofChange fileFailsWrong)

/-- 'cartularylaw15.FileReads': WHATEVER THE INPUT: true; the input reads as it did. -/
def fileReadsSpec : ChangeSpec := { name := "fileReads", fn := fun _ => fun
  | [d] => { results := [.lit (.bool true)], args := [d] }
  | _ => none }
def fileReadsRow : OpenClaim := { program := "ytgcoipcnhmkeaaa", sum := "7779181f4e166e57f5321c4c4a4b7054e32c9a607148e28cabb82a7fe2cc3b55", func := "cartulary/cartularylaw15.FileReads", spec := "fileReads", inPlace := ["maps.clone"], unfollowed := true, recurses := true, apart := false }
def FileReadsSaid : Prop := fileReadsRow.holds Try.pinned (OpenSpec.ofChange fileReadsSpec)

/-- ITS FALSE NEIGHBOUR: 'it returns false'. Refute it at one input. -/
def fileReadsWrong : ChangeSpec := { name := "fileReads", fn := fun _ => fun
  | [d] => { results := [.lit (.bool false)], args := [d] }
  | _ => none }
def FileReadsWrongFalsely : Prop := fileReadsRow.holds Try.pinned (OpenSpec.ofChange fileReadsWrong)

/-- 'cartularylaw15.FileApart': WHATEVER THE INPUT: true; the input reads as it did. -/
def fileApartSpec : ChangeSpec := { name := "fileApart", fn := fun _ => fun
  | [d] => { results := [.lit (.bool true)], args := [d] }
  | _ => none }
def fileApartRow : OpenClaim := { program := "ytgcoipcnhmkeaaa", sum := "7779181f4e166e57f5321c4c4a4b7054e32c9a607148e28cabb82a7fe2cc3b55", func := "cartulary/cartularylaw15.FileApart", spec := "fileApart", inPlace := ["maps.clone"], unfollowed := true, recurses := true, apart := false }
def FileApartSaid : Prop := fileApartRow.holds Try.pinned (OpenSpec.ofChange fileApartSpec)

/-- ITS FALSE NEIGHBOUR: 'it returns false'. Refute it at one input. -/
def fileApartWrong : ChangeSpec := { name := "fileApart", fn := fun _ => fun
  | [d] => { results := [.lit (.bool false)], args := [d] }
  | _ => none }
def FileApartWrongFalsely : Prop := fileApartRow.holds Try.pinned (OpenSpec.ofChange fileApartWrong)

/-- 'cartularylaw15.FileNil': WHATEVER THE INPUT: true; the input reads as it did. -/
def fileNilSpec : ChangeSpec := { name := "fileNil", fn := fun _ => fun
  | [d1, d2, d3] => { results := [.lit (.bool true)], args := [d1, d2, d3] }
  | _ => none }
def fileNilRow : OpenClaim := { program := "ytgcoipcnhmkeaaa", sum := "7779181f4e166e57f5321c4c4a4b7054e32c9a607148e28cabb82a7fe2cc3b55", func := "cartulary/cartularylaw15.FileNil", spec := "fileNil", inPlace := ["maps.clone"], unfollowed := true, recurses := true, apart := false }
def FileNilSaid : Prop := fileNilRow.holds Try.pinned (OpenSpec.ofChange fileNilSpec)

/-- ITS FALSE NEIGHBOUR: 'it returns false'. Refute it at one input. -/
def fileNilWrong : ChangeSpec := { name := "fileNil", fn := fun _ => fun
  | [d1, d2, d3] => { results := [.lit (.bool false)], args := [d1, d2, d3] }
  | _ => none }
def FileNilWrongFalsely : Prop := fileNilRow.holds Try.pinned (OpenSpec.ofChange fileNilWrong)

/-- 'cartularylaw15.FileCosts': WHATEVER THE INPUT: true; the input reads as it did. -/
def fileCostsSpec : ChangeSpec := { name := "fileCosts", fn := fun _ => fun
  | [d] => { results := [.lit (.bool true)], args := [d] }
  | _ => none }
def fileCostsRow : OpenClaim := { program := "ytgcoipcnhmkeaaa", sum := "7779181f4e166e57f5321c4c4a4b7054e32c9a607148e28cabb82a7fe2cc3b55", func := "cartulary/cartularylaw15.FileCosts", spec := "fileCosts", inPlace := ["maps.clone"], unfollowed := true, recurses := true, apart := false }
def FileCostsSaid : Prop := fileCostsRow.holds Try.pinned (OpenSpec.ofChange fileCostsSpec)

/-- ITS FALSE NEIGHBOUR: 'it returns false'. Refute it at one input. -/
def fileCostsWrong : ChangeSpec := { name := "fileCosts", fn := fun _ => fun
  | [d] => { results := [.lit (.bool false)], args := [d] }
  | _ => none }
def FileCostsWrongFalsely : Prop := fileCostsRow.holds Try.pinned (OpenSpec.ofChange fileCostsWrong)

/-- 'cartularylaw16.DirFinds': WHATEVER THE INPUT: true; the input reads as it did. -/
def dirFindsSpec : ChangeSpec := { name := "dirFinds", fn := fun _ => fun
  | [d] => { results := [.lit (.bool true)], args := [d] }
  | _ => none }
def dirFindsRow : OpenClaim := { program := "ytgcoipcnhmkeaaa", sum := "7779181f4e166e57f5321c4c4a4b7054e32c9a607148e28cabb82a7fe2cc3b55", func := "cartulary/cartularylaw16.DirFinds", spec := "dirFinds", inPlace := ["maps.clone", "internal/bytealg.abigen_runtime_cmpstring"], unfollowed := true, recurses := true, apart := false }
def DirFindsSaid : Prop := dirFindsRow.holds Try.pinned (OpenSpec.ofChange dirFindsSpec)

/-- ITS FALSE NEIGHBOUR: 'it returns false'. Refute it at one input. -/
def dirFindsWrong : ChangeSpec := { name := "dirFinds", fn := fun _ => fun
  | [d] => { results := [.lit (.bool false)], args := [d] }
  | _ => none }
def DirFindsWrongFalsely : Prop := dirFindsRow.holds Try.pinned (OpenSpec.ofChange dirFindsWrong)

/-- 'cartularylaw16.DirFree': WHATEVER THE INPUT: true; the input reads as it did. -/
def dirFreeSpec : ChangeSpec := { name := "dirFree", fn := fun _ => fun
  | [d] => { results := [.lit (.bool true)], args := [d] }
  | _ => none }
def dirFreeRow : OpenClaim := { program := "ytgcoipcnhmkeaaa", sum := "7779181f4e166e57f5321c4c4a4b7054e32c9a607148e28cabb82a7fe2cc3b55", func := "cartulary/cartularylaw16.DirFree", spec := "dirFree", inPlace := ["maps.clone", "internal/bytealg.abigen_runtime_cmpstring"], unfollowed := true, recurses := true, apart := false }
def DirFreeSaid : Prop := dirFreeRow.holds Try.pinned (OpenSpec.ofChange dirFreeSpec)

/-- ITS FALSE NEIGHBOUR: 'it returns false'. Refute it at one input. -/
def dirFreeWrong : ChangeSpec := { name := "dirFree", fn := fun _ => fun
  | [d] => { results := [.lit (.bool false)], args := [d] }
  | _ => none }
def DirFreeWrongFalsely : Prop := dirFreeRow.holds Try.pinned (OpenSpec.ofChange dirFreeWrong)

/-- 'cartularylaw16.DirApart': WHATEVER THE INPUT: true; the input reads as it did. -/
def dirApartSpec : ChangeSpec := { name := "dirApart", fn := fun _ => fun
  | [d] => { results := [.lit (.bool true)], args := [d] }
  | _ => none }
def dirApartRow : OpenClaim := { program := "ytgcoipcnhmkeaaa", sum := "7779181f4e166e57f5321c4c4a4b7054e32c9a607148e28cabb82a7fe2cc3b55", func := "cartulary/cartularylaw16.DirApart", spec := "dirApart", inPlace := ["maps.clone", "internal/bytealg.abigen_runtime_cmpstring"], unfollowed := true, recurses := true, apart := false }
def DirApartSaid : Prop := dirApartRow.holds Try.pinned (OpenSpec.ofChange dirApartSpec)

/-- ITS FALSE NEIGHBOUR: 'it returns false'. Refute it at one input. -/
def dirApartWrong : ChangeSpec := { name := "dirApart", fn := fun _ => fun
  | [d] => { results := [.lit (.bool false)], args := [d] }
  | _ => none }
def DirApartWrongFalsely : Prop := dirApartRow.holds Try.pinned (OpenSpec.ofChange dirApartWrong)

/- THE SECOND FORM. 'bulk': how many values and letters a reading holds, each counted each time it is reached (what is shared counts as often as it is met; a slice's spare places count too). A statement '..UptoSaid' is the law's where the arguments, and the package variables that the reading takes, are together of bulk at most 1048576: NARROWER than '..Said'. Prove '..Said' where nothing that the law and all that it calls make is longer than what came in: it says more and counts as full. Else prove '..UptoSaid'. A law counts once. -/
mutual
def uptoBulk {H : Type} : DataW H → Nat
  | .lit (.string bytes) => bytes.length + 1
  | .lit _ => 1
  | .nil => 1
  | .ptr d => uptoBulk d + 1
  | .slice elems spare => uptoBulkAll elems + uptoBulkAll spare + 1
  | .agg parts => uptoBulkAll parts + 1
  | .iface _ d => uptoBulk d + 1
  | .map entries => uptoBulkEntries entries + 1
  | .held _ => 1
def uptoBulkAll {H : Type} : List (DataW H) → Nat
  | [] => 0
  | d :: r => uptoBulk d + uptoBulkAll r
def uptoBulkEntries {H : Type} : List (Lit × DataW H) → Nat
  | [] => 0
  | x :: r => uptoBulkEntry x + uptoBulkEntries r
def uptoBulkEntry {H : Type} : Lit × DataW H → Nat
  | (.string bytes, d) => bytes.length + uptoBulk d + 1
  | (_, d) => uptoBulk d + 1
 end
def uptoSmall : (H : Type) → List (DataW H) → Bool := fun _ ds => decide (uptoBulkAll ds ≤ 1048576)
def OpenSpec.upto (s : _root_.Go.ChangeSpec) : _root_.Go.OpenSpec := { _root_.Go.OpenSpec.ofChange s with cond := some uptoSmall }

/-- 'cartularylaw15.FileFails', WHERE WHAT IT READS IS OF BULK AT MOST 1048576: true; the input reads as it did. -/
def fileFailsUptoRow : OpenClaim := { program := "ytgcoipcnhmkeaaa", sum := "7779181f4e166e57f5321c4c4a4b7054e32c9a607148e28cabb82a7fe2cc3b55", func := "cartulary/cartularylaw15.FileFails", spec := "fileFails", inPlace := ["maps.clone"], unfollowed := true, recurses := true, apart := false, narrowed := true }
def FileFailsUptoSaid : Prop := fileFailsUptoRow.holds Try.pinned (OpenSpec.upto fileFailsSpec)

/-- 'cartularylaw15.FileReads', WHERE WHAT IT READS IS OF BULK AT MOST 1048576: true; the input reads as it did. -/
def fileReadsUptoRow : OpenClaim := { program := "ytgcoipcnhmkeaaa", sum := "7779181f4e166e57f5321c4c4a4b7054e32c9a607148e28cabb82a7fe2cc3b55", func := "cartulary/cartularylaw15.FileReads", spec := "fileReads", inPlace := ["maps.clone"], unfollowed := true, recurses := true, apart := false, narrowed := true }
def FileReadsUptoSaid : Prop := fileReadsUptoRow.holds Try.pinned (OpenSpec.upto fileReadsSpec)

/-- 'cartularylaw15.FileApart', WHERE WHAT IT READS IS OF BULK AT MOST 1048576: true; the input reads as it did. -/
def fileApartUptoRow : OpenClaim := { program := "ytgcoipcnhmkeaaa", sum := "7779181f4e166e57f5321c4c4a4b7054e32c9a607148e28cabb82a7fe2cc3b55", func := "cartulary/cartularylaw15.FileApart", spec := "fileApart", inPlace := ["maps.clone"], unfollowed := true, recurses := true, apart := false, narrowed := true }
def FileApartUptoSaid : Prop := fileApartUptoRow.holds Try.pinned (OpenSpec.upto fileApartSpec)

/-- 'cartularylaw15.FileNil', WHERE WHAT IT READS IS OF BULK AT MOST 1048576: true; the input reads as it did. -/
def fileNilUptoRow : OpenClaim := { program := "ytgcoipcnhmkeaaa", sum := "7779181f4e166e57f5321c4c4a4b7054e32c9a607148e28cabb82a7fe2cc3b55", func := "cartulary/cartularylaw15.FileNil", spec := "fileNil", inPlace := ["maps.clone"], unfollowed := true, recurses := true, apart := false, narrowed := true }
def FileNilUptoSaid : Prop := fileNilUptoRow.holds Try.pinned (OpenSpec.upto fileNilSpec)

/-- 'cartularylaw15.FileCosts', WHERE WHAT IT READS IS OF BULK AT MOST 1048576: true; the input reads as it did. -/
def fileCostsUptoRow : OpenClaim := { program := "ytgcoipcnhmkeaaa", sum := "7779181f4e166e57f5321c4c4a4b7054e32c9a607148e28cabb82a7fe2cc3b55", func := "cartulary/cartularylaw15.FileCosts", spec := "fileCosts", inPlace := ["maps.clone"], unfollowed := true, recurses := true, apart := false, narrowed := true }
def FileCostsUptoSaid : Prop := fileCostsUptoRow.holds Try.pinned (OpenSpec.upto fileCostsSpec)

/-- 'cartularylaw16.DirFinds', WHERE WHAT IT READS IS OF BULK AT MOST 1048576: true; the input reads as it did. -/
def dirFindsUptoRow : OpenClaim := { program := "ytgcoipcnhmkeaaa", sum := "7779181f4e166e57f5321c4c4a4b7054e32c9a607148e28cabb82a7fe2cc3b55", func := "cartulary/cartularylaw16.DirFinds", spec := "dirFinds", inPlace := ["maps.clone", "internal/bytealg.abigen_runtime_cmpstring"], unfollowed := true, recurses := true, apart := false, narrowed := true }
def DirFindsUptoSaid : Prop := dirFindsUptoRow.holds Try.pinned (OpenSpec.upto dirFindsSpec)

/-- 'cartularylaw16.DirFree', WHERE WHAT IT READS IS OF BULK AT MOST 1048576: true; the input reads as it did. -/
def dirFreeUptoRow : OpenClaim := { program := "ytgcoipcnhmkeaaa", sum := "7779181f4e166e57f5321c4c4a4b7054e32c9a607148e28cabb82a7fe2cc3b55", func := "cartulary/cartularylaw16.DirFree", spec := "dirFree", inPlace := ["maps.clone", "internal/bytealg.abigen_runtime_cmpstring"], unfollowed := true, recurses := true, apart := false, narrowed := true }
def DirFreeUptoSaid : Prop := dirFreeUptoRow.holds Try.pinned (OpenSpec.upto dirFreeSpec)

/-- 'cartularylaw16.DirApart', WHERE WHAT IT READS IS OF BULK AT MOST 1048576: true; the input reads as it did. -/
def dirApartUptoRow : OpenClaim := { program := "ytgcoipcnhmkeaaa", sum := "7779181f4e166e57f5321c4c4a4b7054e32c9a607148e28cabb82a7fe2cc3b55", func := "cartulary/cartularylaw16.DirApart", spec := "dirApart", inPlace := ["maps.clone", "internal/bytealg.abigen_runtime_cmpstring"], unfollowed := true, recurses := true, apart := false, narrowed := true }
def DirApartUptoSaid : Prop := dirApartUptoRow.holds Try.pinned (OpenSpec.upto dirApartSpec)

end Rows
end Go.Proofs.Ytgcoipcnhmkeaaa
