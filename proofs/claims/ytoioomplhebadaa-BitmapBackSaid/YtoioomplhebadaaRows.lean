/-
  No cell of these rows narrows 'for every input' (looked for: loops, veiled, ifaces, maps, wideKeys, modest, calm, conditions, laid).
  DERIVED. THE GIVEN ROWS OF THIS SEAT. 5 by the template 'for every input the law returns true; each argument reads behind the call as it read before'; 0 by the template 'total and deterministic' (their statements: YtoioomplhebadaaTotals.lean).
  GIVEN WITH THE SEED: the statements are not yours to turn. If you find one false, say at which input.
  Laid BY PROGRAM, IN A SANDBOX (cutbox-rows.mjs): the forced cells as the released guide's own fill.sh prints them over the translation e651e6cb37bf6344… (all of the seat's roots in one cut). By AI agents, Wed Nov 11 2026. No macro, syntax, notation, axiom, sorry.
-/
import Derived.Test.YtoioomplhebadaaChecked
import GoSem.Claim
import GoSem.ClaimJoined
import GoSem.ClaimMapViews
import Derived.JoinedTies
import Derived.KernelRfl
namespace Go.Proofs.Ytoioomplhebadaa
/- THE CELL 'sum', in the pinned program and in every row, IS THE sha256 OF THE DUMP (.gsa) THAT YtoioomplhebadaaProg.lean LOADS. Nothing in Lean hashes anything: it is a label: what it is worth is what the hold of that sum in a sandbox is worth. -/
noncomputable def Try.pinned : Pinned := { name := "ytoioomplhebadaa", sum := "e651e6cb37bf63444116a96bb11b759e1733d927098c44ec7c9a1630c7424bc0", checked := Try.checked }
namespace Rows
def none {H : Type} : Left H := { results := [], args := [] }

/-- 'cartularylaw11.BitmapBits': WHATEVER THE INPUT: true; the input reads as it did. -/
def bitmapBitsSpec : ChangeSpec := { name := "bitmapBits", fn := fun _ => fun
  | [d1, d2, d3] => { results := [.lit (.bool true)], args := [d1, d2, d3] }
  | _ => none }
def bitmapBitsRow : OpenClaim := { program := "ytoioomplhebadaa", sum := "e651e6cb37bf63444116a96bb11b759e1733d927098c44ec7c9a1630c7424bc0", func := "cartulary/cartularylaw11.BitmapBits", spec := "bitmapBits", apart := false }
def BitmapBitsSaid : Prop := bitmapBitsRow.holds Try.pinned (OpenSpec.ofChange bitmapBitsSpec)

/-- ITS FALSE NEIGHBOUR: 'it returns false'. Refute it at one input. -/
def bitmapBitsWrong : ChangeSpec := { name := "bitmapBits", fn := fun _ => fun
  | [d1, d2, d3] => { results := [.lit (.bool false)], args := [d1, d2, d3] }
  | _ => none }
def BitmapBitsWrongFalsely : Prop := bitmapBitsRow.holds Try.pinned (OpenSpec.ofChange bitmapBitsWrong)

/-- 'cartularylaw11.BitmapRanges': WHATEVER THE INPUT: true; the input reads as it did. -/
def bitmapRangesSpec : ChangeSpec := { name := "bitmapRanges", fn := fun _ => fun
  | [d1, d2] => { results := [.lit (.bool true)], args := [d1, d2] }
  | _ => none }
def bitmapRangesRow : OpenClaim := { program := "ytoioomplhebadaa", sum := "e651e6cb37bf63444116a96bb11b759e1733d927098c44ec7c9a1630c7424bc0", func := "cartulary/cartularylaw11.BitmapRanges", spec := "bitmapRanges", apart := false }
def BitmapRangesSaid : Prop := bitmapRangesRow.holds Try.pinned (OpenSpec.ofChange bitmapRangesSpec)

/-- ITS FALSE NEIGHBOUR: 'it returns false'. Refute it at one input. -/
def bitmapRangesWrong : ChangeSpec := { name := "bitmapRanges", fn := fun _ => fun
  | [d1, d2] => { results := [.lit (.bool false)], args := [d1, d2] }
  | _ => none }
def BitmapRangesWrongFalsely : Prop := bitmapRangesRow.holds Try.pinned (OpenSpec.ofChange bitmapRangesWrong)

/-- 'cartularylaw11.BitmapBack': WHATEVER THE INPUT: true; the input reads as it did. -/
def bitmapBackSpec : ChangeSpec := { name := "bitmapBack", fn := fun _ => fun
  | [d1, d2, d3] => { results := [.lit (.bool true)], args := [d1, d2, d3] }
  | _ => none }
def bitmapBackRow : OpenClaim := { program := "ytoioomplhebadaa", sum := "e651e6cb37bf63444116a96bb11b759e1733d927098c44ec7c9a1630c7424bc0", func := "cartulary/cartularylaw11.BitmapBack", spec := "bitmapBack", apart := false }
def BitmapBackSaid : Prop := bitmapBackRow.holds Try.pinned (OpenSpec.ofChange bitmapBackSpec)

/-- ITS FALSE NEIGHBOUR: 'it returns false'. Refute it at one input. -/
def bitmapBackWrong : ChangeSpec := { name := "bitmapBack", fn := fun _ => fun
  | [d1, d2, d3] => { results := [.lit (.bool false)], args := [d1, d2, d3] }
  | _ => none }
def BitmapBackWrongFalsely : Prop := bitmapBackRow.holds Try.pinned (OpenSpec.ofChange bitmapBackWrong)

/-- 'cartularylaw11.BitmapRow': WHATEVER THE INPUT: true; the input reads as it did. -/
def bitmapRowSpec : ChangeSpec := { name := "bitmapRow", fn := fun _ => fun
  | [d1, d2] => { results := [.lit (.bool true)], args := [d1, d2] }
  | _ => none }
def bitmapRowRow : OpenClaim := { program := "ytoioomplhebadaa", sum := "e651e6cb37bf63444116a96bb11b759e1733d927098c44ec7c9a1630c7424bc0", func := "cartulary/cartularylaw11.BitmapRow", spec := "bitmapRow", apart := false }
def BitmapRowSaid : Prop := bitmapRowRow.holds Try.pinned (OpenSpec.ofChange bitmapRowSpec)

/-- ITS FALSE NEIGHBOUR: 'it returns false'. Refute it at one input. -/
def bitmapRowWrong : ChangeSpec := { name := "bitmapRow", fn := fun _ => fun
  | [d1, d2] => { results := [.lit (.bool false)], args := [d1, d2] }
  | _ => none }
def BitmapRowWrongFalsely : Prop := bitmapRowRow.holds Try.pinned (OpenSpec.ofChange bitmapRowWrong)

/-- 'cartularylaw11.BitmapSum': WHATEVER THE INPUT: true; the input reads as it did. -/
def bitmapSumSpec : ChangeSpec := { name := "bitmapSum", fn := fun _ => fun
  | [d1, d2, d3] => { results := [.lit (.bool true)], args := [d1, d2, d3] }
  | _ => none }
def bitmapSumRow : OpenClaim := { program := "ytoioomplhebadaa", sum := "e651e6cb37bf63444116a96bb11b759e1733d927098c44ec7c9a1630c7424bc0", func := "cartulary/cartularylaw11.BitmapSum", spec := "bitmapSum", apart := false }
def BitmapSumSaid : Prop := bitmapSumRow.holds Try.pinned (OpenSpec.ofChange bitmapSumSpec)

/-- ITS FALSE NEIGHBOUR: 'it returns false'. Refute it at one input. -/
def bitmapSumWrong : ChangeSpec := { name := "bitmapSum", fn := fun _ => fun
  | [d1, d2, d3] => { results := [.lit (.bool false)], args := [d1, d2, d3] }
  | _ => none }
def BitmapSumWrongFalsely : Prop := bitmapSumRow.holds Try.pinned (OpenSpec.ofChange bitmapSumWrong)

/- THE SECOND FORM. 'bulk': how many values and letters a reading holds, each counted each time it is reached (what is shared counts as often as it is met; a slice's spare places count too). A statement '..UptoSaid' is the law's where the arguments, and the package variables that the reading takes, are together of bulk at most 1048576: NARROWER than '..Said'. Prove '..Said' where nothing that the law and all that it calls make is longer than what came in: it says more and counts as full. Else prove '..UptoSaid'. A law counts once. -/
mutual
def uptoBulk {H : Type} : DataW H → Nat
  | .lit (.string bytes) => bytes.length + 1
  | .lit _ => 1
  | .nil => 1
  | .ptr d => uptoBulk d + 1
  | .slice elems spare => uptoBulkAll elems + uptoBulkAll spare + 1
  | .agg parts => uptoBulkAll parts + 1
  | .iface _ d => uptoBulk d + 1
  | .map entries => uptoBulkEntries entries + 1
  | .held _ => 1
def uptoBulkAll {H : Type} : List (DataW H) → Nat
  | [] => 0
  | d :: r => uptoBulk d + uptoBulkAll r
def uptoBulkEntries {H : Type} : List (Lit × DataW H) → Nat
  | [] => 0
  | x :: r => uptoBulkEntry x + uptoBulkEntries r
def uptoBulkEntry {H : Type} : Lit × DataW H → Nat
  | (.string bytes, d) => bytes.length + uptoBulk d + 1
  | (_, d) => uptoBulk d + 1
 end
def uptoSmall : (H : Type) → List (DataW H) → Bool := fun _ ds => decide (uptoBulkAll ds ≤ 1048576)
def OpenSpec.upto (s : _root_.Go.ChangeSpec) : _root_.Go.OpenSpec := { _root_.Go.OpenSpec.ofChange s with cond := some uptoSmall }

/-- 'cartularylaw11.BitmapBits', WHERE WHAT IT READS IS OF BULK AT MOST 1048576: true; the input reads as it did. -/
def bitmapBitsUptoRow : OpenClaim := { program := "ytoioomplhebadaa", sum := "e651e6cb37bf63444116a96bb11b759e1733d927098c44ec7c9a1630c7424bc0", func := "cartulary/cartularylaw11.BitmapBits", spec := "bitmapBits", apart := false, narrowed := true }
def BitmapBitsUptoSaid : Prop := bitmapBitsUptoRow.holds Try.pinned (OpenSpec.upto bitmapBitsSpec)

/-- 'cartularylaw11.BitmapRanges', WHERE WHAT IT READS IS OF BULK AT MOST 1048576: true; the input reads as it did. -/
def bitmapRangesUptoRow : OpenClaim := { program := "ytoioomplhebadaa", sum := "e651e6cb37bf63444116a96bb11b759e1733d927098c44ec7c9a1630c7424bc0", func := "cartulary/cartularylaw11.BitmapRanges", spec := "bitmapRanges", apart := false, narrowed := true }
def BitmapRangesUptoSaid : Prop := bitmapRangesUptoRow.holds Try.pinned (OpenSpec.upto bitmapRangesSpec)

/-- 'cartularylaw11.BitmapBack', WHERE WHAT IT READS IS OF BULK AT MOST 1048576: true; the input reads as it did. -/
def bitmapBackUptoRow : OpenClaim := { program := "ytoioomplhebadaa", sum := "e651e6cb37bf63444116a96bb11b759e1733d927098c44ec7c9a1630c7424bc0", func := "cartulary/cartularylaw11.BitmapBack", spec := "bitmapBack", apart := false, narrowed := true }
def BitmapBackUptoSaid : Prop := bitmapBackUptoRow.holds Try.pinned (OpenSpec.upto bitmapBackSpec)

/-- 'cartularylaw11.BitmapRow', WHERE WHAT IT READS IS OF BULK AT MOST 1048576: true; the input reads as it did. -/
def bitmapRowUptoRow : OpenClaim := { program := "ytoioomplhebadaa", sum := "e651e6cb37bf63444116a96bb11b759e1733d927098c44ec7c9a1630c7424bc0", func := "cartulary/cartularylaw11.BitmapRow", spec := "bitmapRow", apart := false, narrowed := true }
def BitmapRowUptoSaid : Prop := bitmapRowUptoRow.holds Try.pinned (OpenSpec.upto bitmapRowSpec)

/-- 'cartularylaw11.BitmapSum', WHERE WHAT IT READS IS OF BULK AT MOST 1048576: true; the input reads as it did. -/
def bitmapSumUptoRow : OpenClaim := { program := "ytoioomplhebadaa", sum := "e651e6cb37bf63444116a96bb11b759e1733d927098c44ec7c9a1630c7424bc0", func := "cartulary/cartularylaw11.BitmapSum", spec := "bitmapSum", apart := false, narrowed := true }
def BitmapSumUptoSaid : Prop := bitmapSumUptoRow.holds Try.pinned (OpenSpec.upto bitmapSumSpec)

end Rows
end Go.Proofs.Ytoioomplhebadaa
