/- The small case of the model's statements. -/
import Derived.Test.YtbofhlifobjolaaGreatDoorJoinK
import Derived.Test.YtbofhlifobjolaaGreatDoorSorted
import Derived.KernelRfl
set_option linter.unusedVariables false
set_option linter.unusedSimpArgs false
namespace Go.Proofs.YtbofhlifobjolaaGreatDoor.Ax
open Go.RowKit

def isT (v : AV) (_ : AH) : Bool := match v with | .bool b => b | _ => false
theorem isT_eq {v : AV} {h : AH} (hv : isT v h = true) : v = .bool true := by
  unfold isT at hv
  split at hv
  · rename_i b; rw [hv]
  · simp at hv

noncomputable def knownM (W : World) : Known := orKn (sortedKn 131 153 3) (joinKn (CC W) 97)
theorem knownM_ok (W : World) : KnownOK (CC W) (knownM W) := orKn_ok (sorted_known W) (join_known W)

theorem speaks_kr (W : World) : callKr (CC W) (knownM W) 1000000 15 [] AH.empty isT = true := by kernel_rfl
end Go.Proofs.YtbofhlifobjolaaGreatDoor.Ax
