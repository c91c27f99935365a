/- A nil model does nothing. -/
import Derived.Test.YtbofhlifobjolaaGreatDoorSpeaksM
set_option linter.unusedVariables false
set_option linter.unusedSimpArgs false
namespace Go.Proofs.YtbofhlifobjolaaGreatDoor.Ax
open Go.RowKit

theorem nil_kr (W : World) : callKr (CC W) (knownM W) 1000000 7 [.agg (List.replicate 6 .bad)] AH.empty isT = true := by kernel_rfl
theorem nil_ret (W : World) : ACall (CC W) 7 [.agg (List.replicate 6 .bad)] AH.empty (fun v _ => v = .bool true) (fun _ _ => False) :=
  (callKr_sound (cc_ok W) (knownM_ok W) (nil_kr W)).mono (fun _ _ hv => isT_eq hv) fun _ _ h => h
end Go.Proofs.YtbofhlifobjolaaGreatDoor.Ax
