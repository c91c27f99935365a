/- A nil view has no inodes. -/
import Derived.Test.YtgcoipcnhmkeaaaSorted
import Derived.KernelRfl
set_option linter.unusedVariables false
set_option linter.unusedSimpArgs false
namespace Go.Proofs.Ytgcoipcnhmkeaaa.Ax
open Go.RowKit

def isT (v : AV) (_ : AH) : Bool := match v with | .bool b => b | _ => false
theorem isT_eq {v : AV} {h : AH} (hv : isT v h = true) : v = .bool true := by
  unfold isT at hv
  split at hv
  · rename_i b; rw [hv]
  · simp at hv

noncomputable def knownF : Known := sortedKn 38 68 3
theorem knownF_ok (W : World) : KnownOK (CC W) knownF := sorted_known W

theorem nil_kr (W : World) : callKr (CC W) knownF 1000000 6 [.bad, .bad, .bad] AH.empty isT = true := by kernel_rfl
theorem nil_ret (W : World) : ACall (CC W) 6 [.bad, .bad, .bad] AH.empty (fun v _ => v = .bool true) (fun _ _ => False) :=
  (callKr_sound (cc_ok W) (knownF_ok W) (nil_kr W)).mono (fun _ _ hv => isT_eq hv) fun _ _ h => h
end Go.Proofs.Ytgcoipcnhmkeaaa.Ax
