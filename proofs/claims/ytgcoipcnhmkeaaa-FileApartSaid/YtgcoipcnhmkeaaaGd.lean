/- The texts Tab2, as one. -/
import Derived.Test.YtgcoipcnhmkeaaaGc

/-! One cell's load; a field's address: by the types' numbers -/
section
set_option linter.unusedVariables false
set_option linter.unusedSimpArgs false
set_option maxRecDepth 100000
namespace Go.Proofs.Ytgcoipcnhmkeaaa.Ax
open Go.RowKit
section
variable {W : World} {h : AH} {a : AA} {j p : Nat}
theorem ld3 : aLoad (CC W) h 3 a = aCell (CC W) h a := by unfold aLoad; rw [ty3]; rfl
theorem ld9 : aLoad (CC W) h 9 a = aCell (CC W) h a := by unfold aLoad; rw [ty9]; rfl
theorem fa23_0 : aFieldAddr (CC W) 23 (.ptr (some (.new j p))) 0 = some (.ptr (some (.new j (p)))) := by simp only [aFieldAddr, aOff, kind23]; rfl
theorem fa23_1 : aFieldAddr (CC W) 23 (.ptr (some (.new j p))) 1 = some (.ptr (some (.new j (p + 1)))) := by simp only [aFieldAddr, aOff, kind23]; rfl
theorem fa23_2 : aFieldAddr (CC W) 23 (.ptr (some (.new j p))) 2 = some (.ptr (some (.new j (p + 2)))) := by simp only [aFieldAddr, aOff, kind23]; rfl
theorem ld27 : aLoad (CC W) h 27 a = aCell (CC W) h a := by unfold aLoad; rw [ty27]; rfl
theorem fa33_0 : aFieldAddr (CC W) 33 (.ptr (some (.new j p))) 0 = some (.ptr (some (.new j (p)))) := by simp only [aFieldAddr, aOff, kind33]; rfl
theorem fa33_1 : aFieldAddr (CC W) 33 (.ptr (some (.new j p))) 1 = some (.ptr (some (.new j (p + 1)))) := by simp only [aFieldAddr, aOff, kind33]; rfl
theorem fa33_2 : aFieldAddr (CC W) 33 (.ptr (some (.new j p))) 2 = some (.ptr (some (.new j (p + 2)))) := by simp only [aFieldAddr, aOff, kind33]; rfl
theorem fa33_3 : aFieldAddr (CC W) 33 (.ptr (some (.new j p))) 3 = some (.ptr (some (.new j (p + 3)))) := by simp only [aFieldAddr, aOff, kind33]; rfl
theorem fa33_4 : aFieldAddr (CC W) 33 (.ptr (some (.new j p))) 4 = some (.ptr (some (.new j (p + 9)))) := by simp only [aFieldAddr, aOff, kind33]; rfl
theorem fa33_5 : aFieldAddr (CC W) 33 (.ptr (some (.new j p))) 5 = some (.ptr (some (.new j (p + 10)))) := by simp only [aFieldAddr, aOff, kind33]; rfl
theorem fa35_0 : aFieldAddr (CC W) 35 (.ptr (some (.new j p))) 0 = some (.ptr (some (.new j (p)))) := by simp only [aFieldAddr, aOff, kind35]; rfl
theorem fa35_1 : aFieldAddr (CC W) 35 (.ptr (some (.new j p))) 1 = some (.ptr (some (.new j (p + 1)))) := by simp only [aFieldAddr, aOff, kind35]; rfl
theorem fa35_2 : aFieldAddr (CC W) 35 (.ptr (some (.new j p))) 2 = some (.ptr (some (.new j (p + 2)))) := by simp only [aFieldAddr, aOff, kind35]; rfl
theorem fa35_4 : aFieldAddr (CC W) 35 (.ptr (some (.new j p))) 4 = some (.ptr (some (.new j (p + 4)))) := by simp only [aFieldAddr, aOff, kind35]; rfl
theorem ld45 : aLoad (CC W) h 45 a = aCell (CC W) h a := by unfold aLoad; rw [ty45]; rfl
theorem fa77_1 : aFieldAddr (CC W) 77 (.ptr (some (.new j p))) 1 = some (.ptr (some (.new j (p + 1)))) := by simp only [aFieldAddr, aOff, kind77]; rfl
theorem fa77_2 : aFieldAddr (CC W) 77 (.ptr (some (.new j p))) 2 = some (.ptr (some (.new j (p + 2)))) := by simp only [aFieldAddr, aOff, kind77]; rfl
theorem fa77_3 : aFieldAddr (CC W) 77 (.ptr (some (.new j p))) 3 = some (.ptr (some (.new j (p + 3)))) := by simp only [aFieldAddr, aOff, kind77]; rfl
theorem fa77_4 : aFieldAddr (CC W) 77 (.ptr (some (.new j p))) 4 = some (.ptr (some (.new j (p + 4)))) := by simp only [aFieldAddr, aOff, kind77]; rfl
theorem fa85_0 : aFieldAddr (CC W) 85 (.ptr (some (.new j p))) 0 = some (.ptr (some (.new j (p)))) := by simp only [aFieldAddr, aOff, kind85]; rfl
theorem fa85_1 : aFieldAddr (CC W) 85 (.ptr (some (.new j p))) 1 = some (.ptr (some (.new j (p + 3)))) := by simp only [aFieldAddr, aOff, kind85]; rfl
theorem fa85_2 : aFieldAddr (CC W) 85 (.ptr (some (.new j p))) 2 = some (.ptr (some (.new j (p + 8)))) := by simp only [aFieldAddr, aOff, kind85]; rfl
theorem fa85_3 : aFieldAddr (CC W) 85 (.ptr (some (.new j p))) 3 = some (.ptr (some (.new j (p + 9)))) := by simp only [aFieldAddr, aOff, kind85]; rfl
theorem fa85_4 : aFieldAddr (CC W) 85 (.ptr (some (.new j p))) 4 = some (.ptr (some (.new j (p + 10)))) := by simp only [aFieldAddr, aOff, kind85]; rfl
theorem fa175_0 : aFieldAddr (CC W) 175 (.ptr (some (.new j p))) 0 = some (.ptr (some (.new j (p)))) := by simp only [aFieldAddr, aOff, kind175]; rfl
theorem fa177_0 : aFieldAddr (CC W) 177 (.ptr (some (.new j p))) 0 = some (.ptr (some (.new j (p)))) := by simp only [aFieldAddr, aOff, kind177]; rfl
theorem fa177_1 : aFieldAddr (CC W) 177 (.ptr (some (.new j p))) 1 = some (.ptr (some (.new j (p + 1)))) := by simp only [aFieldAddr, aOff, kind177]; rfl
end
theorem ji9 {C : Cx} {h : AH} {k o : Nat} {cs : List AV} {t : TypeId} (hg : h.get k = some (.cells cs t)) : aCell C h (.new k o) = cs[o]? := by simp only [aCell, hg]
end Go.Proofs.Ytgcoipcnhmkeaaa.Ax
end
