/- The texts Tab2, as one. -/
import Derived.Test.YtbofhlifobjolaaGreatDoorGc

/-! One cell's load; a field's address: by the types' numbers -/
section
set_option linter.unusedVariables false
set_option linter.unusedSimpArgs false
set_option maxRecDepth 100000
namespace Go.Proofs.YtbofhlifobjolaaGreatDoor.Ax
open Go.RowKit
section
variable {W : World} {h : AH} {a : AA} {j p : Nat}
theorem ld3 : aLoad (CC W) h 3 a = aCell (CC W) h a := by unfold aLoad; rw [ty3]; rfl
theorem ld4 : aLoad (CC W) h 4 a = aCell (CC W) h a := by unfold aLoad; rw [ty4]; rfl
theorem ld9 : aLoad (CC W) h 9 a = aCell (CC W) h a := by unfold aLoad; rw [ty9]; rfl
theorem fa23_0 : aFieldAddr (CC W) 23 (.ptr (some (.new j p))) 0 = some (.ptr (some (.new j (p)))) := by simp only [aFieldAddr, aOff, kind23]; rfl
theorem fa23_1 : aFieldAddr (CC W) 23 (.ptr (some (.new j p))) 1 = some (.ptr (some (.new j (p + 1)))) := by simp only [aFieldAddr, aOff, kind23]; rfl
theorem fa23_2 : aFieldAddr (CC W) 23 (.ptr (some (.new j p))) 2 = some (.ptr (some (.new j (p + 2)))) := by simp only [aFieldAddr, aOff, kind23]; rfl
theorem ld26 : aLoad (CC W) h 26 a = aCell (CC W) h a := by unfold aLoad; rw [ty26]; rfl
theorem ld33 : aLoad (CC W) h 33 a = aCell (CC W) h a := by unfold aLoad; rw [ty33]; rfl
theorem fa35_0 : aFieldAddr (CC W) 35 (.ptr (some (.new j p))) 0 = some (.ptr (some (.new j (p)))) := by simp only [aFieldAddr, aOff, kind35]; rfl
theorem fa35_1 : aFieldAddr (CC W) 35 (.ptr (some (.new j p))) 1 = some (.ptr (some (.new j (p + 1)))) := by simp only [aFieldAddr, aOff, kind35]; rfl
theorem fa35_2 : aFieldAddr (CC W) 35 (.ptr (some (.new j p))) 2 = some (.ptr (some (.new j (p + 2)))) := by simp only [aFieldAddr, aOff, kind35]; rfl
theorem fa35_3 : aFieldAddr (CC W) 35 (.ptr (some (.new j p))) 3 = some (.ptr (some (.new j (p + 3)))) := by simp only [aFieldAddr, aOff, kind35]; rfl
theorem fa35_4 : aFieldAddr (CC W) 35 (.ptr (some (.new j p))) 4 = some (.ptr (some (.new j (p + 4)))) := by simp only [aFieldAddr, aOff, kind35]; rfl
theorem fa35_5 : aFieldAddr (CC W) 35 (.ptr (some (.new j p))) 5 = some (.ptr (some (.new j (p + 5)))) := by simp only [aFieldAddr, aOff, kind35]; rfl
theorem ld37 : aLoad (CC W) h 37 a = aCell (CC W) h a := by unfold aLoad; rw [ty37]; rfl
theorem fa39_0 : aFieldAddr (CC W) 39 (.ptr (some (.new j p))) 0 = some (.ptr (some (.new j (p)))) := by simp only [aFieldAddr, aOff, kind39]; rfl
theorem fa39_1 : aFieldAddr (CC W) 39 (.ptr (some (.new j p))) 1 = some (.ptr (some (.new j (p + 1)))) := by simp only [aFieldAddr, aOff, kind39]; rfl
theorem fa39_2 : aFieldAddr (CC W) 39 (.ptr (some (.new j p))) 2 = some (.ptr (some (.new j (p + 2)))) := by simp only [aFieldAddr, aOff, kind39]; rfl
theorem fa39_3 : aFieldAddr (CC W) 39 (.ptr (some (.new j p))) 3 = some (.ptr (some (.new j (p + 3)))) := by simp only [aFieldAddr, aOff, kind39]; rfl
theorem fa39_4 : aFieldAddr (CC W) 39 (.ptr (some (.new j p))) 4 = some (.ptr (some (.new j (p + 4)))) := by simp only [aFieldAddr, aOff, kind39]; rfl
theorem fa39_5 : aFieldAddr (CC W) 39 (.ptr (some (.new j p))) 5 = some (.ptr (some (.new j (p + 5)))) := by simp only [aFieldAddr, aOff, kind39]; rfl
theorem ld51 : aLoad (CC W) h 51 a = aCell (CC W) h a := by unfold aLoad; rw [ty51]; rfl
theorem ld53 : aLoad (CC W) h 53 a = aCell (CC W) h a := by unfold aLoad; rw [ty53]; rfl
theorem fa69_0 : aFieldAddr (CC W) 69 (.ptr (some (.new j p))) 0 = some (.ptr (some (.new j (p)))) := by simp only [aFieldAddr, aOff, kind69]; rfl
theorem fa69_1 : aFieldAddr (CC W) 69 (.ptr (some (.new j p))) 1 = some (.ptr (some (.new j (p + 1)))) := by simp only [aFieldAddr, aOff, kind69]; rfl
theorem fa69_4 : aFieldAddr (CC W) 69 (.ptr (some (.new j p))) 4 = some (.ptr (some (.new j (p + 4)))) := by simp only [aFieldAddr, aOff, kind69]; rfl
theorem fa69_5 : aFieldAddr (CC W) 69 (.ptr (some (.new j p))) 5 = some (.ptr (some (.new j (p + 5)))) := by simp only [aFieldAddr, aOff, kind69]; rfl
theorem fa69_6 : aFieldAddr (CC W) 69 (.ptr (some (.new j p))) 6 = some (.ptr (some (.new j (p + 6)))) := by simp only [aFieldAddr, aOff, kind69]; rfl
theorem ld70 : aLoad (CC W) h 70 a = aCell (CC W) h a := by unfold aLoad; rw [ty70]; rfl
theorem ld71 : aLoad (CC W) h 71 a = aCell (CC W) h a := by unfold aLoad; rw [ty71]; rfl
theorem fa73_0 : aFieldAddr (CC W) 73 (.ptr (some (.new j p))) 0 = some (.ptr (some (.new j (p)))) := by simp only [aFieldAddr, aOff, kind73]; rfl
theorem fa73_1 : aFieldAddr (CC W) 73 (.ptr (some (.new j p))) 1 = some (.ptr (some (.new j (p + 12)))) := by simp only [aFieldAddr, aOff, kind73]; rfl
theorem fa73_2 : aFieldAddr (CC W) 73 (.ptr (some (.new j p))) 2 = some (.ptr (some (.new j (p + 13)))) := by simp only [aFieldAddr, aOff, kind73]; rfl
theorem fa75_0 : aFieldAddr (CC W) 75 (.ptr (some (.new j p))) 0 = some (.ptr (some (.new j (p)))) := by simp only [aFieldAddr, aOff, kind75]; rfl
theorem fa75_1 : aFieldAddr (CC W) 75 (.ptr (some (.new j p))) 1 = some (.ptr (some (.new j (p + 1)))) := by simp only [aFieldAddr, aOff, kind75]; rfl
theorem fa75_2 : aFieldAddr (CC W) 75 (.ptr (some (.new j p))) 2 = some (.ptr (some (.new j (p + 2)))) := by simp only [aFieldAddr, aOff, kind75]; rfl
theorem fa75_3 : aFieldAddr (CC W) 75 (.ptr (some (.new j p))) 3 = some (.ptr (some (.new j (p + 3)))) := by simp only [aFieldAddr, aOff, kind75]; rfl
theorem fa78_0 : aFieldAddr (CC W) 78 (.ptr (some (.new j p))) 0 = some (.ptr (some (.new j (p)))) := by simp only [aFieldAddr, aOff, kind78]; rfl
theorem fa78_1 : aFieldAddr (CC W) 78 (.ptr (some (.new j p))) 1 = some (.ptr (some (.new j (p + 1)))) := by simp only [aFieldAddr, aOff, kind78]; rfl
theorem fa78_2 : aFieldAddr (CC W) 78 (.ptr (some (.new j p))) 2 = some (.ptr (some (.new j (p + 2)))) := by simp only [aFieldAddr, aOff, kind78]; rfl
theorem fa78_3 : aFieldAddr (CC W) 78 (.ptr (some (.new j p))) 3 = some (.ptr (some (.new j (p + 3)))) := by simp only [aFieldAddr, aOff, kind78]; rfl
theorem fa82_2 : aFieldAddr (CC W) 82 (.ptr (some (.new j p))) 2 = some (.ptr (some (.new j (p + 2)))) := by simp only [aFieldAddr, aOff, kind82]; rfl
theorem fa82_3 : aFieldAddr (CC W) 82 (.ptr (some (.new j p))) 3 = some (.ptr (some (.new j (p + 3)))) := by simp only [aFieldAddr, aOff, kind82]; rfl
theorem fa82_4 : aFieldAddr (CC W) 82 (.ptr (some (.new j p))) 4 = some (.ptr (some (.new j (p + 4)))) := by simp only [aFieldAddr, aOff, kind82]; rfl
theorem ld85 : aLoad (CC W) h 85 a = aCell (CC W) h a := by unfold aLoad; rw [ty85]; rfl
theorem ld86 : aLoad (CC W) h 86 a = aCell (CC W) h a := by unfold aLoad; rw [ty86]; rfl
theorem fa88_0 : aFieldAddr (CC W) 88 (.ptr (some (.new j p))) 0 = some (.ptr (some (.new j (p)))) := by simp only [aFieldAddr, aOff, kind88]; rfl
theorem fa88_1 : aFieldAddr (CC W) 88 (.ptr (some (.new j p))) 1 = some (.ptr (some (.new j (p + 1)))) := by simp only [aFieldAddr, aOff, kind88]; rfl
theorem fa88_2 : aFieldAddr (CC W) 88 (.ptr (some (.new j p))) 2 = some (.ptr (some (.new j (p + 2)))) := by simp only [aFieldAddr, aOff, kind88]; rfl
theorem ld89 : aLoad (CC W) h 89 a = aCell (CC W) h a := by unfold aLoad; rw [ty89]; rfl
theorem ld90 : aLoad (CC W) h 90 a = aCell (CC W) h a := by unfold aLoad; rw [ty90]; rfl
theorem ld91 : aLoad (CC W) h 91 a = aCell (CC W) h a := by unfold aLoad; rw [ty91]; rfl
theorem fa93_0 : aFieldAddr (CC W) 93 (.ptr (some (.new j p))) 0 = some (.ptr (some (.new j (p)))) := by simp only [aFieldAddr, aOff, kind93]; rfl
theorem fa93_1 : aFieldAddr (CC W) 93 (.ptr (some (.new j p))) 1 = some (.ptr (some (.new j (p + 1)))) := by simp only [aFieldAddr, aOff, kind93]; rfl
theorem fa93_2 : aFieldAddr (CC W) 93 (.ptr (some (.new j p))) 2 = some (.ptr (some (.new j (p + 2)))) := by simp only [aFieldAddr, aOff, kind93]; rfl
theorem fa93_3 : aFieldAddr (CC W) 93 (.ptr (some (.new j p))) 3 = some (.ptr (some (.new j (p + 3)))) := by simp only [aFieldAddr, aOff, kind93]; rfl
theorem fa93_4 : aFieldAddr (CC W) 93 (.ptr (some (.new j p))) 4 = some (.ptr (some (.new j (p + 4)))) := by simp only [aFieldAddr, aOff, kind93]; rfl
theorem ld94 : aLoad (CC W) h 94 a = aCell (CC W) h a := by unfold aLoad; rw [ty94]; rfl
theorem fa96_0 : aFieldAddr (CC W) 96 (.ptr (some (.new j p))) 0 = some (.ptr (some (.new j (p)))) := by simp only [aFieldAddr, aOff, kind96]; rfl
theorem fa96_1 : aFieldAddr (CC W) 96 (.ptr (some (.new j p))) 1 = some (.ptr (some (.new j (p + 1)))) := by simp only [aFieldAddr, aOff, kind96]; rfl
theorem fa96_2 : aFieldAddr (CC W) 96 (.ptr (some (.new j p))) 2 = some (.ptr (some (.new j (p + 2)))) := by simp only [aFieldAddr, aOff, kind96]; rfl
theorem ld122 : aLoad (CC W) h 122 a = aCell (CC W) h a := by unfold aLoad; rw [ty122]; rfl
theorem ld123 : aLoad (CC W) h 123 a = aCell (CC W) h a := by unfold aLoad; rw [ty123]; rfl
theorem ld124 : aLoad (CC W) h 124 a = aCell (CC W) h a := by unfold aLoad; rw [ty124]; rfl
theorem fa126_0 : aFieldAddr (CC W) 126 (.ptr (some (.new j p))) 0 = some (.ptr (some (.new j (p)))) := by simp only [aFieldAddr, aOff, kind126]; rfl
theorem fa126_1 : aFieldAddr (CC W) 126 (.ptr (some (.new j p))) 1 = some (.ptr (some (.new j (p + 3)))) := by simp only [aFieldAddr, aOff, kind126]; rfl
theorem fa126_2 : aFieldAddr (CC W) 126 (.ptr (some (.new j p))) 2 = some (.ptr (some (.new j (p + 4)))) := by simp only [aFieldAddr, aOff, kind126]; rfl
theorem fa126_3 : aFieldAddr (CC W) 126 (.ptr (some (.new j p))) 3 = some (.ptr (some (.new j (p + 5)))) := by simp only [aFieldAddr, aOff, kind126]; rfl
theorem fa126_4 : aFieldAddr (CC W) 126 (.ptr (some (.new j p))) 4 = some (.ptr (some (.new j (p + 6)))) := by simp only [aFieldAddr, aOff, kind126]; rfl
theorem fa126_5 : aFieldAddr (CC W) 126 (.ptr (some (.new j p))) 5 = some (.ptr (some (.new j (p + 7)))) := by simp only [aFieldAddr, aOff, kind126]; rfl
theorem fa126_6 : aFieldAddr (CC W) 126 (.ptr (some (.new j p))) 6 = some (.ptr (some (.new j (p + 21)))) := by simp only [aFieldAddr, aOff, kind126]; rfl
theorem fa128_0 : aFieldAddr (CC W) 128 (.ptr (some (.new j p))) 0 = some (.ptr (some (.new j (p)))) := by simp only [aFieldAddr, aOff, kind128]; rfl
theorem fa128_1 : aFieldAddr (CC W) 128 (.ptr (some (.new j p))) 1 = some (.ptr (some (.new j (p + 1)))) := by simp only [aFieldAddr, aOff, kind128]; rfl
theorem fa131_0 : aFieldAddr (CC W) 131 (.ptr (some (.new j p))) 0 = some (.ptr (some (.new j (p)))) := by simp only [aFieldAddr, aOff, kind131]; rfl
theorem fa131_1 : aFieldAddr (CC W) 131 (.ptr (some (.new j p))) 1 = some (.ptr (some (.new j (p + 6)))) := by simp only [aFieldAddr, aOff, kind131]; rfl
theorem fa131_2 : aFieldAddr (CC W) 131 (.ptr (some (.new j p))) 2 = some (.ptr (some (.new j (p + 7)))) := by simp only [aFieldAddr, aOff, kind131]; rfl
theorem fa131_3 : aFieldAddr (CC W) 131 (.ptr (some (.new j p))) 3 = some (.ptr (some (.new j (p + 8)))) := by simp only [aFieldAddr, aOff, kind131]; rfl
theorem ld144 : aLoad (CC W) h 144 a = aCell (CC W) h a := by unfold aLoad; rw [ty144]; rfl
theorem fa146_0 : aFieldAddr (CC W) 146 (.ptr (some (.new j p))) 0 = some (.ptr (some (.new j (p)))) := by simp only [aFieldAddr, aOff, kind146]; rfl
theorem fa146_1 : aFieldAddr (CC W) 146 (.ptr (some (.new j p))) 1 = some (.ptr (some (.new j (p + 1)))) := by simp only [aFieldAddr, aOff, kind146]; rfl
theorem fa159_0 : aFieldAddr (CC W) 159 (.ptr (some (.new j p))) 0 = some (.ptr (some (.new j (p)))) := by simp only [aFieldAddr, aOff, kind159]; rfl
theorem fa159_1 : aFieldAddr (CC W) 159 (.ptr (some (.new j p))) 1 = some (.ptr (some (.new j (p + 1)))) := by simp only [aFieldAddr, aOff, kind159]; rfl
theorem fa178_0 : aFieldAddr (CC W) 178 (.ptr (some (.new j p))) 0 = some (.ptr (some (.new j (p)))) := by simp only [aFieldAddr, aOff, kind178]; rfl
theorem fa178_1 : aFieldAddr (CC W) 178 (.ptr (some (.new j p))) 1 = some (.ptr (some (.new j (p + 1)))) := by simp only [aFieldAddr, aOff, kind178]; rfl
theorem fa248_0 : aFieldAddr (CC W) 248 (.ptr (some (.new j p))) 0 = some (.ptr (some (.new j (p)))) := by simp only [aFieldAddr, aOff, kind248]; rfl
end
theorem ji9 {C : Cx} {h : AH} {k o : Nat} {cs : List AV} {t : TypeId} (hg : h.get k = some (.cells cs t)) : aCell C h (.new k o) = cs[o]? := by simp only [aCell, hg]
end Go.Proofs.YtbofhlifobjolaaGreatDoor.Ax
end
