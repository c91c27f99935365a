/- The texts Tab2, as one. -/
import Derived.Test.YtbofhlifobjolaaGreatDoorGc

/-! One cell's load; a field's address: by the types' numbers -/
section
set_option linter.unusedVariables false
set_option linter.unusedSimpArgs false
set_option maxRecDepth 100000
namespace Go.Proofs.YtbofhlifobjolaaGreatDoor.Ax
open Go.RowKit
section
variable {W : World} {h : AH} {a : AA} {j p : Nat}
theorem ld1 : aLoad (CC W) h 1 a = aCell (CC W) h a := by unfold aLoad; rw [ty1]; rfl
theorem ld2 : aLoad (CC W) h 2 a = aCell (CC W) h a := by unfold aLoad; rw [ty2]; rfl
theorem ld3 : aLoad (CC W) h 3 a = aCell (CC W) h a := by unfold aLoad; rw [ty3]; rfl
theorem ld4 : aLoad (CC W) h 4 a = aCell (CC W) h a := by unfold aLoad; rw [ty4]; rfl
theorem ld5 : aLoad (CC W) h 5 a = aCell (CC W) h a := by unfold aLoad; rw [ty5]; rfl
theorem ld6 : aLoad (CC W) h 6 a = aCell (CC W) h a := by unfold aLoad; rw [ty6]; rfl
theorem fa7_0 : aFieldAddr (CC W) 7 (.ptr (some (.new j p))) 0 = some (.ptr (some (.new j (p)))) := by simp only [aFieldAddr, aOff, kind7]; rfl
theorem fa7_1 : aFieldAddr (CC W) 7 (.ptr (some (.new j p))) 1 = some (.ptr (some (.new j (p + 1)))) := by simp only [aFieldAddr, aOff, kind7]; rfl
theorem fa7_2 : aFieldAddr (CC W) 7 (.ptr (some (.new j p))) 2 = some (.ptr (some (.new j (p + 2)))) := by simp only [aFieldAddr, aOff, kind7]; rfl
theorem fa7_3 : aFieldAddr (CC W) 7 (.ptr (some (.new j p))) 3 = some (.ptr (some (.new j (p + 3)))) := by simp only [aFieldAddr, aOff, kind7]; rfl
theorem fa8_0 : aFieldAddr (CC W) 8 (.ptr (some (.new j p))) 0 = some (.ptr (some (.new j (p)))) := by simp only [aFieldAddr, aOff, kind8]; rfl
theorem fa8_1 : aFieldAddr (CC W) 8 (.ptr (some (.new j p))) 1 = some (.ptr (some (.new j (p + 1)))) := by simp only [aFieldAddr, aOff, kind8]; rfl
theorem fa8_2 : aFieldAddr (CC W) 8 (.ptr (some (.new j p))) 2 = some (.ptr (some (.new j (p + 2)))) := by simp only [aFieldAddr, aOff, kind8]; rfl
theorem fa8_3 : aFieldAddr (CC W) 8 (.ptr (some (.new j p))) 3 = some (.ptr (some (.new j (p + 3)))) := by simp only [aFieldAddr, aOff, kind8]; rfl
theorem ld9 : aLoad (CC W) h 9 a = aCell (CC W) h a := by unfold aLoad; rw [ty9]; rfl
theorem ld10 : aLoad (CC W) h 10 a = aCell (CC W) h a := by unfold aLoad; rw [ty10]; rfl
theorem ld11 : aLoad (CC W) h 11 a = aCell (CC W) h a := by unfold aLoad; rw [ty11]; rfl
theorem ld12 : aLoad (CC W) h 12 a = aCell (CC W) h a := by unfold aLoad; rw [ty12]; rfl
theorem fa13_0 : aFieldAddr (CC W) 13 (.ptr (some (.new j p))) 0 = some (.ptr (some (.new j (p)))) := by simp only [aFieldAddr, aOff, kind13]; rfl
theorem fa13_1 : aFieldAddr (CC W) 13 (.ptr (some (.new j p))) 1 = some (.ptr (some (.new j (p + 1)))) := by simp only [aFieldAddr, aOff, kind13]; rfl
theorem fa14_0 : aFieldAddr (CC W) 14 (.ptr (some (.new j p))) 0 = some (.ptr (some (.new j (p)))) := by simp only [aFieldAddr, aOff, kind14]; rfl
theorem fa14_1 : aFieldAddr (CC W) 14 (.ptr (some (.new j p))) 1 = some (.ptr (some (.new j (p + 1)))) := by simp only [aFieldAddr, aOff, kind14]; rfl
theorem ld15 : aLoad (CC W) h 15 a = aCell (CC W) h a := by unfold aLoad; rw [ty15]; rfl
theorem ld16 : aLoad (CC W) h 16 a = aCell (CC W) h a := by unfold aLoad; rw [ty16]; rfl
theorem ld17 : aLoad (CC W) h 17 a = aCell (CC W) h a := by unfold aLoad; rw [ty17]; rfl
theorem fa18_0 : aFieldAddr (CC W) 18 (.ptr (some (.new j p))) 0 = some (.ptr (some (.new j (p)))) := by simp only [aFieldAddr, aOff, kind18]; rfl
theorem fa19_0 : aFieldAddr (CC W) 19 (.ptr (some (.new j p))) 0 = some (.ptr (some (.new j (p)))) := by simp only [aFieldAddr, aOff, kind19]; rfl
theorem ld20 : aLoad (CC W) h 20 a = aCell (CC W) h a := by unfold aLoad; rw [ty20]; rfl
theorem ld21 : aLoad (CC W) h 21 a = aCell (CC W) h a := by unfold aLoad; rw [ty21]; rfl
theorem fa22_0 : aFieldAddr (CC W) 22 (.ptr (some (.new j p))) 0 = some (.ptr (some (.new j (p)))) := by simp only [aFieldAddr, aOff, kind22]; rfl
theorem fa22_1 : aFieldAddr (CC W) 22 (.ptr (some (.new j p))) 1 = some (.ptr (some (.new j (p + 1)))) := by simp only [aFieldAddr, aOff, kind22]; rfl
theorem fa22_2 : aFieldAddr (CC W) 22 (.ptr (some (.new j p))) 2 = some (.ptr (some (.new j (p + 2)))) := by simp only [aFieldAddr, aOff, kind22]; rfl
theorem fa23_0 : aFieldAddr (CC W) 23 (.ptr (some (.new j p))) 0 = some (.ptr (some (.new j (p)))) := by simp only [aFieldAddr, aOff, kind23]; rfl
theorem fa23_1 : aFieldAddr (CC W) 23 (.ptr (some (.new j p))) 1 = some (.ptr (some (.new j (p + 1)))) := by simp only [aFieldAddr, aOff, kind23]; rfl
theorem fa23_2 : aFieldAddr (CC W) 23 (.ptr (some (.new j p))) 2 = some (.ptr (some (.new j (p + 2)))) := by simp only [aFieldAddr, aOff, kind23]; rfl
theorem ld24 : aLoad (CC W) h 24 a = aCell (CC W) h a := by unfold aLoad; rw [ty24]; rfl
theorem ld25 : aLoad (CC W) h 25 a = aCell (CC W) h a := by unfold aLoad; rw [ty25]; rfl
theorem ld26 : aLoad (CC W) h 26 a = aCell (CC W) h a := by unfold aLoad; rw [ty26]; rfl
theorem ld28 : aLoad (CC W) h 28 a = aCell (CC W) h a := by unfold aLoad; rw [ty28]; rfl
theorem ld29 : aLoad (CC W) h 29 a = aCell (CC W) h a := by unfold aLoad; rw [ty29]; rfl
theorem ld31 : aLoad (CC W) h 31 a = aCell (CC W) h a := by unfold aLoad; rw [ty31]; rfl
theorem ld32 : aLoad (CC W) h 32 a = aCell (CC W) h a := by unfold aLoad; rw [ty32]; rfl
theorem ld33 : aLoad (CC W) h 33 a = aCell (CC W) h a := by unfold aLoad; rw [ty33]; rfl
theorem fa34_0 : aFieldAddr (CC W) 34 (.ptr (some (.new j p))) 0 = some (.ptr (some (.new j (p)))) := by simp only [aFieldAddr, aOff, kind34]; rfl
theorem fa34_1 : aFieldAddr (CC W) 34 (.ptr (some (.new j p))) 1 = some (.ptr (some (.new j (p + 1)))) := by simp only [aFieldAddr, aOff, kind34]; rfl
theorem fa34_2 : aFieldAddr (CC W) 34 (.ptr (some (.new j p))) 2 = some (.ptr (some (.new j (p + 2)))) := by simp only [aFieldAddr, aOff, kind34]; rfl
theorem fa34_3 : aFieldAddr (CC W) 34 (.ptr (some (.new j p))) 3 = some (.ptr (some (.new j (p + 3)))) := by simp only [aFieldAddr, aOff, kind34]; rfl
theorem fa34_4 : aFieldAddr (CC W) 34 (.ptr (some (.new j p))) 4 = some (.ptr (some (.new j (p + 4)))) := by simp only [aFieldAddr, aOff, kind34]; rfl
theorem fa34_5 : aFieldAddr (CC W) 34 (.ptr (some (.new j p))) 5 = some (.ptr (some (.new j (p + 5)))) := by simp only [aFieldAddr, aOff, kind34]; rfl
theorem fa35_0 : aFieldAddr (CC W) 35 (.ptr (some (.new j p))) 0 = some (.ptr (some (.new j (p)))) := by simp only [aFieldAddr, aOff, kind35]; rfl
theorem fa35_1 : aFieldAddr (CC W) 35 (.ptr (some (.new j p))) 1 = some (.ptr (some (.new j (p + 1)))) := by simp only [aFieldAddr, aOff, kind35]; rfl
theorem fa35_2 : aFieldAddr (CC W) 35 (.ptr (some (.new j p))) 2 = some (.ptr (some (.new j (p + 2)))) := by simp only [aFieldAddr, aOff, kind35]; rfl
theorem fa35_3 : aFieldAddr (CC W) 35 (.ptr (some (.new j p))) 3 = some (.ptr (some (.new j (p + 3)))) := by simp only [aFieldAddr, aOff, kind35]; rfl
theorem fa35_4 : aFieldAddr (CC W) 35 (.ptr (some (.new j p))) 4 = some (.ptr (some (.new j (p + 4)))) := by simp only [aFieldAddr, aOff, kind35]; rfl
theorem fa35_5 : aFieldAddr (CC W) 35 (.ptr (some (.new j p))) 5 = some (.ptr (some (.new j (p + 5)))) := by simp only [aFieldAddr, aOff, kind35]; rfl
theorem ld36 : aLoad (CC W) h 36 a = aCell (CC W) h a := by unfold aLoad; rw [ty36]; rfl
theorem ld37 : aLoad (CC W) h 37 a = aCell (CC W) h a := by unfold aLoad; rw [ty37]; rfl
theorem fa38_0 : aFieldAddr (CC W) 38 (.ptr (some (.new j p))) 0 = some (.ptr (some (.new j (p)))) := by simp only [aFieldAddr, aOff, kind38]; rfl
theorem fa38_1 : aFieldAddr (CC W) 38 (.ptr (some (.new j p))) 1 = some (.ptr (some (.new j (p + 1)))) := by simp only [aFieldAddr, aOff, kind38]; rfl
theorem fa38_2 : aFieldAddr (CC W) 38 (.ptr (some (.new j p))) 2 = some (.ptr (some (.new j (p + 2)))) := by simp only [aFieldAddr, aOff, kind38]; rfl
theorem fa38_3 : aFieldAddr (CC W) 38 (.ptr (some (.new j p))) 3 = some (.ptr (some (.new j (p + 3)))) := by simp only [aFieldAddr, aOff, kind38]; rfl
theorem fa38_4 : aFieldAddr (CC W) 38 (.ptr (some (.new j p))) 4 = some (.ptr (some (.new j (p + 4)))) := by simp only [aFieldAddr, aOff, kind38]; rfl
theorem fa38_5 : aFieldAddr (CC W) 38 (.ptr (some (.new j p))) 5 = some (.ptr (some (.new j (p + 5)))) := by simp only [aFieldAddr, aOff, kind38]; rfl
theorem fa39_0 : aFieldAddr (CC W) 39 (.ptr (some (.new j p))) 0 = some (.ptr (some (.new j (p)))) := by simp only [aFieldAddr, aOff, kind39]; rfl
theorem fa39_1 : aFieldAddr (CC W) 39 (.ptr (some (.new j p))) 1 = some (.ptr (some (.new j (p + 1)))) := by simp only [aFieldAddr, aOff, kind39]; rfl
theorem fa39_2 : aFieldAddr (CC W) 39 (.ptr (some (.new j p))) 2 = some (.ptr (some (.new j (p + 2)))) := by simp only [aFieldAddr, aOff, kind39]; rfl
theorem fa39_3 : aFieldAddr (CC W) 39 (.ptr (some (.new j p))) 3 = some (.ptr (some (.new j (p + 3)))) := by simp only [aFieldAddr, aOff, kind39]; rfl
theorem fa39_4 : aFieldAddr (CC W) 39 (.ptr (some (.new j p))) 4 = some (.ptr (some (.new j (p + 4)))) := by simp only [aFieldAddr, aOff, kind39]; rfl
theorem fa39_5 : aFieldAddr (CC W) 39 (.ptr (some (.new j p))) 5 = some (.ptr (some (.new j (p + 5)))) := by simp only [aFieldAddr, aOff, kind39]; rfl
theorem ld40 : aLoad (CC W) h 40 a = aCell (CC W) h a := by unfold aLoad; rw [ty40]; rfl
theorem ld42 : aLoad (CC W) h 42 a = aCell (CC W) h a := by unfold aLoad; rw [ty42]; rfl
theorem ld43 : aLoad (CC W) h 43 a = aCell (CC W) h a := by unfold aLoad; rw [ty43]; rfl
theorem ld44 : aLoad (CC W) h 44 a = aCell (CC W) h a := by unfold aLoad; rw [ty44]; rfl
theorem ld45 : aLoad (CC W) h 45 a = aCell (CC W) h a := by unfold aLoad; rw [ty45]; rfl
theorem ld46 : aLoad (CC W) h 46 a = aCell (CC W) h a := by unfold aLoad; rw [ty46]; rfl
theorem ld47 : aLoad (CC W) h 47 a = aCell (CC W) h a := by unfold aLoad; rw [ty47]; rfl
theorem ld48 : aLoad (CC W) h 48 a = aCell (CC W) h a := by unfold aLoad; rw [ty48]; rfl
theorem ld49 : aLoad (CC W) h 49 a = aCell (CC W) h a := by unfold aLoad; rw [ty49]; rfl
theorem ld50 : aLoad (CC W) h 50 a = aCell (CC W) h a := by unfold aLoad; rw [ty50]; rfl
theorem ld51 : aLoad (CC W) h 51 a = aCell (CC W) h a := by unfold aLoad; rw [ty51]; rfl
theorem ld52 : aLoad (CC W) h 52 a = aCell (CC W) h a := by unfold aLoad; rw [ty52]; rfl
theorem ld53 : aLoad (CC W) h 53 a = aCell (CC W) h a := by unfold aLoad; rw [ty53]; rfl
theorem fa54_0 : aFieldAddr (CC W) 54 (.ptr (some (.new j p))) 0 = some (.ptr (some (.new j (p)))) := by simp only [aFieldAddr, aOff, kind54]; rfl
theorem fa54_1 : aFieldAddr (CC W) 54 (.ptr (some (.new j p))) 1 = some (.ptr (some (.new j (p + 1)))) := by simp only [aFieldAddr, aOff, kind54]; rfl
theorem fa54_2 : aFieldAddr (CC W) 54 (.ptr (some (.new j p))) 2 = some (.ptr (some (.new j (p + 2)))) := by simp only [aFieldAddr, aOff, kind54]; rfl
theorem fa54_3 : aFieldAddr (CC W) 54 (.ptr (some (.new j p))) 3 = some (.ptr (some (.new j (p + 3)))) := by simp only [aFieldAddr, aOff, kind54]; rfl
theorem fa54_4 : aFieldAddr (CC W) 54 (.ptr (some (.new j p))) 4 = some (.ptr (some (.new j (p + 4)))) := by simp only [aFieldAddr, aOff, kind54]; rfl
theorem fa54_5 : aFieldAddr (CC W) 54 (.ptr (some (.new j p))) 5 = some (.ptr (some (.new j (p + 5)))) := by simp only [aFieldAddr, aOff, kind54]; rfl
theorem fa54_6 : aFieldAddr (CC W) 54 (.ptr (some (.new j p))) 6 = some (.ptr (some (.new j (p + 6)))) := by simp only [aFieldAddr, aOff, kind54]; rfl
theorem fa55_0 : aFieldAddr (CC W) 55 (.ptr (some (.new j p))) 0 = some (.ptr (some (.new j (p)))) := by simp only [aFieldAddr, aOff, kind55]; rfl
theorem fa55_1 : aFieldAddr (CC W) 55 (.ptr (some (.new j p))) 1 = some (.ptr (some (.new j (p + 1)))) := by simp only [aFieldAddr, aOff, kind55]; rfl
theorem fa55_2 : aFieldAddr (CC W) 55 (.ptr (some (.new j p))) 2 = some (.ptr (some (.new j (p + 2)))) := by simp only [aFieldAddr, aOff, kind55]; rfl
theorem fa55_3 : aFieldAddr (CC W) 55 (.ptr (some (.new j p))) 3 = some (.ptr (some (.new j (p + 3)))) := by simp only [aFieldAddr, aOff, kind55]; rfl
theorem fa55_4 : aFieldAddr (CC W) 55 (.ptr (some (.new j p))) 4 = some (.ptr (some (.new j (p + 4)))) := by simp only [aFieldAddr, aOff, kind55]; rfl
theorem fa55_5 : aFieldAddr (CC W) 55 (.ptr (some (.new j p))) 5 = some (.ptr (some (.new j (p + 5)))) := by simp only [aFieldAddr, aOff, kind55]; rfl
theorem fa55_6 : aFieldAddr (CC W) 55 (.ptr (some (.new j p))) 6 = some (.ptr (some (.new j (p + 6)))) := by simp only [aFieldAddr, aOff, kind55]; rfl
theorem ld56 : aLoad (CC W) h 56 a = aCell (CC W) h a := by unfold aLoad; rw [ty56]; rfl
theorem ld57 : aLoad (CC W) h 57 a = aCell (CC W) h a := by unfold aLoad; rw [ty57]; rfl
theorem ld58 : aLoad (CC W) h 58 a = aCell (CC W) h a := by unfold aLoad; rw [ty58]; rfl
theorem fa59_0 : aFieldAddr (CC W) 59 (.ptr (some (.new j p))) 0 = some (.ptr (some (.new j (p)))) := by simp only [aFieldAddr, aOff, kind59]; rfl
theorem fa59_1 : aFieldAddr (CC W) 59 (.ptr (some (.new j p))) 1 = some (.ptr (some (.new j (p + 1)))) := by simp only [aFieldAddr, aOff, kind59]; rfl
theorem fa60_0 : aFieldAddr (CC W) 60 (.ptr (some (.new j p))) 0 = some (.ptr (some (.new j (p)))) := by simp only [aFieldAddr, aOff, kind60]; rfl
theorem fa60_1 : aFieldAddr (CC W) 60 (.ptr (some (.new j p))) 1 = some (.ptr (some (.new j (p + 1)))) := by simp only [aFieldAddr, aOff, kind60]; rfl
theorem ld61 : aLoad (CC W) h 61 a = aCell (CC W) h a := by unfold aLoad; rw [ty61]; rfl
theorem ld62 : aLoad (CC W) h 62 a = aCell (CC W) h a := by unfold aLoad; rw [ty62]; rfl
theorem ld63 : aLoad (CC W) h 63 a = aCell (CC W) h a := by unfold aLoad; rw [ty63]; rfl
theorem ld64 : aLoad (CC W) h 64 a = aCell (CC W) h a := by unfold aLoad; rw [ty64]; rfl
theorem ld66 : aLoad (CC W) h 66 a = aCell (CC W) h a := by unfold aLoad; rw [ty66]; rfl
theorem ld67 : aLoad (CC W) h 67 a = aCell (CC W) h a := by unfold aLoad; rw [ty67]; rfl
theorem fa68_0 : aFieldAddr (CC W) 68 (.ptr (some (.new j p))) 0 = some (.ptr (some (.new j (p)))) := by simp only [aFieldAddr, aOff, kind68]; rfl
theorem fa68_1 : aFieldAddr (CC W) 68 (.ptr (some (.new j p))) 1 = some (.ptr (some (.new j (p + 1)))) := by simp only [aFieldAddr, aOff, kind68]; rfl
theorem fa68_2 : aFieldAddr (CC W) 68 (.ptr (some (.new j p))) 2 = some (.ptr (some (.new j (p + 2)))) := by simp only [aFieldAddr, aOff, kind68]; rfl
theorem fa68_3 : aFieldAddr (CC W) 68 (.ptr (some (.new j p))) 3 = some (.ptr (some (.new j (p + 3)))) := by simp only [aFieldAddr, aOff, kind68]; rfl
theorem fa68_4 : aFieldAddr (CC W) 68 (.ptr (some (.new j p))) 4 = some (.ptr (some (.new j (p + 4)))) := by simp only [aFieldAddr, aOff, kind68]; rfl
theorem fa68_5 : aFieldAddr (CC W) 68 (.ptr (some (.new j p))) 5 = some (.ptr (some (.new j (p + 5)))) := by simp only [aFieldAddr, aOff, kind68]; rfl
theorem fa68_6 : aFieldAddr (CC W) 68 (.ptr (some (.new j p))) 6 = some (.ptr (some (.new j (p + 6)))) := by simp only [aFieldAddr, aOff, kind68]; rfl
theorem fa69_0 : aFieldAddr (CC W) 69 (.ptr (some (.new j p))) 0 = some (.ptr (some (.new j (p)))) := by simp only [aFieldAddr, aOff, kind69]; rfl
theorem fa69_1 : aFieldAddr (CC W) 69 (.ptr (some (.new j p))) 1 = some (.ptr (some (.new j (p + 1)))) := by simp only [aFieldAddr, aOff, kind69]; rfl
theorem fa69_2 : aFieldAddr (CC W) 69 (.ptr (some (.new j p))) 2 = some (.ptr (some (.new j (p + 2)))) := by simp only [aFieldAddr, aOff, kind69]; rfl
theorem fa69_3 : aFieldAddr (CC W) 69 (.ptr (some (.new j p))) 3 = some (.ptr (some (.new j (p + 3)))) := by simp only [aFieldAddr, aOff, kind69]; rfl
theorem fa69_4 : aFieldAddr (CC W) 69 (.ptr (some (.new j p))) 4 = some (.ptr (some (.new j (p + 4)))) := by simp only [aFieldAddr, aOff, kind69]; rfl
theorem fa69_5 : aFieldAddr (CC W) 69 (.ptr (some (.new j p))) 5 = some (.ptr (some (.new j (p + 5)))) := by simp only [aFieldAddr, aOff, kind69]; rfl
theorem fa69_6 : aFieldAddr (CC W) 69 (.ptr (some (.new j p))) 6 = some (.ptr (some (.new j (p + 6)))) := by simp only [aFieldAddr, aOff, kind69]; rfl
theorem ld70 : aLoad (CC W) h 70 a = aCell (CC W) h a := by unfold aLoad; rw [ty70]; rfl
theorem ld71 : aLoad (CC W) h 71 a = aCell (CC W) h a := by unfold aLoad; rw [ty71]; rfl
theorem fa72_0 : aFieldAddr (CC W) 72 (.ptr (some (.new j p))) 0 = some (.ptr (some (.new j (p)))) := by simp only [aFieldAddr, aOff, kind72]; rfl
theorem fa72_1 : aFieldAddr (CC W) 72 (.ptr (some (.new j p))) 1 = some (.ptr (some (.new j (p + 12)))) := by simp only [aFieldAddr, aOff, kind72]; rfl
theorem fa72_2 : aFieldAddr (CC W) 72 (.ptr (some (.new j p))) 2 = some (.ptr (some (.new j (p + 13)))) := by simp only [aFieldAddr, aOff, kind72]; rfl
theorem fa73_0 : aFieldAddr (CC W) 73 (.ptr (some (.new j p))) 0 = some (.ptr (some (.new j (p)))) := by simp only [aFieldAddr, aOff, kind73]; rfl
theorem fa73_1 : aFieldAddr (CC W) 73 (.ptr (some (.new j p))) 1 = some (.ptr (some (.new j (p + 12)))) := by simp only [aFieldAddr, aOff, kind73]; rfl
theorem fa73_2 : aFieldAddr (CC W) 73 (.ptr (some (.new j p))) 2 = some (.ptr (some (.new j (p + 13)))) := by simp only [aFieldAddr, aOff, kind73]; rfl
theorem fa74_0 : aFieldAddr (CC W) 74 (.ptr (some (.new j p))) 0 = some (.ptr (some (.new j (p)))) := by simp only [aFieldAddr, aOff, kind74]; rfl
theorem fa74_1 : aFieldAddr (CC W) 74 (.ptr (some (.new j p))) 1 = some (.ptr (some (.new j (p + 1)))) := by simp only [aFieldAddr, aOff, kind74]; rfl
theorem fa74_2 : aFieldAddr (CC W) 74 (.ptr (some (.new j p))) 2 = some (.ptr (some (.new j (p + 2)))) := by simp only [aFieldAddr, aOff, kind74]; rfl
theorem fa74_3 : aFieldAddr (CC W) 74 (.ptr (some (.new j p))) 3 = some (.ptr (some (.new j (p + 3)))) := by simp only [aFieldAddr, aOff, kind74]; rfl
theorem fa75_0 : aFieldAddr (CC W) 75 (.ptr (some (.new j p))) 0 = some (.ptr (some (.new j (p)))) := by simp only [aFieldAddr, aOff, kind75]; rfl
theorem fa75_1 : aFieldAddr (CC W) 75 (.ptr (some (.new j p))) 1 = some (.ptr (some (.new j (p + 1)))) := by simp only [aFieldAddr, aOff, kind75]; rfl
theorem fa75_2 : aFieldAddr (CC W) 75 (.ptr (some (.new j p))) 2 = some (.ptr (some (.new j (p + 2)))) := by simp only [aFieldAddr, aOff, kind75]; rfl
theorem fa75_3 : aFieldAddr (CC W) 75 (.ptr (some (.new j p))) 3 = some (.ptr (some (.new j (p + 3)))) := by simp only [aFieldAddr, aOff, kind75]; rfl
theorem ld76 : aLoad (CC W) h 76 a = aCell (CC W) h a := by unfold aLoad; rw [ty76]; rfl
theorem fa77_0 : aFieldAddr (CC W) 77 (.ptr (some (.new j p))) 0 = some (.ptr (some (.new j (p)))) := by simp only [aFieldAddr, aOff, kind77]; rfl
theorem fa77_1 : aFieldAddr (CC W) 77 (.ptr (some (.new j p))) 1 = some (.ptr (some (.new j (p + 1)))) := by simp only [aFieldAddr, aOff, kind77]; rfl
theorem fa77_2 : aFieldAddr (CC W) 77 (.ptr (some (.new j p))) 2 = some (.ptr (some (.new j (p + 2)))) := by simp only [aFieldAddr, aOff, kind77]; rfl
theorem fa77_3 : aFieldAddr (CC W) 77 (.ptr (some (.new j p))) 3 = some (.ptr (some (.new j (p + 3)))) := by simp only [aFieldAddr, aOff, kind77]; rfl
theorem fa78_0 : aFieldAddr (CC W) 78 (.ptr (some (.new j p))) 0 = some (.ptr (some (.new j (p)))) := by simp only [aFieldAddr, aOff, kind78]; rfl
theorem fa78_1 : aFieldAddr (CC W) 78 (.ptr (some (.new j p))) 1 = some (.ptr (some (.new j (p + 1)))) := by simp only [aFieldAddr, aOff, kind78]; rfl
theorem fa78_2 : aFieldAddr (CC W) 78 (.ptr (some (.new j p))) 2 = some (.ptr (some (.new j (p + 2)))) := by simp only [aFieldAddr, aOff, kind78]; rfl
theorem fa78_3 : aFieldAddr (CC W) 78 (.ptr (some (.new j p))) 3 = some (.ptr (some (.new j (p + 3)))) := by simp only [aFieldAddr, aOff, kind78]; rfl
theorem ld79 : aLoad (CC W) h 79 a = aCell (CC W) h a := by unfold aLoad; rw [ty79]; rfl
theorem ld80 : aLoad (CC W) h 80 a = aCell (CC W) h a := by unfold aLoad; rw [ty80]; rfl
theorem fa81_0 : aFieldAddr (CC W) 81 (.ptr (some (.new j p))) 0 = some (.ptr (some (.new j (p)))) := by simp only [aFieldAddr, aOff, kind81]; rfl
theorem fa81_1 : aFieldAddr (CC W) 81 (.ptr (some (.new j p))) 1 = some (.ptr (some (.new j (p + 1)))) := by simp only [aFieldAddr, aOff, kind81]; rfl
theorem fa81_2 : aFieldAddr (CC W) 81 (.ptr (some (.new j p))) 2 = some (.ptr (some (.new j (p + 2)))) := by simp only [aFieldAddr, aOff, kind81]; rfl
theorem fa81_3 : aFieldAddr (CC W) 81 (.ptr (some (.new j p))) 3 = some (.ptr (some (.new j (p + 3)))) := by simp only [aFieldAddr, aOff, kind81]; rfl
theorem fa81_4 : aFieldAddr (CC W) 81 (.ptr (some (.new j p))) 4 = some (.ptr (some (.new j (p + 4)))) := by simp only [aFieldAddr, aOff, kind81]; rfl
theorem fa82_0 : aFieldAddr (CC W) 82 (.ptr (some (.new j p))) 0 = some (.ptr (some (.new j (p)))) := by simp only [aFieldAddr, aOff, kind82]; rfl
theorem fa82_1 : aFieldAddr (CC W) 82 (.ptr (some (.new j p))) 1 = some (.ptr (some (.new j (p + 1)))) := by simp only [aFieldAddr, aOff, kind82]; rfl
theorem fa82_2 : aFieldAddr (CC W) 82 (.ptr (some (.new j p))) 2 = some (.ptr (some (.new j (p + 2)))) := by simp only [aFieldAddr, aOff, kind82]; rfl
theorem fa82_3 : aFieldAddr (CC W) 82 (.ptr (some (.new j p))) 3 = some (.ptr (some (.new j (p + 3)))) := by simp only [aFieldAddr, aOff, kind82]; rfl
theorem fa82_4 : aFieldAddr (CC W) 82 (.ptr (some (.new j p))) 4 = some (.ptr (some (.new j (p + 4)))) := by simp only [aFieldAddr, aOff, kind82]; rfl
theorem ld84 : aLoad (CC W) h 84 a = aCell (CC W) h a := by unfold aLoad; rw [ty84]; rfl
theorem ld85 : aLoad (CC W) h 85 a = aCell (CC W) h a := by unfold aLoad; rw [ty85]; rfl
theorem ld86 : aLoad (CC W) h 86 a = aCell (CC W) h a := by unfold aLoad; rw [ty86]; rfl
theorem fa87_0 : aFieldAddr (CC W) 87 (.ptr (some (.new j p))) 0 = some (.ptr (some (.new j (p)))) := by simp only [aFieldAddr, aOff, kind87]; rfl
theorem fa87_1 : aFieldAddr (CC W) 87 (.ptr (some (.new j p))) 1 = some (.ptr (some (.new j (p + 1)))) := by simp only [aFieldAddr, aOff, kind87]; rfl
theorem fa87_2 : aFieldAddr (CC W) 87 (.ptr (some (.new j p))) 2 = some (.ptr (some (.new j (p + 2)))) := by simp only [aFieldAddr, aOff, kind87]; rfl
theorem fa88_0 : aFieldAddr (CC W) 88 (.ptr (some (.new j p))) 0 = some (.ptr (some (.new j (p)))) := by simp only [aFieldAddr, aOff, kind88]; rfl
theorem fa88_1 : aFieldAddr (CC W) 88 (.ptr (some (.new j p))) 1 = some (.ptr (some (.new j (p + 1)))) := by simp only [aFieldAddr, aOff, kind88]; rfl
theorem fa88_2 : aFieldAddr (CC W) 88 (.ptr (some (.new j p))) 2 = some (.ptr (some (.new j (p + 2)))) := by simp only [aFieldAddr, aOff, kind88]; rfl
theorem ld89 : aLoad (CC W) h 89 a = aCell (CC W) h a := by unfold aLoad; rw [ty89]; rfl
theorem ld90 : aLoad (CC W) h 90 a = aCell (CC W) h a := by unfold aLoad; rw [ty90]; rfl
theorem ld91 : aLoad (CC W) h 91 a = aCell (CC W) h a := by unfold aLoad; rw [ty91]; rfl
theorem fa92_0 : aFieldAddr (CC W) 92 (.ptr (some (.new j p))) 0 = some (.ptr (some (.new j (p)))) := by simp only [aFieldAddr, aOff, kind92]; rfl
theorem fa92_1 : aFieldAddr (CC W) 92 (.ptr (some (.new j p))) 1 = some (.ptr (some (.new j (p + 1)))) := by simp only [aFieldAddr, aOff, kind92]; rfl
theorem fa92_2 : aFieldAddr (CC W) 92 (.ptr (some (.new j p))) 2 = some (.ptr (some (.new j (p + 2)))) := by simp only [aFieldAddr, aOff, kind92]; rfl
theorem fa92_3 : aFieldAddr (CC W) 92 (.ptr (some (.new j p))) 3 = some (.ptr (some (.new j (p + 3)))) := by simp only [aFieldAddr, aOff, kind92]; rfl
theorem fa92_4 : aFieldAddr (CC W) 92 (.ptr (some (.new j p))) 4 = some (.ptr (some (.new j (p + 4)))) := by simp only [aFieldAddr, aOff, kind92]; rfl
theorem fa93_0 : aFieldAddr (CC W) 93 (.ptr (some (.new j p))) 0 = some (.ptr (some (.new j (p)))) := by simp only [aFieldAddr, aOff, kind93]; rfl
theorem fa93_1 : aFieldAddr (CC W) 93 (.ptr (some (.new j p))) 1 = some (.ptr (some (.new j (p + 1)))) := by simp only [aFieldAddr, aOff, kind93]; rfl
theorem fa93_2 : aFieldAddr (CC W) 93 (.ptr (some (.new j p))) 2 = some (.ptr (some (.new j (p + 2)))) := by simp only [aFieldAddr, aOff, kind93]; rfl
theorem fa93_3 : aFieldAddr (CC W) 93 (.ptr (some (.new j p))) 3 = some (.ptr (some (.new j (p + 3)))) := by simp only [aFieldAddr, aOff, kind93]; rfl
theorem fa93_4 : aFieldAddr (CC W) 93 (.ptr (some (.new j p))) 4 = some (.ptr (some (.new j (p + 4)))) := by simp only [aFieldAddr, aOff, kind93]; rfl
theorem ld94 : aLoad (CC W) h 94 a = aCell (CC W) h a := by unfold aLoad; rw [ty94]; rfl
theorem fa95_0 : aFieldAddr (CC W) 95 (.ptr (some (.new j p))) 0 = some (.ptr (some (.new j (p)))) := by simp only [aFieldAddr, aOff, kind95]; rfl
theorem fa95_1 : aFieldAddr (CC W) 95 (.ptr (some (.new j p))) 1 = some (.ptr (some (.new j (p + 1)))) := by simp only [aFieldAddr, aOff, kind95]; rfl
theorem fa95_2 : aFieldAddr (CC W) 95 (.ptr (some (.new j p))) 2 = some (.ptr (some (.new j (p + 2)))) := by simp only [aFieldAddr, aOff, kind95]; rfl
theorem fa96_0 : aFieldAddr (CC W) 96 (.ptr (some (.new j p))) 0 = some (.ptr (some (.new j (p)))) := by simp only [aFieldAddr, aOff, kind96]; rfl
theorem fa96_1 : aFieldAddr (CC W) 96 (.ptr (some (.new j p))) 1 = some (.ptr (some (.new j (p + 1)))) := by simp only [aFieldAddr, aOff, kind96]; rfl
theorem fa96_2 : aFieldAddr (CC W) 96 (.ptr (some (.new j p))) 2 = some (.ptr (some (.new j (p + 2)))) := by simp only [aFieldAddr, aOff, kind96]; rfl
theorem ld97 : aLoad (CC W) h 97 a = aCell (CC W) h a := by unfold aLoad; rw [ty97]; rfl
theorem ld98 : aLoad (CC W) h 98 a = aCell (CC W) h a := by unfold aLoad; rw [ty98]; rfl
theorem fa99_0 : aFieldAddr (CC W) 99 (.ptr (some (.new j p))) 0 = some (.ptr (some (.new j (p)))) := by simp only [aFieldAddr, aOff, kind99]; rfl
theorem fa99_1 : aFieldAddr (CC W) 99 (.ptr (some (.new j p))) 1 = some (.ptr (some (.new j (p + 1)))) := by simp only [aFieldAddr, aOff, kind99]; rfl
theorem fa99_2 : aFieldAddr (CC W) 99 (.ptr (some (.new j p))) 2 = some (.ptr (some (.new j (p + 2)))) := by simp only [aFieldAddr, aOff, kind99]; rfl
theorem fa99_3 : aFieldAddr (CC W) 99 (.ptr (some (.new j p))) 3 = some (.ptr (some (.new j (p + 3)))) := by simp only [aFieldAddr, aOff, kind99]; rfl
theorem fa99_4 : aFieldAddr (CC W) 99 (.ptr (some (.new j p))) 4 = some (.ptr (some (.new j (p + 4)))) := by simp only [aFieldAddr, aOff, kind99]; rfl
theorem fa99_5 : aFieldAddr (CC W) 99 (.ptr (some (.new j p))) 5 = some (.ptr (some (.new j (p + 5)))) := by simp only [aFieldAddr, aOff, kind99]; rfl
theorem fa99_6 : aFieldAddr (CC W) 99 (.ptr (some (.new j p))) 6 = some (.ptr (some (.new j (p + 6)))) := by simp only [aFieldAddr, aOff, kind99]; rfl
theorem fa100_0 : aFieldAddr (CC W) 100 (.ptr (some (.new j p))) 0 = some (.ptr (some (.new j (p)))) := by simp only [aFieldAddr, aOff, kind100]; rfl
theorem fa100_1 : aFieldAddr (CC W) 100 (.ptr (some (.new j p))) 1 = some (.ptr (some (.new j (p + 1)))) := by simp only [aFieldAddr, aOff, kind100]; rfl
theorem fa100_2 : aFieldAddr (CC W) 100 (.ptr (some (.new j p))) 2 = some (.ptr (some (.new j (p + 2)))) := by simp only [aFieldAddr, aOff, kind100]; rfl
theorem fa100_3 : aFieldAddr (CC W) 100 (.ptr (some (.new j p))) 3 = some (.ptr (some (.new j (p + 3)))) := by simp only [aFieldAddr, aOff, kind100]; rfl
theorem fa100_4 : aFieldAddr (CC W) 100 (.ptr (some (.new j p))) 4 = some (.ptr (some (.new j (p + 4)))) := by simp only [aFieldAddr, aOff, kind100]; rfl
theorem fa100_5 : aFieldAddr (CC W) 100 (.ptr (some (.new j p))) 5 = some (.ptr (some (.new j (p + 5)))) := by simp only [aFieldAddr, aOff, kind100]; rfl
theorem fa100_6 : aFieldAddr (CC W) 100 (.ptr (some (.new j p))) 6 = some (.ptr (some (.new j (p + 6)))) := by simp only [aFieldAddr, aOff, kind100]; rfl
theorem ld101 : aLoad (CC W) h 101 a = aCell (CC W) h a := by unfold aLoad; rw [ty101]; rfl
theorem ld102 : aLoad (CC W) h 102 a = aCell (CC W) h a := by unfold aLoad; rw [ty102]; rfl
theorem ld103 : aLoad (CC W) h 103 a = aCell (CC W) h a := by unfold aLoad; rw [ty103]; rfl
theorem ld104 : aLoad (CC W) h 104 a = aCell (CC W) h a := by unfold aLoad; rw [ty104]; rfl
theorem ld106 : aLoad (CC W) h 106 a = aCell (CC W) h a := by unfold aLoad; rw [ty106]; rfl
theorem ld107 : aLoad (CC W) h 107 a = aCell (CC W) h a := by unfold aLoad; rw [ty107]; rfl
theorem fa108_0 : aFieldAddr (CC W) 108 (.ptr (some (.new j p))) 0 = some (.ptr (some (.new j (p)))) := by simp only [aFieldAddr, aOff, kind108]; rfl
theorem fa108_1 : aFieldAddr (CC W) 108 (.ptr (some (.new j p))) 1 = some (.ptr (some (.new j (p + 1)))) := by simp only [aFieldAddr, aOff, kind108]; rfl
theorem fa108_2 : aFieldAddr (CC W) 108 (.ptr (some (.new j p))) 2 = some (.ptr (some (.new j (p + 2)))) := by simp only [aFieldAddr, aOff, kind108]; rfl
theorem fa108_3 : aFieldAddr (CC W) 108 (.ptr (some (.new j p))) 3 = some (.ptr (some (.new j (p + 3)))) := by simp only [aFieldAddr, aOff, kind108]; rfl
theorem fa108_4 : aFieldAddr (CC W) 108 (.ptr (some (.new j p))) 4 = some (.ptr (some (.new j (p + 4)))) := by simp only [aFieldAddr, aOff, kind108]; rfl
theorem fa108_5 : aFieldAddr (CC W) 108 (.ptr (some (.new j p))) 5 = some (.ptr (some (.new j (p + 5)))) := by simp only [aFieldAddr, aOff, kind108]; rfl
theorem fa108_6 : aFieldAddr (CC W) 108 (.ptr (some (.new j p))) 6 = some (.ptr (some (.new j (p + 6)))) := by simp only [aFieldAddr, aOff, kind108]; rfl
theorem ld109 : aLoad (CC W) h 109 a = aCell (CC W) h a := by unfold aLoad; rw [ty109]; rfl
theorem ld110 : aLoad (CC W) h 110 a = aCell (CC W) h a := by unfold aLoad; rw [ty110]; rfl
theorem ld111 : aLoad (CC W) h 111 a = aCell (CC W) h a := by unfold aLoad; rw [ty111]; rfl
theorem ld112 : aLoad (CC W) h 112 a = aCell (CC W) h a := by unfold aLoad; rw [ty112]; rfl
theorem ld113 : aLoad (CC W) h 113 a = aCell (CC W) h a := by unfold aLoad; rw [ty113]; rfl
theorem ld114 : aLoad (CC W) h 114 a = aCell (CC W) h a := by unfold aLoad; rw [ty114]; rfl
theorem ld115 : aLoad (CC W) h 115 a = aCell (CC W) h a := by unfold aLoad; rw [ty115]; rfl
theorem ld116 : aLoad (CC W) h 116 a = aCell (CC W) h a := by unfold aLoad; rw [ty116]; rfl
theorem ld117 : aLoad (CC W) h 117 a = aCell (CC W) h a := by unfold aLoad; rw [ty117]; rfl
theorem ld118 : aLoad (CC W) h 118 a = aCell (CC W) h a := by unfold aLoad; rw [ty118]; rfl
theorem ld119 : aLoad (CC W) h 119 a = aCell (CC W) h a := by unfold aLoad; rw [ty119]; rfl
theorem ld120 : aLoad (CC W) h 120 a = aCell (CC W) h a := by unfold aLoad; rw [ty120]; rfl
theorem ld121 : aLoad (CC W) h 121 a = aCell (CC W) h a := by unfold aLoad; rw [ty121]; rfl
theorem ld122 : aLoad (CC W) h 122 a = aCell (CC W) h a := by unfold aLoad; rw [ty122]; rfl
theorem ld123 : aLoad (CC W) h 123 a = aCell (CC W) h a := by unfold aLoad; rw [ty123]; rfl
theorem ld124 : aLoad (CC W) h 124 a = aCell (CC W) h a := by unfold aLoad; rw [ty124]; rfl
theorem fa125_0 : aFieldAddr (CC W) 125 (.ptr (some (.new j p))) 0 = some (.ptr (some (.new j (p)))) := by simp only [aFieldAddr, aOff, kind125]; rfl
theorem fa125_1 : aFieldAddr (CC W) 125 (.ptr (some (.new j p))) 1 = some (.ptr (some (.new j (p + 3)))) := by simp only [aFieldAddr, aOff, kind125]; rfl
theorem fa125_2 : aFieldAddr (CC W) 125 (.ptr (some (.new j p))) 2 = some (.ptr (some (.new j (p + 4)))) := by simp only [aFieldAddr, aOff, kind125]; rfl
theorem fa125_3 : aFieldAddr (CC W) 125 (.ptr (some (.new j p))) 3 = some (.ptr (some (.new j (p + 5)))) := by simp only [aFieldAddr, aOff, kind125]; rfl
theorem fa125_4 : aFieldAddr (CC W) 125 (.ptr (some (.new j p))) 4 = some (.ptr (some (.new j (p + 6)))) := by simp only [aFieldAddr, aOff, kind125]; rfl
theorem fa125_5 : aFieldAddr (CC W) 125 (.ptr (some (.new j p))) 5 = some (.ptr (some (.new j (p + 7)))) := by simp only [aFieldAddr, aOff, kind125]; rfl
theorem fa125_6 : aFieldAddr (CC W) 125 (.ptr (some (.new j p))) 6 = some (.ptr (some (.new j (p + 21)))) := by simp only [aFieldAddr, aOff, kind125]; rfl
theorem fa126_0 : aFieldAddr (CC W) 126 (.ptr (some (.new j p))) 0 = some (.ptr (some (.new j (p)))) := by simp only [aFieldAddr, aOff, kind126]; rfl
theorem fa126_1 : aFieldAddr (CC W) 126 (.ptr (some (.new j p))) 1 = some (.ptr (some (.new j (p + 3)))) := by simp only [aFieldAddr, aOff, kind126]; rfl
theorem fa126_2 : aFieldAddr (CC W) 126 (.ptr (some (.new j p))) 2 = some (.ptr (some (.new j (p + 4)))) := by simp only [aFieldAddr, aOff, kind126]; rfl
theorem fa126_3 : aFieldAddr (CC W) 126 (.ptr (some (.new j p))) 3 = some (.ptr (some (.new j (p + 5)))) := by simp only [aFieldAddr, aOff, kind126]; rfl
theorem fa126_4 : aFieldAddr (CC W) 126 (.ptr (some (.new j p))) 4 = some (.ptr (some (.new j (p + 6)))) := by simp only [aFieldAddr, aOff, kind126]; rfl
theorem fa126_5 : aFieldAddr (CC W) 126 (.ptr (some (.new j p))) 5 = some (.ptr (some (.new j (p + 7)))) := by simp only [aFieldAddr, aOff, kind126]; rfl
theorem fa126_6 : aFieldAddr (CC W) 126 (.ptr (some (.new j p))) 6 = some (.ptr (some (.new j (p + 21)))) := by simp only [aFieldAddr, aOff, kind126]; rfl
theorem fa127_0 : aFieldAddr (CC W) 127 (.ptr (some (.new j p))) 0 = some (.ptr (some (.new j (p)))) := by simp only [aFieldAddr, aOff, kind127]; rfl
theorem fa127_1 : aFieldAddr (CC W) 127 (.ptr (some (.new j p))) 1 = some (.ptr (some (.new j (p + 1)))) := by simp only [aFieldAddr, aOff, kind127]; rfl
theorem fa128_0 : aFieldAddr (CC W) 128 (.ptr (some (.new j p))) 0 = some (.ptr (some (.new j (p)))) := by simp only [aFieldAddr, aOff, kind128]; rfl
theorem fa128_1 : aFieldAddr (CC W) 128 (.ptr (some (.new j p))) 1 = some (.ptr (some (.new j (p + 1)))) := by simp only [aFieldAddr, aOff, kind128]; rfl
theorem ld129 : aLoad (CC W) h 129 a = aCell (CC W) h a := by unfold aLoad; rw [ty129]; rfl
theorem fa130_0 : aFieldAddr (CC W) 130 (.ptr (some (.new j p))) 0 = some (.ptr (some (.new j (p)))) := by simp only [aFieldAddr, aOff, kind130]; rfl
theorem fa130_1 : aFieldAddr (CC W) 130 (.ptr (some (.new j p))) 1 = some (.ptr (some (.new j (p + 6)))) := by simp only [aFieldAddr, aOff, kind130]; rfl
theorem fa130_2 : aFieldAddr (CC W) 130 (.ptr (some (.new j p))) 2 = some (.ptr (some (.new j (p + 7)))) := by simp only [aFieldAddr, aOff, kind130]; rfl
theorem fa130_3 : aFieldAddr (CC W) 130 (.ptr (some (.new j p))) 3 = some (.ptr (some (.new j (p + 8)))) := by simp only [aFieldAddr, aOff, kind130]; rfl
theorem fa131_0 : aFieldAddr (CC W) 131 (.ptr (some (.new j p))) 0 = some (.ptr (some (.new j (p)))) := by simp only [aFieldAddr, aOff, kind131]; rfl
theorem fa131_1 : aFieldAddr (CC W) 131 (.ptr (some (.new j p))) 1 = some (.ptr (some (.new j (p + 6)))) := by simp only [aFieldAddr, aOff, kind131]; rfl
theorem fa131_2 : aFieldAddr (CC W) 131 (.ptr (some (.new j p))) 2 = some (.ptr (some (.new j (p + 7)))) := by simp only [aFieldAddr, aOff, kind131]; rfl
theorem fa131_3 : aFieldAddr (CC W) 131 (.ptr (some (.new j p))) 3 = some (.ptr (some (.new j (p + 8)))) := by simp only [aFieldAddr, aOff, kind131]; rfl
theorem ld132 : aLoad (CC W) h 132 a = aCell (CC W) h a := by unfold aLoad; rw [ty132]; rfl
theorem ld134 : aLoad (CC W) h 134 a = aCell (CC W) h a := by unfold aLoad; rw [ty134]; rfl
theorem ld135 : aLoad (CC W) h 135 a = aCell (CC W) h a := by unfold aLoad; rw [ty135]; rfl
theorem ld136 : aLoad (CC W) h 136 a = aCell (CC W) h a := by unfold aLoad; rw [ty136]; rfl
theorem ld137 : aLoad (CC W) h 137 a = aCell (CC W) h a := by unfold aLoad; rw [ty137]; rfl
theorem ld139 : aLoad (CC W) h 139 a = aCell (CC W) h a := by unfold aLoad; rw [ty139]; rfl
theorem ld140 : aLoad (CC W) h 140 a = aCell (CC W) h a := by unfold aLoad; rw [ty140]; rfl
theorem ld142 : aLoad (CC W) h 142 a = aCell (CC W) h a := by unfold aLoad; rw [ty142]; rfl
theorem ld143 : aLoad (CC W) h 143 a = aCell (CC W) h a := by unfold aLoad; rw [ty143]; rfl
theorem ld144 : aLoad (CC W) h 144 a = aCell (CC W) h a := by unfold aLoad; rw [ty144]; rfl
theorem fa145_0 : aFieldAddr (CC W) 145 (.ptr (some (.new j p))) 0 = some (.ptr (some (.new j (p)))) := by simp only [aFieldAddr, aOff, kind145]; rfl
theorem fa145_1 : aFieldAddr (CC W) 145 (.ptr (some (.new j p))) 1 = some (.ptr (some (.new j (p + 1)))) := by simp only [aFieldAddr, aOff, kind145]; rfl
theorem fa146_0 : aFieldAddr (CC W) 146 (.ptr (some (.new j p))) 0 = some (.ptr (some (.new j (p)))) := by simp only [aFieldAddr, aOff, kind146]; rfl
theorem fa146_1 : aFieldAddr (CC W) 146 (.ptr (some (.new j p))) 1 = some (.ptr (some (.new j (p + 1)))) := by simp only [aFieldAddr, aOff, kind146]; rfl
theorem ld147 : aLoad (CC W) h 147 a = aCell (CC W) h a := by unfold aLoad; rw [ty147]; rfl
theorem ld148 : aLoad (CC W) h 148 a = aCell (CC W) h a := by unfold aLoad; rw [ty148]; rfl
theorem ld149 : aLoad (CC W) h 149 a = aCell (CC W) h a := by unfold aLoad; rw [ty149]; rfl
theorem ld150 : aLoad (CC W) h 150 a = aCell (CC W) h a := by unfold aLoad; rw [ty150]; rfl
theorem ld152 : aLoad (CC W) h 152 a = aCell (CC W) h a := by unfold aLoad; rw [ty152]; rfl
theorem ld153 : aLoad (CC W) h 153 a = aCell (CC W) h a := by unfold aLoad; rw [ty153]; rfl
theorem ld154 : aLoad (CC W) h 154 a = aCell (CC W) h a := by unfold aLoad; rw [ty154]; rfl
theorem ld156 : aLoad (CC W) h 156 a = aCell (CC W) h a := by unfold aLoad; rw [ty156]; rfl
theorem ld157 : aLoad (CC W) h 157 a = aCell (CC W) h a := by unfold aLoad; rw [ty157]; rfl
theorem fa158_0 : aFieldAddr (CC W) 158 (.ptr (some (.new j p))) 0 = some (.ptr (some (.new j (p)))) := by simp only [aFieldAddr, aOff, kind158]; rfl
theorem fa158_1 : aFieldAddr (CC W) 158 (.ptr (some (.new j p))) 1 = some (.ptr (some (.new j (p + 1)))) := by simp only [aFieldAddr, aOff, kind158]; rfl
theorem fa159_0 : aFieldAddr (CC W) 159 (.ptr (some (.new j p))) 0 = some (.ptr (some (.new j (p)))) := by simp only [aFieldAddr, aOff, kind159]; rfl
theorem fa159_1 : aFieldAddr (CC W) 159 (.ptr (some (.new j p))) 1 = some (.ptr (some (.new j (p + 1)))) := by simp only [aFieldAddr, aOff, kind159]; rfl
theorem ld160 : aLoad (CC W) h 160 a = aCell (CC W) h a := by unfold aLoad; rw [ty160]; rfl
theorem ld161 : aLoad (CC W) h 161 a = aCell (CC W) h a := by unfold aLoad; rw [ty161]; rfl
theorem ld162 : aLoad (CC W) h 162 a = aCell (CC W) h a := by unfold aLoad; rw [ty162]; rfl
theorem ld163 : aLoad (CC W) h 163 a = aCell (CC W) h a := by unfold aLoad; rw [ty163]; rfl
theorem ld164 : aLoad (CC W) h 164 a = aCell (CC W) h a := by unfold aLoad; rw [ty164]; rfl
theorem ld166 : aLoad (CC W) h 166 a = aCell (CC W) h a := by unfold aLoad; rw [ty166]; rfl
theorem ld167 : aLoad (CC W) h 167 a = aCell (CC W) h a := by unfold aLoad; rw [ty167]; rfl
theorem ld168 : aLoad (CC W) h 168 a = aCell (CC W) h a := by unfold aLoad; rw [ty168]; rfl
theorem ld169 : aLoad (CC W) h 169 a = aCell (CC W) h a := by unfold aLoad; rw [ty169]; rfl
theorem ld170 : aLoad (CC W) h 170 a = aCell (CC W) h a := by unfold aLoad; rw [ty170]; rfl
theorem ld171 : aLoad (CC W) h 171 a = aCell (CC W) h a := by unfold aLoad; rw [ty171]; rfl
theorem ld172 : aLoad (CC W) h 172 a = aCell (CC W) h a := by unfold aLoad; rw [ty172]; rfl
theorem ld174 : aLoad (CC W) h 174 a = aCell (CC W) h a := by unfold aLoad; rw [ty174]; rfl
theorem ld175 : aLoad (CC W) h 175 a = aCell (CC W) h a := by unfold aLoad; rw [ty175]; rfl
theorem ld176 : aLoad (CC W) h 176 a = aCell (CC W) h a := by unfold aLoad; rw [ty176]; rfl
theorem fa177_0 : aFieldAddr (CC W) 177 (.ptr (some (.new j p))) 0 = some (.ptr (some (.new j (p)))) := by simp only [aFieldAddr, aOff, kind177]; rfl
theorem fa177_1 : aFieldAddr (CC W) 177 (.ptr (some (.new j p))) 1 = some (.ptr (some (.new j (p + 1)))) := by simp only [aFieldAddr, aOff, kind177]; rfl
theorem fa178_0 : aFieldAddr (CC W) 178 (.ptr (some (.new j p))) 0 = some (.ptr (some (.new j (p)))) := by simp only [aFieldAddr, aOff, kind178]; rfl
theorem fa178_1 : aFieldAddr (CC W) 178 (.ptr (some (.new j p))) 1 = some (.ptr (some (.new j (p + 1)))) := by simp only [aFieldAddr, aOff, kind178]; rfl
theorem ld179 : aLoad (CC W) h 179 a = aCell (CC W) h a := by unfold aLoad; rw [ty179]; rfl
theorem ld180 : aLoad (CC W) h 180 a = aCell (CC W) h a := by unfold aLoad; rw [ty180]; rfl
theorem ld181 : aLoad (CC W) h 181 a = aCell (CC W) h a := by unfold aLoad; rw [ty181]; rfl
theorem ld182 : aLoad (CC W) h 182 a = aCell (CC W) h a := by unfold aLoad; rw [ty182]; rfl
theorem ld183 : aLoad (CC W) h 183 a = aCell (CC W) h a := by unfold aLoad; rw [ty183]; rfl
theorem ld184 : aLoad (CC W) h 184 a = aCell (CC W) h a := by unfold aLoad; rw [ty184]; rfl
theorem ld185 : aLoad (CC W) h 185 a = aCell (CC W) h a := by unfold aLoad; rw [ty185]; rfl
theorem ld186 : aLoad (CC W) h 186 a = aCell (CC W) h a := by unfold aLoad; rw [ty186]; rfl
theorem ld187 : aLoad (CC W) h 187 a = aCell (CC W) h a := by unfold aLoad; rw [ty187]; rfl
theorem ld188 : aLoad (CC W) h 188 a = aCell (CC W) h a := by unfold aLoad; rw [ty188]; rfl
theorem ld189 : aLoad (CC W) h 189 a = aCell (CC W) h a := by unfold aLoad; rw [ty189]; rfl
theorem ld190 : aLoad (CC W) h 190 a = aCell (CC W) h a := by unfold aLoad; rw [ty190]; rfl
theorem ld191 : aLoad (CC W) h 191 a = aCell (CC W) h a := by unfold aLoad; rw [ty191]; rfl
theorem ld192 : aLoad (CC W) h 192 a = aCell (CC W) h a := by unfold aLoad; rw [ty192]; rfl
theorem ld193 : aLoad (CC W) h 193 a = aCell (CC W) h a := by unfold aLoad; rw [ty193]; rfl
theorem ld195 : aLoad (CC W) h 195 a = aCell (CC W) h a := by unfold aLoad; rw [ty195]; rfl
theorem ld197 : aLoad (CC W) h 197 a = aCell (CC W) h a := by unfold aLoad; rw [ty197]; rfl
theorem ld198 : aLoad (CC W) h 198 a = aCell (CC W) h a := by unfold aLoad; rw [ty198]; rfl
theorem ld199 : aLoad (CC W) h 199 a = aCell (CC W) h a := by unfold aLoad; rw [ty199]; rfl
theorem ld200 : aLoad (CC W) h 200 a = aCell (CC W) h a := by unfold aLoad; rw [ty200]; rfl
theorem ld201 : aLoad (CC W) h 201 a = aCell (CC W) h a := by unfold aLoad; rw [ty201]; rfl
theorem ld203 : aLoad (CC W) h 203 a = aCell (CC W) h a := by unfold aLoad; rw [ty203]; rfl
theorem ld204 : aLoad (CC W) h 204 a = aCell (CC W) h a := by unfold aLoad; rw [ty204]; rfl
theorem ld206 : aLoad (CC W) h 206 a = aCell (CC W) h a := by unfold aLoad; rw [ty206]; rfl
theorem ld207 : aLoad (CC W) h 207 a = aCell (CC W) h a := by unfold aLoad; rw [ty207]; rfl
theorem ld208 : aLoad (CC W) h 208 a = aCell (CC W) h a := by unfold aLoad; rw [ty208]; rfl
theorem ld209 : aLoad (CC W) h 209 a = aCell (CC W) h a := by unfold aLoad; rw [ty209]; rfl
theorem ld210 : aLoad (CC W) h 210 a = aCell (CC W) h a := by unfold aLoad; rw [ty210]; rfl
theorem ld212 : aLoad (CC W) h 212 a = aCell (CC W) h a := by unfold aLoad; rw [ty212]; rfl
theorem ld213 : aLoad (CC W) h 213 a = aCell (CC W) h a := by unfold aLoad; rw [ty213]; rfl
theorem ld214 : aLoad (CC W) h 214 a = aCell (CC W) h a := by unfold aLoad; rw [ty214]; rfl
theorem ld215 : aLoad (CC W) h 215 a = aCell (CC W) h a := by unfold aLoad; rw [ty215]; rfl
theorem ld216 : aLoad (CC W) h 216 a = aCell (CC W) h a := by unfold aLoad; rw [ty216]; rfl
theorem ld217 : aLoad (CC W) h 217 a = aCell (CC W) h a := by unfold aLoad; rw [ty217]; rfl
theorem ld218 : aLoad (CC W) h 218 a = aCell (CC W) h a := by unfold aLoad; rw [ty218]; rfl
theorem ld219 : aLoad (CC W) h 219 a = aCell (CC W) h a := by unfold aLoad; rw [ty219]; rfl
theorem ld220 : aLoad (CC W) h 220 a = aCell (CC W) h a := by unfold aLoad; rw [ty220]; rfl
theorem ld221 : aLoad (CC W) h 221 a = aCell (CC W) h a := by unfold aLoad; rw [ty221]; rfl
theorem ld222 : aLoad (CC W) h 222 a = aCell (CC W) h a := by unfold aLoad; rw [ty222]; rfl
theorem ld223 : aLoad (CC W) h 223 a = aCell (CC W) h a := by unfold aLoad; rw [ty223]; rfl
theorem ld224 : aLoad (CC W) h 224 a = aCell (CC W) h a := by unfold aLoad; rw [ty224]; rfl
theorem ld225 : aLoad (CC W) h 225 a = aCell (CC W) h a := by unfold aLoad; rw [ty225]; rfl
theorem ld226 : aLoad (CC W) h 226 a = aCell (CC W) h a := by unfold aLoad; rw [ty226]; rfl
theorem ld227 : aLoad (CC W) h 227 a = aCell (CC W) h a := by unfold aLoad; rw [ty227]; rfl
theorem ld228 : aLoad (CC W) h 228 a = aCell (CC W) h a := by unfold aLoad; rw [ty228]; rfl
theorem ld229 : aLoad (CC W) h 229 a = aCell (CC W) h a := by unfold aLoad; rw [ty229]; rfl
theorem ld231 : aLoad (CC W) h 231 a = aCell (CC W) h a := by unfold aLoad; rw [ty231]; rfl
theorem ld232 : aLoad (CC W) h 232 a = aCell (CC W) h a := by unfold aLoad; rw [ty232]; rfl
theorem ld233 : aLoad (CC W) h 233 a = aCell (CC W) h a := by unfold aLoad; rw [ty233]; rfl
theorem ld235 : aLoad (CC W) h 235 a = aCell (CC W) h a := by unfold aLoad; rw [ty235]; rfl
theorem ld236 : aLoad (CC W) h 236 a = aCell (CC W) h a := by unfold aLoad; rw [ty236]; rfl
theorem ld237 : aLoad (CC W) h 237 a = aCell (CC W) h a := by unfold aLoad; rw [ty237]; rfl
theorem ld238 : aLoad (CC W) h 238 a = aCell (CC W) h a := by unfold aLoad; rw [ty238]; rfl
theorem ld239 : aLoad (CC W) h 239 a = aCell (CC W) h a := by unfold aLoad; rw [ty239]; rfl
theorem ld241 : aLoad (CC W) h 241 a = aCell (CC W) h a := by unfold aLoad; rw [ty241]; rfl
theorem ld242 : aLoad (CC W) h 242 a = aCell (CC W) h a := by unfold aLoad; rw [ty242]; rfl
theorem ld243 : aLoad (CC W) h 243 a = aCell (CC W) h a := by unfold aLoad; rw [ty243]; rfl
theorem ld244 : aLoad (CC W) h 244 a = aCell (CC W) h a := by unfold aLoad; rw [ty244]; rfl
theorem ld245 : aLoad (CC W) h 245 a = aCell (CC W) h a := by unfold aLoad; rw [ty245]; rfl
theorem ld246 : aLoad (CC W) h 246 a = aCell (CC W) h a := by unfold aLoad; rw [ty246]; rfl
theorem fa247_0 : aFieldAddr (CC W) 247 (.ptr (some (.new j p))) 0 = some (.ptr (some (.new j (p)))) := by simp only [aFieldAddr, aOff, kind247]; rfl
theorem fa248_0 : aFieldAddr (CC W) 248 (.ptr (some (.new j p))) 0 = some (.ptr (some (.new j (p)))) := by simp only [aFieldAddr, aOff, kind248]; rfl
theorem ld249 : aLoad (CC W) h 249 a = aCell (CC W) h a := by unfold aLoad; rw [ty249]; rfl
theorem ld250 : aLoad (CC W) h 250 a = aCell (CC W) h a := by unfold aLoad; rw [ty250]; rfl
theorem ld251 : aLoad (CC W) h 251 a = aCell (CC W) h a := by unfold aLoad; rw [ty251]; rfl
theorem ld252 : aLoad (CC W) h 252 a = aCell (CC W) h a := by unfold aLoad; rw [ty252]; rfl
theorem ld253 : aLoad (CC W) h 253 a = aCell (CC W) h a := by unfold aLoad; rw [ty253]; rfl
theorem ld254 : aLoad (CC W) h 254 a = aCell (CC W) h a := by unfold aLoad; rw [ty254]; rfl
theorem ld255 : aLoad (CC W) h 255 a = aCell (CC W) h a := by unfold aLoad; rw [ty255]; rfl
theorem ld256 : aLoad (CC W) h 256 a = aCell (CC W) h a := by unfold aLoad; rw [ty256]; rfl
theorem ld257 : aLoad (CC W) h 257 a = aCell (CC W) h a := by unfold aLoad; rw [ty257]; rfl
theorem ld258 : aLoad (CC W) h 258 a = aCell (CC W) h a := by unfold aLoad; rw [ty258]; rfl
theorem ld259 : aLoad (CC W) h 259 a = aCell (CC W) h a := by unfold aLoad; rw [ty259]; rfl
theorem ld260 : aLoad (CC W) h 260 a = aCell (CC W) h a := by unfold aLoad; rw [ty260]; rfl
theorem ld261 : aLoad (CC W) h 261 a = aCell (CC W) h a := by unfold aLoad; rw [ty261]; rfl
theorem ld262 : aLoad (CC W) h 262 a = aCell (CC W) h a := by unfold aLoad; rw [ty262]; rfl
theorem ld263 : aLoad (CC W) h 263 a = aCell (CC W) h a := by unfold aLoad; rw [ty263]; rfl
theorem ld264 : aLoad (CC W) h 264 a = aCell (CC W) h a := by unfold aLoad; rw [ty264]; rfl
theorem fa266_0 : aFieldAddr (CC W) 266 (.ptr (some (.new j p))) 0 = some (.ptr (some (.new j (p)))) := by simp only [aFieldAddr, aOff, kind266]; rfl
theorem fa266_1 : aFieldAddr (CC W) 266 (.ptr (some (.new j p))) 1 = some (.ptr (some (.new j (p + 1)))) := by simp only [aFieldAddr, aOff, kind266]; rfl
theorem fa267_0 : aFieldAddr (CC W) 267 (.ptr (some (.new j p))) 0 = some (.ptr (some (.new j (p)))) := by simp only [aFieldAddr, aOff, kind267]; rfl
theorem fa267_1 : aFieldAddr (CC W) 267 (.ptr (some (.new j p))) 1 = some (.ptr (some (.new j (p + 1)))) := by simp only [aFieldAddr, aOff, kind267]; rfl
theorem ld270 : aLoad (CC W) h 270 a = aCell (CC W) h a := by unfold aLoad; rw [ty270]; rfl
theorem ld271 : aLoad (CC W) h 271 a = aCell (CC W) h a := by unfold aLoad; rw [ty271]; rfl
theorem ld272 : aLoad (CC W) h 272 a = aCell (CC W) h a := by unfold aLoad; rw [ty272]; rfl
theorem ld273 : aLoad (CC W) h 273 a = aCell (CC W) h a := by unfold aLoad; rw [ty273]; rfl
theorem fa274_0 : aFieldAddr (CC W) 274 (.ptr (some (.new j p))) 0 = some (.ptr (some (.new j (p)))) := by simp only [aFieldAddr, aOff, kind274]; rfl
theorem fa274_1 : aFieldAddr (CC W) 274 (.ptr (some (.new j p))) 1 = some (.ptr (some (.new j (p + 1)))) := by simp only [aFieldAddr, aOff, kind274]; rfl
theorem fa274_2 : aFieldAddr (CC W) 274 (.ptr (some (.new j p))) 2 = some (.ptr (some (.new j (p + 2)))) := by simp only [aFieldAddr, aOff, kind274]; rfl
theorem fa274_3 : aFieldAddr (CC W) 274 (.ptr (some (.new j p))) 3 = some (.ptr (some (.new j (p + 3)))) := by simp only [aFieldAddr, aOff, kind274]; rfl
theorem fa275_0 : aFieldAddr (CC W) 275 (.ptr (some (.new j p))) 0 = some (.ptr (some (.new j (p)))) := by simp only [aFieldAddr, aOff, kind275]; rfl
theorem fa275_1 : aFieldAddr (CC W) 275 (.ptr (some (.new j p))) 1 = some (.ptr (some (.new j (p + 1)))) := by simp only [aFieldAddr, aOff, kind275]; rfl
theorem fa275_2 : aFieldAddr (CC W) 275 (.ptr (some (.new j p))) 2 = some (.ptr (some (.new j (p + 2)))) := by simp only [aFieldAddr, aOff, kind275]; rfl
theorem fa275_3 : aFieldAddr (CC W) 275 (.ptr (some (.new j p))) 3 = some (.ptr (some (.new j (p + 3)))) := by simp only [aFieldAddr, aOff, kind275]; rfl
theorem ld279 : aLoad (CC W) h 279 a = aCell (CC W) h a := by unfold aLoad; rw [ty279]; rfl
theorem ld280 : aLoad (CC W) h 280 a = aCell (CC W) h a := by unfold aLoad; rw [ty280]; rfl
theorem ld281 : aLoad (CC W) h 281 a = aCell (CC W) h a := by unfold aLoad; rw [ty281]; rfl
theorem ld282 : aLoad (CC W) h 282 a = aCell (CC W) h a := by unfold aLoad; rw [ty282]; rfl
theorem ld283 : aLoad (CC W) h 283 a = aCell (CC W) h a := by unfold aLoad; rw [ty283]; rfl
theorem fa284_0 : aFieldAddr (CC W) 284 (.ptr (some (.new j p))) 0 = some (.ptr (some (.new j (p)))) := by simp only [aFieldAddr, aOff, kind284]; rfl
theorem fa284_1 : aFieldAddr (CC W) 284 (.ptr (some (.new j p))) 1 = some (.ptr (some (.new j (p + 1)))) := by simp only [aFieldAddr, aOff, kind284]; rfl
theorem fa284_2 : aFieldAddr (CC W) 284 (.ptr (some (.new j p))) 2 = some (.ptr (some (.new j (p + 2)))) := by simp only [aFieldAddr, aOff, kind284]; rfl
theorem fa284_3 : aFieldAddr (CC W) 284 (.ptr (some (.new j p))) 3 = some (.ptr (some (.new j (p + 3)))) := by simp only [aFieldAddr, aOff, kind284]; rfl
theorem fa284_4 : aFieldAddr (CC W) 284 (.ptr (some (.new j p))) 4 = some (.ptr (some (.new j (p + 4)))) := by simp only [aFieldAddr, aOff, kind284]; rfl
theorem fa284_5 : aFieldAddr (CC W) 284 (.ptr (some (.new j p))) 5 = some (.ptr (some (.new j (p + 5)))) := by simp only [aFieldAddr, aOff, kind284]; rfl
theorem fa284_6 : aFieldAddr (CC W) 284 (.ptr (some (.new j p))) 6 = some (.ptr (some (.new j (p + 6)))) := by simp only [aFieldAddr, aOff, kind284]; rfl
theorem fa284_7 : aFieldAddr (CC W) 284 (.ptr (some (.new j p))) 7 = some (.ptr (some (.new j (p + 7)))) := by simp only [aFieldAddr, aOff, kind284]; rfl
theorem fa284_8 : aFieldAddr (CC W) 284 (.ptr (some (.new j p))) 8 = some (.ptr (some (.new j (p + 8)))) := by simp only [aFieldAddr, aOff, kind284]; rfl
theorem fa284_9 : aFieldAddr (CC W) 284 (.ptr (some (.new j p))) 9 = some (.ptr (some (.new j (p + 9)))) := by simp only [aFieldAddr, aOff, kind284]; rfl
theorem fa284_10 : aFieldAddr (CC W) 284 (.ptr (some (.new j p))) 10 = some (.ptr (some (.new j (p + 10)))) := by simp only [aFieldAddr, aOff, kind284]; rfl
theorem fa285_0 : aFieldAddr (CC W) 285 (.ptr (some (.new j p))) 0 = some (.ptr (some (.new j (p)))) := by simp only [aFieldAddr, aOff, kind285]; rfl
theorem fa285_1 : aFieldAddr (CC W) 285 (.ptr (some (.new j p))) 1 = some (.ptr (some (.new j (p + 1)))) := by simp only [aFieldAddr, aOff, kind285]; rfl
theorem fa285_2 : aFieldAddr (CC W) 285 (.ptr (some (.new j p))) 2 = some (.ptr (some (.new j (p + 2)))) := by simp only [aFieldAddr, aOff, kind285]; rfl
theorem fa285_3 : aFieldAddr (CC W) 285 (.ptr (some (.new j p))) 3 = some (.ptr (some (.new j (p + 3)))) := by simp only [aFieldAddr, aOff, kind285]; rfl
theorem fa285_4 : aFieldAddr (CC W) 285 (.ptr (some (.new j p))) 4 = some (.ptr (some (.new j (p + 4)))) := by simp only [aFieldAddr, aOff, kind285]; rfl
theorem fa285_5 : aFieldAddr (CC W) 285 (.ptr (some (.new j p))) 5 = some (.ptr (some (.new j (p + 5)))) := by simp only [aFieldAddr, aOff, kind285]; rfl
theorem fa285_6 : aFieldAddr (CC W) 285 (.ptr (some (.new j p))) 6 = some (.ptr (some (.new j (p + 6)))) := by simp only [aFieldAddr, aOff, kind285]; rfl
theorem fa285_7 : aFieldAddr (CC W) 285 (.ptr (some (.new j p))) 7 = some (.ptr (some (.new j (p + 7)))) := by simp only [aFieldAddr, aOff, kind285]; rfl
theorem fa285_8 : aFieldAddr (CC W) 285 (.ptr (some (.new j p))) 8 = some (.ptr (some (.new j (p + 8)))) := by simp only [aFieldAddr, aOff, kind285]; rfl
theorem fa285_9 : aFieldAddr (CC W) 285 (.ptr (some (.new j p))) 9 = some (.ptr (some (.new j (p + 9)))) := by simp only [aFieldAddr, aOff, kind285]; rfl
theorem fa285_10 : aFieldAddr (CC W) 285 (.ptr (some (.new j p))) 10 = some (.ptr (some (.new j (p + 10)))) := by simp only [aFieldAddr, aOff, kind285]; rfl
end
theorem cell_new {C : Cx} {h : AH} {k o : Nat} {cs : List AV} {t : TypeId} (hg : h.get k = some (.cells cs t)) : aCell C h (.new k o) = cs[o]? := by simp only [aCell, hg]
end Go.Proofs.YtbofhlifobjolaaGreatDoor.Ax
end
