/- The texts Tab2, as one. -/
import Derived.Test.YtbofhlifobjolaaGreatDoorGc
section
set_option linter.unusedVariables false
set_option linter.unusedSimpArgs false
set_option maxRecDepth 100000
namespace Go.Proofs.YtbofhlifobjolaaGreatDoor.Ax
open Go.RowKit
section
variable {W:World} {h:AH} {a:AA} {j p:Nat}
theorem ld3:aLoad (CC W) h 3 a=aCell (CC W) h a:=by unfold aLoad; rw [ty3]; rfl
theorem ld4:aLoad (CC W) h 4 a=aCell (CC W) h a:=by unfold aLoad; rw [ty4]; rfl
theorem ld9:aLoad (CC W) h 9 a=aCell (CC W) h a:=by unfold aLoad; rw [ty9]; rfl
theorem fa23_0:aFieldAddr (CC W) 23 (.ptr (some (.new j p))) 0=some (.ptr (some (.new j (p)))):=by simp only [aFieldAddr,aOff,kind23]; rfl
theorem fa23_1:aFieldAddr (CC W) 23 (.ptr (some (.new j p))) 1=some (.ptr (some (.new j (p + 1)))):=by simp only [aFieldAddr,aOff,kind23]; rfl
theorem fa23_2:aFieldAddr (CC W) 23 (.ptr (some (.new j p))) 2=some (.ptr (some (.new j (p + 2)))):=by simp only [aFieldAddr,aOff,kind23]; rfl
theorem ld26:aLoad (CC W) h 26 a=aCell (CC W) h a:=by unfold aLoad; rw [ty26]; rfl
theorem fa35_0:aFieldAddr (CC W) 35 (.ptr (some (.new j p))) 0=some (.ptr (some (.new j (p)))):=by simp only [aFieldAddr,aOff,kind35]; rfl
theorem fa35_1:aFieldAddr (CC W) 35 (.ptr (some (.new j p))) 1=some (.ptr (some (.new j (p + 1)))):=by simp only [aFieldAddr,aOff,kind35]; rfl
theorem fa35_2:aFieldAddr (CC W) 35 (.ptr (some (.new j p))) 2=some (.ptr (some (.new j (p + 2)))):=by simp only [aFieldAddr,aOff,kind35]; rfl
theorem fa35_3:aFieldAddr (CC W) 35 (.ptr (some (.new j p))) 3=some (.ptr (some (.new j (p + 3)))):=by simp only [aFieldAddr,aOff,kind35]; rfl
theorem fa35_4:aFieldAddr (CC W) 35 (.ptr (some (.new j p))) 4=some (.ptr (some (.new j (p + 4)))):=by simp only [aFieldAddr,aOff,kind35]; rfl
theorem fa35_5:aFieldAddr (CC W) 35 (.ptr (some (.new j p))) 5=some (.ptr (some (.new j (p + 5)))):=by simp only [aFieldAddr,aOff,kind35]; rfl
theorem ld37:aLoad (CC W) h 37 a=aCell (CC W) h a:=by unfold aLoad; rw [ty37]; rfl
theorem fa39_0:aFieldAddr (CC W) 39 (.ptr (some (.new j p))) 0=some (.ptr (some (.new j (p)))):=by simp only [aFieldAddr,aOff,kind39]; rfl
theorem fa39_1:aFieldAddr (CC W) 39 (.ptr (some (.new j p))) 1=some (.ptr (some (.new j (p + 1)))):=by simp only [aFieldAddr,aOff,kind39]; rfl
theorem fa39_2:aFieldAddr (CC W) 39 (.ptr (some (.new j p))) 2=some (.ptr (some (.new j (p + 2)))):=by simp only [aFieldAddr,aOff,kind39]; rfl
theorem fa39_3:aFieldAddr (CC W) 39 (.ptr (some (.new j p))) 3=some (.ptr (some (.new j (p + 3)))):=by simp only [aFieldAddr,aOff,kind39]; rfl
theorem fa39_4:aFieldAddr (CC W) 39 (.ptr (some (.new j p))) 4=some (.ptr (some (.new j (p + 4)))):=by simp only [aFieldAddr,aOff,kind39]; rfl
theorem fa39_5:aFieldAddr (CC W) 39 (.ptr (some (.new j p))) 5=some (.ptr (some (.new j (p + 5)))):=by simp only [aFieldAddr,aOff,kind39]; rfl
theorem ld51:aLoad (CC W) h 51 a=aCell (CC W) h a:=by unfold aLoad; rw [ty51]; rfl
theorem ld53:aLoad (CC W) h 53 a=aCell (CC W) h a:=by unfold aLoad; rw [ty53]; rfl
theorem fa55_0:aFieldAddr (CC W) 55 (.ptr (some (.new j p))) 0=some (.ptr (some (.new j (p)))):=by simp only [aFieldAddr,aOff,kind55]; rfl
theorem fa55_1:aFieldAddr (CC W) 55 (.ptr (some (.new j p))) 1=some (.ptr (some (.new j (p + 1)))):=by simp only [aFieldAddr,aOff,kind55]; rfl
theorem fa55_2:aFieldAddr (CC W) 55 (.ptr (some (.new j p))) 2=some (.ptr (some (.new j (p + 2)))):=by simp only [aFieldAddr,aOff,kind55]; rfl
theorem fa55_3:aFieldAddr (CC W) 55 (.ptr (some (.new j p))) 3=some (.ptr (some (.new j (p + 3)))):=by simp only [aFieldAddr,aOff,kind55]; rfl
theorem fa55_4:aFieldAddr (CC W) 55 (.ptr (some (.new j p))) 4=some (.ptr (some (.new j (p + 4)))):=by simp only [aFieldAddr,aOff,kind55]; rfl
theorem fa55_5:aFieldAddr (CC W) 55 (.ptr (some (.new j p))) 5=some (.ptr (some (.new j (p + 5)))):=by simp only [aFieldAddr,aOff,kind55]; rfl
theorem fa55_6:aFieldAddr (CC W) 55 (.ptr (some (.new j p))) 6=some (.ptr (some (.new j (p + 6)))):=by simp only [aFieldAddr,aOff,kind55]; rfl
theorem ld58:aLoad (CC W) h 58 a=aCell (CC W) h a:=by unfold aLoad; rw [ty58]; rfl
theorem fa60_0:aFieldAddr (CC W) 60 (.ptr (some (.new j p))) 0=some (.ptr (some (.new j (p)))):=by simp only [aFieldAddr,aOff,kind60]; rfl
theorem fa60_1:aFieldAddr (CC W) 60 (.ptr (some (.new j p))) 1=some (.ptr (some (.new j (p + 1)))):=by simp only [aFieldAddr,aOff,kind60]; rfl
theorem fa82_2:aFieldAddr (CC W) 82 (.ptr (some (.new j p))) 2=some (.ptr (some (.new j (p + 2)))):=by simp only [aFieldAddr,aOff,kind82]; rfl
theorem fa82_3:aFieldAddr (CC W) 82 (.ptr (some (.new j p))) 3=some (.ptr (some (.new j (p + 3)))):=by simp only [aFieldAddr,aOff,kind82]; rfl
theorem fa82_4:aFieldAddr (CC W) 82 (.ptr (some (.new j p))) 4=some (.ptr (some (.new j (p + 4)))):=by simp only [aFieldAddr,aOff,kind82]; rfl
theorem ld85:aLoad (CC W) h 85 a=aCell (CC W) h a:=by unfold aLoad; rw [ty85]; rfl
theorem ld86:aLoad (CC W) h 86 a=aCell (CC W) h a:=by unfold aLoad; rw [ty86]; rfl
theorem fa88_0:aFieldAddr (CC W) 88 (.ptr (some (.new j p))) 0=some (.ptr (some (.new j (p)))):=by simp only [aFieldAddr,aOff,kind88]; rfl
theorem fa88_1:aFieldAddr (CC W) 88 (.ptr (some (.new j p))) 1=some (.ptr (some (.new j (p + 1)))):=by simp only [aFieldAddr,aOff,kind88]; rfl
theorem fa88_2:aFieldAddr (CC W) 88 (.ptr (some (.new j p))) 2=some (.ptr (some (.new j (p + 2)))):=by simp only [aFieldAddr,aOff,kind88]; rfl
theorem ld89:aLoad (CC W) h 89 a=aCell (CC W) h a:=by unfold aLoad; rw [ty89]; rfl
theorem ld90:aLoad (CC W) h 90 a=aCell (CC W) h a:=by unfold aLoad; rw [ty90]; rfl
theorem ld91:aLoad (CC W) h 91 a=aCell (CC W) h a:=by unfold aLoad; rw [ty91]; rfl
theorem fa93_0:aFieldAddr (CC W) 93 (.ptr (some (.new j p))) 0=some (.ptr (some (.new j (p)))):=by simp only [aFieldAddr,aOff,kind93]; rfl
theorem fa93_1:aFieldAddr (CC W) 93 (.ptr (some (.new j p))) 1=some (.ptr (some (.new j (p + 1)))):=by simp only [aFieldAddr,aOff,kind93]; rfl
theorem fa93_2:aFieldAddr (CC W) 93 (.ptr (some (.new j p))) 2=some (.ptr (some (.new j (p + 2)))):=by simp only [aFieldAddr,aOff,kind93]; rfl
theorem fa93_3:aFieldAddr (CC W) 93 (.ptr (some (.new j p))) 3=some (.ptr (some (.new j (p + 3)))):=by simp only [aFieldAddr,aOff,kind93]; rfl
theorem fa93_4:aFieldAddr (CC W) 93 (.ptr (some (.new j p))) 4=some (.ptr (some (.new j (p + 4)))):=by simp only [aFieldAddr,aOff,kind93]; rfl
theorem ld94:aLoad (CC W) h 94 a=aCell (CC W) h a:=by unfold aLoad; rw [ty94]; rfl
theorem fa96_0:aFieldAddr (CC W) 96 (.ptr (some (.new j p))) 0=some (.ptr (some (.new j (p)))):=by simp only [aFieldAddr,aOff,kind96]; rfl
theorem fa96_1:aFieldAddr (CC W) 96 (.ptr (some (.new j p))) 1=some (.ptr (some (.new j (p + 1)))):=by simp only [aFieldAddr,aOff,kind96]; rfl
theorem fa96_2:aFieldAddr (CC W) 96 (.ptr (some (.new j p))) 2=some (.ptr (some (.new j (p + 2)))):=by simp only [aFieldAddr,aOff,kind96]; rfl
theorem fa100_0:aFieldAddr (CC W) 100 (.ptr (some (.new j p))) 0=some (.ptr (some (.new j (p)))):=by simp only [aFieldAddr,aOff,kind100]; rfl
theorem fa100_1:aFieldAddr (CC W) 100 (.ptr (some (.new j p))) 1=some (.ptr (some (.new j (p + 1)))):=by simp only [aFieldAddr,aOff,kind100]; rfl
theorem fa100_2:aFieldAddr (CC W) 100 (.ptr (some (.new j p))) 2=some (.ptr (some (.new j (p + 2)))):=by simp only [aFieldAddr,aOff,kind100]; rfl
theorem fa100_3:aFieldAddr (CC W) 100 (.ptr (some (.new j p))) 3=some (.ptr (some (.new j (p + 3)))):=by simp only [aFieldAddr,aOff,kind100]; rfl
theorem fa100_4:aFieldAddr (CC W) 100 (.ptr (some (.new j p))) 4=some (.ptr (some (.new j (p + 4)))):=by simp only [aFieldAddr,aOff,kind100]; rfl
theorem fa100_5:aFieldAddr (CC W) 100 (.ptr (some (.new j p))) 5=some (.ptr (some (.new j (p + 5)))):=by simp only [aFieldAddr,aOff,kind100]; rfl
theorem fa100_6:aFieldAddr (CC W) 100 (.ptr (some (.new j p))) 6=some (.ptr (some (.new j (p + 6)))):=by simp only [aFieldAddr,aOff,kind100]; rfl
theorem fa108_0:aFieldAddr (CC W) 108 (.ptr (some (.new j p))) 0=some (.ptr (some (.new j (p)))):=by simp only [aFieldAddr,aOff,kind108]; rfl
theorem fa108_1:aFieldAddr (CC W) 108 (.ptr (some (.new j p))) 1=some (.ptr (some (.new j (p + 1)))):=by simp only [aFieldAddr,aOff,kind108]; rfl
theorem fa108_2:aFieldAddr (CC W) 108 (.ptr (some (.new j p))) 2=some (.ptr (some (.new j (p + 2)))):=by simp only [aFieldAddr,aOff,kind108]; rfl
theorem fa108_3:aFieldAddr (CC W) 108 (.ptr (some (.new j p))) 3=some (.ptr (some (.new j (p + 3)))):=by simp only [aFieldAddr,aOff,kind108]; rfl
theorem fa108_4:aFieldAddr (CC W) 108 (.ptr (some (.new j p))) 4=some (.ptr (some (.new j (p + 4)))):=by simp only [aFieldAddr,aOff,kind108]; rfl
theorem fa108_5:aFieldAddr (CC W) 108 (.ptr (some (.new j p))) 5=some (.ptr (some (.new j (p + 5)))):=by simp only [aFieldAddr,aOff,kind108]; rfl
theorem fa108_6:aFieldAddr (CC W) 108 (.ptr (some (.new j p))) 6=some (.ptr (some (.new j (p + 6)))):=by simp only [aFieldAddr,aOff,kind108]; rfl
theorem ld144:aLoad (CC W) h 144 a=aCell (CC W) h a:=by unfold aLoad; rw [ty144]; rfl
theorem fa146_0:aFieldAddr (CC W) 146 (.ptr (some (.new j p))) 0=some (.ptr (some (.new j (p)))):=by simp only [aFieldAddr,aOff,kind146]; rfl
theorem fa146_1:aFieldAddr (CC W) 146 (.ptr (some (.new j p))) 1=some (.ptr (some (.new j (p + 1)))):=by simp only [aFieldAddr,aOff,kind146]; rfl
theorem fa159_0:aFieldAddr (CC W) 159 (.ptr (some (.new j p))) 0=some (.ptr (some (.new j (p)))):=by simp only [aFieldAddr,aOff,kind159]; rfl
theorem fa159_1:aFieldAddr (CC W) 159 (.ptr (some (.new j p))) 1=some (.ptr (some (.new j (p + 1)))):=by simp only [aFieldAddr,aOff,kind159]; rfl
end
theorem ji9 {C:Cx} {h:AH} {k o:Nat} {cs:List AV} {t:TypeId} (hg:h.get k=some (.cells cs t)):aCell C h (.new k o)=cs[o]? :=by simp only [aCell,hg]
end Go.Proofs.YtbofhlifobjolaaGreatDoor.Ax
end
