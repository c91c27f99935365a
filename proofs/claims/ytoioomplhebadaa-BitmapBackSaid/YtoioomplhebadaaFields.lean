/- Bitmaps: a range's fields. -/
import Derived.Test.YtoioomplhebadaaLaws
import Derived.Test.YtoioomplhebadaaPlain
set_option linter.unusedVariables false
set_option linter.unusedSimpArgs false
namespace Go.Proofs.Ytoioomplhebadaa.Ax
open Go.RowKit

theorem bx {h : AH} {x y c : Int} : aBox h 34 (.agg [.int .i64 x, .int .i64 y, .int .i64 c]) = some (.ptr (some (.new h.next 0)), h.push (.cells [.int .i64 x, .int .i64 y, .int .i64 c] 34)) := _root_.id rfl
theorem fa0 {W : World} {k : Nat} : aFieldAddr (CC W) 34 (.ptr (some (.new k 0))) 0 = some (.ptr (some (.new k 0))) := _root_.id rfl
theorem fa1 {W : World} {k : Nat} : aFieldAddr (CC W) 34 (.ptr (some (.new k 0))) 1 = some (.ptr (some (.new k 1))) := _root_.id rfl
theorem fa2 {W : World} {k : Nat} : aFieldAddr (CC W) 34 (.ptr (some (.new k 0))) 2 = some (.ptr (some (.new k 2))) := _root_.id rfl
theorem ld3 {W : World} {h : AH} {k o : Nat} {cs : List AV} {t : TypeId} {v : AV} (hk : h.get k = some (.cells cs t)) (ho : cs[o]? = some v) : aLoad (CC W) h 3 (.new k o) = some v := by
  have : aLoad (CC W) h 3 (.new k o) = aCell (CC W) h (.new k o) := by
    unfold aLoad; rw [ty3]; rfl
  rw [this]
  simp only [aCell, hk]
  exact ho

theorem countR_at {b : List UInt8} {p k : Nat} (hl : b.length = 128) (h : p + k ≤ 1024) : countR b (p : Int) ((p : Int) + (k : Int)) = ((cnt b p k : Int), 0) := by
  simp only [countR, asked_ok hl h, if_true, Int.toNat_natCast]
  rw [show ((p : Int) + (k : Int) - (p : Int)).toNat = k from by omega]

theorem countR_zero {b : List UInt8} {x y : Int} (h : (countR b x y).2 = 0) : askedR b x y = 0 := by
  unfold countR at h
  by_cases h0 : askedR b x y = 0
  · exact h0
  · rw [if_neg h0] at h; exact h

end Go.Proofs.Ytoioomplhebadaa.Ax
