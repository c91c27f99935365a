/- The texts TraceLb, as one. -/
import Derived.Test.YtbofhlifobjolaaGreatDoorGtc

/-! TraceBegins: the walk -/
section
set_option linter.unusedVariables false
set_option linter.unusedSimpArgs false
namespace Go.Proofs.YtbofhlifobjolaaGreatDoor.Ax
open Go.RowKit

set_option maxRecDepth 100000 in
set_option maxHeartbeats 16000000 in
theorem begins_ret (W : World) (v : AV) (l : List See) (n : Int) (hs : ∀ h0, SeeS W h0 v l) (hl : l.length ≤ 1048576) :
    ACall (CC W) 9 [v, .int .i64 n] AH.empty (fun w _ => w = .bool true) (fun _ _ => False) := by
  refine jj9 (cc_ok W) (fn9 W) (by simp only [Tryz.f9]; rfl) rfl rfl ?_
  simp [push_cast]
  refine jf9 (by simp [fn27]) (large_ret W AH.empty v l (hs _) hl) fun h1 hk1 => ?_
  by_cases hlg : 200 < l.length ∨ 1500 < totN l
  · have : (decide (200 < l.length) || decide (1500 < totN l)) = true := by simpa using hlg
    rw [this]
    simp [push_cast]
    refine jf9 (by simp [fn28]) (speaks26_ret W h1) fun h2 hk2 => ?_
    simp [push_cast]
  have hlg2 : (decide (200 < l.length) || decide (1500 < totN l)) = false := by
    rw [not_or] at hlg
    simp [hlg.1, hlg.2]
  rw [hlg2]
  rw [not_or] at hlg
  obtain ⟨hg1, hg2⟩ := hlg
  have hb : ∀ s ∈ l, s.reps.length ≤ 4096 ∧ s.h.length ≤ 4096 := fun s hx => by
    have := totN_mem hx
    omega
  have hln := SeeS.len (hs h1) h1
  by_cases c1 : n < 0
  · obtain ⟨N, hNe⟩ : ∃ N, N = l.length := ⟨_, rfl⟩
    have hN : N ≤ l.length := by omega
    rw [← hNe] at hln
    simp [push_cast, hln, c1]
    refine jf9 (by simp [fn30]) (little26_ret W h1) fun h2 hk2 => ?_
    simp [push_cast]
    refine jf9 (by simp [fn29]) (check_ret W h2 40 20 8 16 v l (hs h2) shape26 (by omega) hb) fun h3 hk3 => ?_
    obtain ⟨v2, hsl, hs2⟩ := BSl.take (hs h3) (kind63 W) (size73 W) hN
    have hb2 : ∀ s ∈ l.take N, s.reps.length ≤ 4096 ∧ s.h.length ≤ 4096 := fun s hx => hb s (List.mem_of_mem_take hx)
    simp [push_cast]
    refine drawS [1, 2, 3, 0, 4, 5, 6, 7, 8, 9, 10, 11] (by kernel_rfl) (by kernel_rfl) ?_
    simp [push_cast, zx9, zy9, SgO, opA, isE, isRead, hsl]
    refine jb9 (f := 30) (args := []) (by rfl) (by rfl) (by rfl) (by simp [fn30]) (little26_ret W h3) fun w h4 ⟨hw4, hk4⟩ => ?_
    subst hw4
    refine ⟨by simp [zz9, ja9, push_cast, opA], ?_⟩
    simp [push_cast, zx9, zy9, SgO, opA, isE, isRead]
    refine jb9 (f := 29) (args := [.agg [.int .i64 40, .int .i64 20, .int .i64 8], v2]) (by rfl) (by rfl) (by rfl) (by simp [fn29]) (check_ret W h4 40 20 8 16 v2 (l.take N) (SeeS.mono hs2 hk4) shape26 (by simp; omega) hb2) fun w h5 ⟨hw5, hk5⟩ => ?_
    subst hw5
    refine ⟨by simp [zz9, ja9, push_cast, opA], ?_⟩
    rw [checkR_take l wp0 0 N]
    simp only [Int.natCast_zero, Int.zero_add]
    have hzero := checkR_zero l wp0 0 (sh := (40, 20, 8)) (cm := 16)
    obtain ⟨A, hA⟩ : ∃ A, A = (checkR (40, 20, 8) 16 wp0 l 0).1 := ⟨_, rfl⟩
    obtain ⟨B, hB⟩ : ∃ B, B = (checkR (40, 20, 8) 16 wp0 l 0).2 := ⟨_, rfl⟩
    by_cases cz : A = 0 ∨ (N : Int) ≤ B
    · rw [if_pos (by rw [← hA, ← hB]; exact cz)]
      rw [← hA, ← hB]
      by_cases ca : A = 0
      · simp [push_cast, zx9, zy9, SgO, opA, isE, isRead, ca]
        refine jf9 (by simp [fn28]) (speaks26_ret W h5) fun h6 hk6 => ?_
        simp [push_cast]
      · have cb : (N : Int) ≤ B := cz.resolve_left ca
        have ca' : (A == 0) = false := by simpa using ca
        simp [push_cast, zx9, zy9, SgO, opA, isE, isRead, ca', cb]
        refine jf9 (by simp [fn28]) (speaks26_ret W h5) fun h6 hk6 => ?_
        simp [push_cast]
    · rw [if_neg (by rw [← hA, ← hB]; exact cz)]
      rw [← hA, ← hB]
      rw [not_or] at cz
      obtain ⟨ca, cb⟩ := cz
      have ca' : (A == 0) = false := by simpa using ca
      simp [push_cast, zx9, zy9, SgO, opA, isE, isRead, ca', cb]
      refine jf9 (by simp [fn28]) (speaks26_ret W h5) fun h6 hk6 => ?_
      simp [push_cast]
  · by_cases c2 : (l.length : Int) < n
    · obtain ⟨N, hNe⟩ : ∃ N, N = l.length := ⟨_, rfl⟩
      have hN : N ≤ l.length := by omega
      rw [← hNe] at hln c2
      simp [push_cast, hln, c1, c2]
      refine jf9 (by simp [fn30]) (little26_ret W h1) fun h2 hk2 => ?_
      simp [push_cast]
      refine jf9 (by simp [fn29]) (check_ret W h2 40 20 8 16 v l (hs h2) shape26 (by omega) hb) fun h3 hk3 => ?_
      obtain ⟨v2, hsl, hs2⟩ := BSl.take (hs h3) (kind63 W) (size73 W) hN
      have hb2 : ∀ s ∈ l.take N, s.reps.length ≤ 4096 ∧ s.h.length ≤ 4096 := fun s hx => hb s (List.mem_of_mem_take hx)
      simp [push_cast]
      refine drawS [1, 2, 3, 0, 4, 5, 6, 7, 8, 9, 10, 11] (by kernel_rfl) (by kernel_rfl) ?_
      simp [push_cast, zx9, zy9, SgO, opA, isE, isRead, hsl]
      refine jb9 (f := 30) (args := []) (by rfl) (by rfl) (by rfl) (by simp [fn30]) (little26_ret W h3) fun w h4 ⟨hw4, hk4⟩ => ?_
      subst hw4
      refine ⟨by simp [zz9, ja9, push_cast, opA], ?_⟩
      simp [push_cast, zx9, zy9, SgO, opA, isE, isRead]
      refine jb9 (f := 29) (args := [.agg [.int .i64 40, .int .i64 20, .int .i64 8], v2]) (by rfl) (by rfl) (by rfl) (by simp [fn29]) (check_ret W h4 40 20 8 16 v2 (l.take N) (SeeS.mono hs2 hk4) shape26 (by simp; omega) hb2) fun w h5 ⟨hw5, hk5⟩ => ?_
      subst hw5
      refine ⟨by simp [zz9, ja9, push_cast, opA], ?_⟩
      rw [checkR_take l wp0 0 N]
      simp only [Int.natCast_zero, Int.zero_add]
      have hzero := checkR_zero l wp0 0 (sh := (40, 20, 8)) (cm := 16)
      obtain ⟨A, hA⟩ : ∃ A, A = (checkR (40, 20, 8) 16 wp0 l 0).1 := ⟨_, rfl⟩
      obtain ⟨B, hB⟩ : ∃ B, B = (checkR (40, 20, 8) 16 wp0 l 0).2 := ⟨_, rfl⟩
      by_cases cz : A = 0 ∨ (N : Int) ≤ B
      · rw [if_pos (by rw [← hA, ← hB]; exact cz)]
        rw [← hA, ← hB]
        by_cases ca : A = 0
        · simp [push_cast, zx9, zy9, SgO, opA, isE, isRead, ca]
          refine jf9 (by simp [fn28]) (speaks26_ret W h5) fun h6 hk6 => ?_
          simp [push_cast]
        · have cb : (N : Int) ≤ B := cz.resolve_left ca
          have ca' : (A == 0) = false := by simpa using ca
          simp [push_cast, zx9, zy9, SgO, opA, isE, isRead, ca', cb]
          refine jf9 (by simp [fn28]) (speaks26_ret W h5) fun h6 hk6 => ?_
          simp [push_cast]
      · rw [if_neg (by rw [← hA, ← hB]; exact cz)]
        rw [← hA, ← hB]
        rw [not_or] at cz
        obtain ⟨ca, cb⟩ := cz
        have ca' : (A == 0) = false := by simpa using ca
        simp [push_cast, zx9, zy9, SgO, opA, isE, isRead, ca', cb]
        refine jf9 (by simp [fn28]) (speaks26_ret W h5) fun h6 hk6 => ?_
        simp [push_cast]
    · obtain ⟨N, rfl⟩ : ∃ N : Nat, n = N := ⟨n.toNat, by omega⟩
      have hN : N ≤ l.length := by omega
      simp [push_cast, hln, c1, c2]
      refine jf9 (by simp [fn30]) (little26_ret W h1) fun h2 hk2 => ?_
      simp [push_cast]
      refine jf9 (by simp [fn29]) (check_ret W h2 40 20 8 16 v l (hs h2) shape26 (by omega) hb) fun h3 hk3 => ?_
      obtain ⟨v2, hsl, hs2⟩ := BSl.take (hs h3) (kind63 W) (size73 W) hN
      have hb2 : ∀ s ∈ l.take N, s.reps.length ≤ 4096 ∧ s.h.length ≤ 4096 := fun s hx => hb s (List.mem_of_mem_take hx)
      simp [push_cast]
      refine drawS [1, 2, 3, 0, 4, 5, 6, 7, 8, 9, 10, 11] (by kernel_rfl) (by kernel_rfl) ?_
      simp [push_cast, zx9, zy9, SgO, opA, isE, isRead, hsl]
      refine jb9 (f := 30) (args := []) (by rfl) (by rfl) (by rfl) (by simp [fn30]) (little26_ret W h3) fun w h4 ⟨hw4, hk4⟩ => ?_
      subst hw4
      refine ⟨by simp [zz9, ja9, push_cast, opA], ?_⟩
      simp [push_cast, zx9, zy9, SgO, opA, isE, isRead]
      refine jb9 (f := 29) (args := [.agg [.int .i64 40, .int .i64 20, .int .i64 8], v2]) (by rfl) (by rfl) (by rfl) (by simp [fn29]) (check_ret W h4 40 20 8 16 v2 (l.take N) (SeeS.mono hs2 hk4) shape26 (by simp; omega) hb2) fun w h5 ⟨hw5, hk5⟩ => ?_
      subst hw5
      refine ⟨by simp [zz9, ja9, push_cast, opA], ?_⟩
      rw [checkR_take l wp0 0 N]
      simp only [Int.natCast_zero, Int.zero_add]
      have hzero := checkR_zero l wp0 0 (sh := (40, 20, 8)) (cm := 16)
      obtain ⟨A, hA⟩ : ∃ A, A = (checkR (40, 20, 8) 16 wp0 l 0).1 := ⟨_, rfl⟩
      obtain ⟨B, hB⟩ : ∃ B, B = (checkR (40, 20, 8) 16 wp0 l 0).2 := ⟨_, rfl⟩
      by_cases cz : A = 0 ∨ (N : Int) ≤ B
      · rw [if_pos (by rw [← hA, ← hB]; exact cz)]
        rw [← hA, ← hB]
        by_cases ca : A = 0
        · simp [push_cast, zx9, zy9, SgO, opA, isE, isRead, ca]
          refine jf9 (by simp [fn28]) (speaks26_ret W h5) fun h6 hk6 => ?_
          simp [push_cast]
        · have cb : (N : Int) ≤ B := cz.resolve_left ca
          have ca' : (A == 0) = false := by simpa using ca
          simp [push_cast, zx9, zy9, SgO, opA, isE, isRead, ca', cb]
          refine jf9 (by simp [fn28]) (speaks26_ret W h5) fun h6 hk6 => ?_
          simp [push_cast]
      · rw [if_neg (by rw [← hA, ← hB]; exact cz)]
        rw [← hA, ← hB]
        rw [not_or] at cz
        obtain ⟨ca, cb⟩ := cz
        have ca' : (A == 0) = false := by simpa using ca
        simp [push_cast, zx9, zy9, SgO, opA, isE, isRead, ca', cb]
        refine jf9 (by simp [fn28]) (speaks26_ret W h5) fun h6 hk6 => ?_
        simp [push_cast]
theorem begins_law (W : World) (av : AV) {n : Nat} (hn : n ≤ 1048576) (h : n < 1000000000 → ∃ l : List See, (∀ h0, SeeS W h0 av l) ∧ l.length ≤ n) (k : Int) :
    ACall (CC W) 9 [av, .int .i64 k] AH.empty (fun w _ => w = .bool true) (fun _ _ => False) := by
  obtain ⟨l, hv, hl⟩ := h (by omega)
  exact begins_ret W av l k hv (by omega)
end Go.Proofs.YtbofhlifobjolaaGreatDoor.Ax
end
