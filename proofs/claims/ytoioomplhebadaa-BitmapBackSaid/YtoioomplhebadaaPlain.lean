/- Bitmaps: the plain laws of bits, counts and rows. -/
import Derived.Test.YtoioomplhebadaaSpeaks
set_option linter.unusedVariables false
set_option linter.unusedSimpArgs false
namespace Go.Proofs.Ytoioomplhebadaa.Ax
open Go.RowKit

/-! ### a bit that is set -/
theorem putF : ∀ (x : Fin 256) (j k : Fin 8) (on : Bool), (UInt8.ofNat (if on then setN x.val j.val else clrN x.val j.val)).toNat.testBit k.val = if k = j then on else x.val.testBit k.val := by decide +kernel
theorem putputF : ∀ (x : Fin 256) (j : Fin 8) (on : Bool), UInt8.ofNat (if x.val.testBit j.val then setN (UInt8.ofNat (if on then setN x.val j.val else clrN x.val j.val)).toNat j.val else clrN (UInt8.ofNat (if on then setN x.val j.val else clrN x.val j.val)).toNat j.val) = UInt8.ofNat x.val := by decide +kernel

theorem putB_bit (x : UInt8) (j k : Nat) (on : Bool) (hj : j < 8) (hk : k < 8) : bitB (putB x j on) k = if k = j then on else bitB x k := by
  have := putF ⟨x.toNat, x.toNat_lt⟩ ⟨j, hj⟩ ⟨k, hk⟩ on
  simp only [Fin.mk.injEq] at this
  exact this
theorem putB_back (x : UInt8) (j : Nat) (on : Bool) (hj : j < 8) : putB (putB x j on) j (bitB x j) = x := by
  have := putputF ⟨x.toNat, x.toNat_lt⟩ ⟨j, hj⟩ on
  simp only [UInt8.ofNat_toNat] at this
  exact this

theorem setL_length (b : List UInt8) (i : Nat) (on : Bool) : (setL b i on).length = b.length := by simp [setL]

theorem setL_bit {b : List UInt8} {i k : Nat} {on : Bool} (hb : b.length = 128) (hi : i < 1024) (hk : k < 1024) : bit (setL b i on) k = if k = i then on else bit b k := by
  obtain ⟨x, hx, hbx⟩ := bit_at (b := b) (i := i) (by omega)
  obtain ⟨y, hy, hby⟩ := bit_at (b := b) (i := k) (by omega)
  have hgx : b.getD (i / 8) 0 = x := by simp [hx]
  have hgy : b.getD (k / 8) 0 = y := by simp [hy]
  simp only [bit, setL, hgx, hgy]
  by_cases hq : k / 8 = i / 8
  · have hxy : y = x := by rw [hq, hx] at hy; simpa using hy.symm
    subst hxy
    have : (b.set (i / 8) (putB y (i % 8) on)).getD (k / 8) 0 = putB y (i % 8) on := by
      rw [hq, List.getD_eq_getElem?_getD, List.getElem?_set, if_pos rfl, if_pos (by omega)]; rfl
    rw [this, putB_bit _ _ _ _ (Nat.mod_lt _ (by decide)) (Nat.mod_lt _ (by decide))]
    have : (k % 8 = i % 8) ↔ k = i := by omega
    simp only [this]
  · have : (b.set (i / 8) (putB x (i % 8) on)).getD (k / 8) 0 = y := by
      rw [List.getD_eq_getElem?_getD, List.getElem?_set, if_neg (by omega), hy]; rfl
    rw [this, if_neg (by intro e; subst e; omega)]

theorem setL_back {b : List UInt8} {i : Nat} {on : Bool} (hb : b.length = 128) (hi : i < 1024) : setL (setL b i on) i (bit b i) = b := by
  obtain ⟨x, hx, hbx⟩ := bit_at (b := b) (i := i) (by omega)
  have hgx : b.getD (i / 8) 0 = x := by simp [hx]
  have h1 : setL b i on = b.set (i / 8) (putB x (i % 8) on) := by simp only [setL, hgx]
  have h2 : (b.set (i / 8) (putB x (i % 8) on)).getD (i / 8) 0 = putB x (i % 8) on := by
    rw [List.getD_eq_getElem?_getD, List.getElem?_set, if_pos rfl, if_pos (by omega)]; rfl
  rw [h1, setL, h2, hbx, putB_back _ _ _ (Nat.mod_lt _ (by decide)), List.set_set]
  apply List.ext_getElem? ; intro k
  rw [List.getElem?_set]
  split
  · rename_i hk; subst hk; rw [if_pos (by omega), hx]
  · rfl

/-! ### counts -/
theorem cnt_same {b c : List UInt8} {x : Nat} : ∀ {k : Nat}, (∀ j, j < k → bit b (x + j) = bit c (x + j)) → cnt b x k = cnt c x k
  | 0, _ => rfl
  | k + 1, h => by
    simp only [cnt]
    rw [cnt_same (k := k) fun j hj => h j (by omega), h k (by omega)]

theorem cnt_set {b : List UInt8} {i : Nat} {on : Bool} (hb : b.length = 128) (hi : i < 1024) : ∀ k, k ≤ 1024 → cnt (setL b i on) 0 k + (if i < k ∧ bit b i = true then 1 else 0) = cnt b 0 k + (if i < k ∧ on = true then 1 else 0)
  | 0, _ => by simp [cnt]
  | k + 1, hk => by
    have ih := cnt_set (on := on) hb hi k (by omega)
    simp only [cnt, Nat.zero_add]
    rw [setL_bit hb hi (by omega)]
    by_cases hki : k = i
    · subst hki
      simp only [if_true]
      simp only [Nat.lt_irrefl, false_and, if_false, Nat.add_zero] at ih
      have : k < k + 1 := by omega
      simp only [this, true_and]
      rw [ih]
      cases bit b k <;> cases on <;> simp
    · rw [if_neg hki]
      have : (i < k + 1) ↔ (i < k) := by omega
      simp only [this]
      omega

theorem cnt_add (b : List UInt8) (x m : Nat) : ∀ k, cnt b x (m + k) = cnt b x m + cnt b (x + m) k
  | 0 => rfl
  | k + 1 => by
    rw [← Nat.add_assoc]
    simp only [cnt]
    rw [cnt_add b x m k, Nat.add_assoc x m k]
    omega

theorem cnt_zero {b : List UInt8} {x : Nat} : ∀ {k : Nat}, (∀ j, j < k → bit b (x + j) = false) → cnt b x k = 0
  | 0, _ => rfl
  | k + 1, h => by
    simp only [cnt]
    rw [cnt_zero (k := k) fun j hj => h j (by omega), h k (by omega)]
    simp

theorem cnt_full {b : List UInt8} {x : Nat} : ∀ {k : Nat}, (cnt b x k < k ↔ ∃ j, j < k ∧ bit b (x + j) = false)
  | 0 => by simp [cnt]
  | k + 1 => by
    have ih := cnt_full (b := b) (x := x) (k := k)
    have hle := cnt_le b x k
    simp only [cnt]
    cases hb : bit b (x + k) with
    | false =>
      simp only [Bool.false_eq_true, if_false, Nat.add_zero]
      exact ⟨fun _ => ⟨k, by omega, hb⟩, fun _ => by omega⟩
    | true =>
      simp only [if_true]
      constructor
      · intro h
        obtain ⟨j, hj, hjb⟩ := ih.1 (by omega)
        exact ⟨j, by omega, hjb⟩
      · rintro ⟨j, hj, hjb⟩
        have : j < k := by
          rcases Nat.lt_or_ge j k with h | h
          · exact h
          · obtain rfl : j = k := by omega
            rw [hb] at hjb; simp at hjb
        have := ih.2 ⟨j, this, hjb⟩
        omega

/-! ### rows -/
theorem runV_zero {b : List UInt8} {p q m : Nat} (h : (runV b p q m).2 = 0) : ∃ i : Nat, runV b p q m = ((i : Int), 0) ∧ FreeAt b p q m i ∧ ∀ j, FreeAt b p q m j → i ≤ j := by
  unfold runV at h ⊢
  split at h
  · rename_i hx
    rw [dif_pos hx]
    have hs := Classical.choose_spec (least _ hx)
    exact ⟨_, rfl, hs.1, hs.2⟩
  · simp at h
theorem runV_five {b : List UInt8} {p q m : Nat} (h : (runV b p q m).2 ≠ 0) : runV b p q m = (0, 5) ∧ ∀ j, ¬ FreeAt b p q m j := by
  unfold runV at h ⊢
  split at h
  · simp at h
  · rename_i hx
    rw [dif_neg hx]
    exact ⟨rfl, fun j hj => hx ⟨j, hj⟩⟩

theorem runR_zero {b : List UInt8} {x y c : Int} (h : (runR b x y c).2 = 0) : b.length = 128 ∧ ∃ p n m i : Nat, x = (p : Int) ∧ y = (p : Int) + (n : Int) ∧ c = (m : Int) ∧ p + n ≤ 1024 ∧ 1 ≤ m ∧ runR b x y c = ((i : Int), 0) ∧ FreeAt b p (p + n) m i ∧ ∀ j, FreeAt b p (p + n) m j → i ≤ j := by
  unfold runR at h ⊢
  by_cases h0 : askedR b x y = 0
  · rw [if_pos h0] at h ⊢
    obtain ⟨hl, p, n, rfl, rfl, hpn⟩ := asked_zero h0
    by_cases h1 : c < 1
    · rw [if_pos h1] at h; simp at h
    · rw [if_neg h1] at h ⊢
      rw [show ((p : Int) + (n : Int)).toNat = p + n from by omega, show ((p : Int)).toNat = p from by omega] at h ⊢
      obtain ⟨i, h2, h3, h4⟩ := runV_zero h
      exact ⟨hl, p, n, c.toNat, i, rfl, rfl, by omega, hpn, by omega, h2, h3, h4⟩
  · rw [if_neg h0] at h; exact absurd h h0

theorem runR_nonzero {b : List UInt8} {x y c : Int} (h : (runR b x y c).2 ≠ 0) : (runR b x y c).1 = 0 := by
  unfold runR at h ⊢
  split
  · rename_i h0
    rw [if_pos h0] at h
    split
    · rfl
    · rename_i h1
      rw [if_neg h1] at h
      rw [(runV_five h).1]
  · rfl

theorem asked_ok {b : List UInt8} {p n : Nat} (hl : b.length = 128) (h : p + n ≤ 1024) : askedR b (p : Int) ((p : Int) + (n : Int)) = 0 := by
  unfold askedR
  rw [if_pos hl, if_neg (by omega)]
end Go.Proofs.Ytoioomplhebadaa.Ax
