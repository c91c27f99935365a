/- There and back: what Split and Join have to do with one another. -/
import Derived.Test.YtkgnhobaclngkaaDoorBelow
set_option linter.unusedVariables false
set_option linter.unusedSimpArgs false
namespace Go.Proofs.YtkgnhobaclngkaaDoor.Ax
open Go.RowKit

theorem cat_pieces (r : List UInt8) : catR (pieces r) = 47 :: r := by
  induction r with
  | nil => rfl
  | cons c r ih =>
    unfold pieces
    by_cases hc : c = 47
    · subst hc
      rw [if_pos rfl]
      show 47 :: ([] ++ catR (pieces r)) = _
      rw [ih]; rfl
    · rw [if_neg hc]
      cases hp : pieces r with
      | nil => exact absurd hp (pieces_ne r)
      | cons p ps =>
        rw [hp] at ih
        have e : catR (p :: ps) = 47 :: (p ++ catR ps) := by simp [catR]
        rw [e] at ih
        have := List.cons.inj ih
        simp only
        have e2 : catR ((c :: p) :: ps) = 47 :: c :: (p ++ catR ps) := by simp [catR]
        rw [e2, this.2]

theorem nameR_bytes {x : List UInt8} (h : nameR x = 0) : x ≠ [] ∧ ∀ b ∈ x, b ≠ 47 := by
  unfold nameR at h
  split at h
  · simp at h
  · rename_i h1
    split at h
    · simp at h
    · rename_i h2
      refine ⟨fun e => h1 (.inl e), fun b hb e => ?_⟩
      subst e
      apply h2
      rw [List.any_eq_true]
      exact ⟨47, hb, by decide⟩

theorem pieces_cat (x : List UInt8) (r : List (List UInt8)) (hx : nameR x = 0) (hr : ∀ y ∈ r, nameR y = 0) : pieces (x ++ catR r) = x :: r := by
  induction r generalizing x with
  | nil => simp only [catR, List.map_nil, List.flatten_nil, List.append_nil]; exact pieces_end x (nameR_bytes hx).2
  | cons y r ih =>
    have e : catR (y :: r) = 47 :: (y ++ catR r) := by simp [catR]
    rw [e, pieces_cut _ _ (nameR_bytes hx).2, ih y (hr y (by simp)) fun z hz => hr z (by simp [hz])]

/-- A path's names make it again. -/
theorem split_join {p : List UInt8} (h : (splitR p).2 = 0) : joinR (splitR p).1 = (p, 0) := by
  cases p with
  | nil => simp [splitR] at h
  | cons c r =>
    by_cases hc : c = 47
    · subst hc
      by_cases hr : r = []
      · subst hr; rfl
      · rw [splitR_cons hr] at *
        obtain ⟨h1, h2, h3⟩ := judge_fine h
        rw [h1, joinR_ok h2, if_neg (by omega), if_neg (pieces_ne r), cat_pieces]
    · rw [splitR_other hc] at h; simp at h

/-- Names that make a path are its names. -/
theorem join_split {l : List (List UInt8)} (h : (joinR l).2 = 0) : splitR (joinR l).1 = (l, 0) ∧ (∀ x ∈ l, nameR x = 0) ∧ l.length ≤ 8 := by
  have hall : (∀ x ∈ l, nameR x = 0) ∧ l.length ≤ 8 := by
    unfold joinR at h
    split at h
    · rename_i s hf
      have := List.find?_some hf
      simp only at h
      simp [h] at this
    · rename_i hf
      rw [List.find?_eq_none] at hf
      split at h
      · simp at h
      · exact ⟨fun x hx => by simpa using hf x hx, by omega⟩
  refine ⟨?_, hall⟩
  obtain ⟨h1, h2⟩ := hall
  rw [joinR_ok h1, if_neg (by omega)]
  cases l with
  | nil => rfl
  | cons x r =>
    have hx := h1 x (by simp)
    have hr := fun y hy => h1 y (List.mem_cons_of_mem _ hy)
    have e : catR (x :: r) = 47 :: (x ++ catR r) := by simp [catR]
    have hne : x ++ catR r ≠ [] := by
      intro e; exact (nameR_bytes hx).1 (List.append_eq_nil_iff.1 e).1
    rw [if_neg (by simp)]
    simp only
    rw [e, splitR_cons hne, pieces_cat x r hx hr, judge_ok h1, if_neg (by omega)]

theorem joinR_err {l : List (List UInt8)} (h : (joinR l).2 ≠ 0) : (joinR l).1 = [] := by
  unfold joinR at *
  split
  · rfl
  · rename_i hf
    rw [hf] at h
    simp only at h
    split
    · rfl
    · rename_i h8
      rw [if_neg h8] at h
      exact absurd rfl h

theorem join_good {l : List (List UInt8)} (h : ∀ x ∈ l, nameR x = 0) (h8 : l.length ≤ 8) : (joinR l).2 = 0 := by
  rw [joinR_ok h, if_neg (by omega)]

theorem split_root {p : List UInt8} (h : (splitR p).2 = 0) : (splitR p).1 = [] ↔ p = [47] := by
  constructor
  · intro hl
    have := split_join h
    rw [hl] at this
    have e := congrArg Prod.fst this
    exact e.symm
  · rintro rfl; rfl

theorem below_self {p : List UInt8} (h : (splitR p).2 = 0) : belowR p p = (false, 0) := by simp [belowR, h]

/-- A path is below its parent. -/
theorem parent_laws {p : List UInt8} (h : (splitR p).2 = 0) (hp : p ≠ [47]) : (parentR p).2.2 = 0 ∧ belowR p (parentR p).1 = (true, 0) ∧ splitR (parentR p).1 = ((splitR p).1.dropLast, 0) ∧ nameR (parentR p).2.1 = 0 ∧ 1 ≤ (splitR p).1.length := by
  have hl : (splitR p).1 ≠ [] := fun e => hp ((split_root h).1 e)
  obtain ⟨hok, h8⟩ := splitR_ok h
  obtain ⟨x, hx, hg⟩ := last_get hl
  have hpos : 0 < (splitR p).1.length := List.length_pos_iff.2 hl
  have hr : parentR p = ((joinR (splitR p).1.dropLast).1, x, 0) := by simp [parentR, h, hx]
  have hj := join_good (l := (splitR p).1.dropLast) (fun y hy => hok y (List.dropLast_subset _ hy)) (by simp; omega)
  have hs := (join_split hj).1
  rw [hr]
  refine ⟨rfl, ?_, hs, hok x (List.mem_of_getElem? hg), hpos⟩
  have h2 : (splitR (joinR (splitR p).1.dropLast).1).2 = 0 := by rw [hs]
  simp only [belowR, h, hs, ne_eq, not_true_eq_false, if_false]
  have e1 : (splitR p).1.dropLast.length < (splitR p).1.length := by simp; omega
  have e2 : (splitR p).1.take (splitR p).1.dropLast.length = (splitR p).1.dropLast := by
    rw [List.length_dropLast, ← List.dropLast_eq_take]
  simp only [e1, e2, decide_true, Bool.and_self]

theorem parent_root {p : List UInt8} (h : p = [47]) : (parentR p).2.2 = 309 := by subst h; decide +kernel

theorem split_fst_lt {p : List UInt8} : (splitR p).1.length < 8796093022207 := by
  by_cases e : (splitR p).2 = 0
  · have := (splitR_ok e).2; omega
  · rw [splitR_nil e]; decide

/-- What is below what. -/
theorem under_laws {a b c : List UInt8} (e : (belowR a b).2 = 0) (f : (belowR b c).2 = 0) : (belowR a c).2 = 0 ∧ (belowR b a).2 = 0 ∧ belowR a [47] = (decide (a ≠ [47]), 0) ∧ ((belowR a b).1 = true → (belowR b c).1 = true → (belowR a c).1 = true) ∧ ((belowR a b).1 = true → (belowR b a).1 = false) := by
  have sa : (splitR a).2 = 0 := by
    apply Classical.byContradiction; intro h; simp [belowR, h] at e
  have sb : (splitR b).2 = 0 := by
    apply Classical.byContradiction; intro h; simp [belowR, sa, h] at e
  have sc : (splitR c).2 = 0 := by
    apply Classical.byContradiction; intro h; simp [belowR, sb, h] at f
  have hroot := split_root sa
  simp only [belowR, sa, sb, sc, splitR_root, ne_eq, not_true_eq_false, if_false, List.length_nil, List.take_zero, decide_true, Bool.and_true, true_and]
  generalize (splitR a).1 = x at *
  generalize (splitR b).1 = y at *
  generalize (splitR c).1 = z at *
  refine ⟨?_, ?_, ?_⟩
  · by_cases hx : x = []
    · have ha := hroot.1 hx
      simp [hx, ha]
    · have ha : ¬ a = [47] := fun e => hx (hroot.2 e)
      have hpos : 0 < x.length := List.length_pos_iff.2 hx
      simp [hpos, ha]
  · intro h1 h2
    simp only [Bool.and_eq_true, decide_eq_true_eq] at h1 h2 ⊢
    refine ⟨by omega, ?_⟩
    rw [← h2.2, ← h1.2]
    rw [List.length_take, List.length_take, List.take_take]
    congr 1
    have := h1.1; have := h2.1
    omega
  · intro h1
    simp only [Bool.and_eq_true, decide_eq_true_eq] at h1
    have : ¬ x.length < y.length := by omega
    simp [this]
end Go.Proofs.YtkgnhobaclngkaaDoor.Ax
