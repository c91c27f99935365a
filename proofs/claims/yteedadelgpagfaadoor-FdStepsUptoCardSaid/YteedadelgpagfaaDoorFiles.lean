/- The document's list of a table. -/
import Derived.Test.YteedadelgpagfaaDoorRef
set_option linter.unusedVariables false
set_option linter.unusedSimpArgs false
namespace Go.Proofs.YteedadelgpagfaaDoor.Ax
open Go.RowKit

def filesFrom : Nat → List Ent → List Fe
  | _, [] => []
  | n, x :: T => if isOpen x = true then ⟨n, x.2, x.1⟩ :: filesFrom (n + 1) T else filesFrom (n + 1) T
def files (T : List Ent) : List Fe := filesFrom 0 T

theorem files_length (n : Nat) (T : List Ent) : (filesFrom n T).length = nOpen T := by
  induction T generalizing n with
  | nil => rfl
  | cons x T ih =>
    have e : nOpen (x :: T) = nOpen T + if isOpen x = true then 1 else 0 := by simp [nOpen, List.countP_cons]
    rw [e]
    unfold filesFrom
    split <;> simp [ih]

theorem nOpen_cons (x : Ent) (T : List Ent) : nOpen (x :: T) = nOpen T + if isOpen x = true then 1 else 0 := by simp [nOpen, List.countP_cons]

theorem files_get {n i : Nat} {T : List Ent} {x : Ent} (h : T[i]? = some x) (ho : isOpen x = true) : (filesFrom n T)[nOpen (T.take i)]? = some ⟨((n + i : Nat) : Int), x.2, x.1⟩ := by
  induction T generalizing n i with
  | nil => simp at h
  | cons y T ih =>
    unfold filesFrom
    cases i with
    | zero => simp at h; subst h; rw [if_pos ho]; simp [nOpen]
    | succ i =>
      have := ih (n := n + 1) (i := i) (by simpa using h)
      rw [List.take_succ_cons, nOpen_cons]
      by_cases hy : isOpen y = true
      · rw [if_pos hy, if_pos hy, List.getElem?_cons_succ, this]
        congr 2
        omega
      · rw [if_neg hy, if_neg hy]
        simp only [Nat.add_zero]
        rw [this]
        congr 2
        omega

theorem files_low {n : Nat} {T : List Ent} {fd : Int} (h : fd < n) : findR (filesFrom n T) fd = -1 := by
  induction T generalizing n with
  | nil => rfl
  | cons y T ih =>
    unfold filesFrom
    have := ih (n := n + 1) (by omega)
    split
    · unfold findR
      rw [if_neg (by simp only; omega), if_pos this]
    · exact this

theorem files_find {n i : Nat} {T : List Ent} : findR (filesFrom n T) ((n + i : Nat) : Int) = match T[i]? with
    | some x => if isOpen x = true then (nOpen (T.take i) : Int) else -1
    | none => -1 := by
  induction T generalizing n i with
  | nil => rfl
  | cons y T ih =>
    unfold filesFrom
    cases i with
    | zero =>
      simp only [List.getElem?_cons_zero, Nat.add_zero]
      by_cases hy : isOpen y = true
      · rw [if_pos hy, if_pos hy]; unfold findR; simp [nOpen]
      · rw [if_neg hy, if_neg hy]; exact files_low (by omega)
    | succ i =>
      have := ih (n := n + 1) (i := i)
      have e : ((n + (i + 1) : Nat) : Int) = ((n + 1 + i : Nat) : Int) := by omega
      rw [e, List.getElem?_cons_succ, List.take_succ_cons, nOpen_cons]
      by_cases hy : isOpen y = true
      · rw [if_pos hy, if_pos hy]
        unfold findR
        rw [if_neg (by simp only; omega), this]
        cases T[i]? with
        | none => rfl
        | some x =>
          simp only
          by_cases hx : isOpen x = true
          · rw [if_pos hx, if_pos hx, if_neg (by omega)]; omega
          · rw [if_neg hx, if_neg hx, if_pos rfl]
      · rw [if_neg hy, if_neg hy, this]
        rfl

theorem files_set {n i : Nat} {T : List Ent} {x y : Ent} (h : T[i]? = some x) (ho : isOpen x = true) (hy : isOpen y = true) : filesFrom n (T.set i y) = (filesFrom n T).set (nOpen (T.take i)) ⟨((n + i : Nat) : Int), y.2, y.1⟩ := by
  induction T generalizing n i with
  | nil => simp at h
  | cons z T ih =>
    cases i with
    | zero =>
      simp at h; subst h
      simp only [List.set_cons_zero, filesFrom, if_pos ho, if_pos hy]
      simp [nOpen]
    | succ i =>
      have := ih (n := n + 1) (i := i) (by simpa using h)
      have e : ((n + (i + 1) : Nat) : Int) = ((n + 1 + i : Nat) : Int) := by omega
      rw [List.set_cons_succ, List.take_succ_cons, nOpen_cons, e]
      simp only [filesFrom]
      by_cases hz : isOpen z = true
      · simp only [if_pos hz, List.set_cons_succ, this]
      · simp only [if_neg hz, Nat.add_zero, this]

theorem files_close {n i : Nat} {T : List Ent} {x y : Ent} (h : T[i]? = some x) (ho : isOpen x = true) (hy : isOpen y = false) : filesFrom n (T.set i y) = (filesFrom n T).eraseIdx (nOpen (T.take i)) := by
  induction T generalizing n i with
  | nil => simp at h
  | cons z T ih =>
    cases i with
    | zero =>
      simp at h; subst h
      simp only [List.set_cons_zero, filesFrom, if_pos ho, hy]
      simp [nOpen]
    | succ i =>
      have := ih (n := n + 1) (i := i) (by simpa using h)
      rw [List.set_cons_succ, List.take_succ_cons, nOpen_cons]
      simp only [filesFrom]
      by_cases hz : isOpen z = true
      · simp only [if_pos hz, List.eraseIdx_cons_succ, this]
      · simp only [if_neg hz, Nat.add_zero, this]

theorem files_open {n i : Nat} {T : List Ent} {x y : Ent} (h : T[i]? = some x) (ho : isOpen x = false) (hy : isOpen y = true) : filesFrom n (T.set i y) = (filesFrom n T).take (nOpen (T.take i)) ++ ⟨((n + i : Nat) : Int), y.2, y.1⟩ :: (filesFrom n T).drop (nOpen (T.take i)) := by
  induction T generalizing n i with
  | nil => simp at h
  | cons z T ih =>
    cases i with
    | zero =>
      simp at h; subst h
      simp only [List.set_cons_zero, filesFrom, if_pos hy, ho]
      simp [nOpen]
    | succ i =>
      have := ih (n := n + 1) (i := i) (by simpa using h)
      have e : ((n + (i + 1) : Nat) : Int) = ((n + 1 + i : Nat) : Int) := by omega
      rw [List.set_cons_succ, List.take_succ_cons, nOpen_cons, e]
      simp only [filesFrom]
      by_cases hz : isOpen z = true
      · simp only [if_pos hz, List.take_succ_cons, List.drop_succ_cons, this]
        rfl
      · simp only [if_neg hz, Nat.add_zero, this]

/-- A descriptor in the document's list. -/
theorem files_got {T : List Ent} {fd : Int} {i : Nat} {x : Ent} (h : gotT T fd = some (i, x)) (hT : T.length = 16) : findR (files T) fd = (nOpen (T.take i) : Nat) ∧ (files T)[nOpen (T.take i)]? = some ⟨i, x.2, x.1⟩ := by
  obtain ⟨rfl, hi, hx, hne⟩ := gotT_some h
  have ho := isOpen_of hne
  have h1 := files_find (n := 0) (i := i) (T := T)
  have h2 := files_get (n := 0) hx ho
  rw [hx] at h1
  simp only [Nat.zero_add, if_pos ho] at h1 h2
  exact ⟨h1, h2⟩
theorem files_miss {T : List Ent} {fd : Int} (h : gotT T fd = none) (hT : T.length = 16) : findR (files T) fd = -1 := by
  by_cases h0 : fd < 0
  · exact files_low (by simpa using h0)
  · obtain ⟨i, rfl⟩ : ∃ i : Nat, fd = i := ⟨fd.toNat, by omega⟩
    have h1 := files_find (n := 0) (i := i) (T := T)
    simp only [Nat.zero_add] at h1
    unfold files
    rw [h1]
    cases hx : T[i]? with
    | none => rfl
    | some x =>
      simp only
      have hi : i < 16 := by rw [← hT]; exact (List.getElem?_eq_some_iff.1 hx).1
      unfold gotT at h
      rw [if_pos (by omega)] at h
      simp only [Int.toNat_natCast, hx] at h
      split at h
      · rename_i he
        rw [if_neg (by rw [notOpen_of he]; decide)]
      · simp at h
end Go.Proofs.YteedadelgpagfaaDoor.Ax
