/- The texts TraceLo, as one. -/
import Derived.Test.YtbofhlifobjolaaGreatDoorGtc

/-! TraceOnce: the walk -/
section
set_option linter.unusedVariables false
set_option linter.unusedSimpArgs false
namespace Go.Proofs.YtbofhlifobjolaaGreatDoor.Ax
open Go.RowKit

theorem mapM_at {α β : Type} {f : α → Option β} : ∀ {l : List α} {cs : List β}, l.mapM f = some cs → ∀ (i : Nat) x, l[i]? = some x → f x = cs[i]?
  | [], cs, h, i, x, hx => by simp at hx
  | a :: l, cs, h, i, x, hx => by
    rw [List.mapM_cons] at h
    cases ha : f a with
    | none => rw [ha] at h; cases h
    | some y =>
      rw [ha] at h
      cases hm : l.mapM f with
      | none => rw [hm] at h; cases h
      | some ys =>
        rw [hm] at h
        cases h
        cases i with
        | zero => simp at hx; subst hx; simpa using ha
        | succ i => simpa using mapM_at hm i x (by simpa using hx)
theorem BSl.drop {α : Type} {W : World} {h0 : AH} {T E : TypeId} {sz : Nat} {P : AH → α → AV → Prop} {v : AV} {l : List α} (h : BSl W h0 E sz P v l) (hk : (CC W).kind T = .slice E) (hs : (CC W).size E = some sz) {k : Nat} (hkl : k ≤ l.length) :
    ∃ v', aSlice (CC W) T v (some (.int .i64 (k : Int))) none none = some v' ∧ BSl W h0 E sz P v' (l.drop k) := by
  rcases h with ⟨rfl, rfl⟩ | ⟨a, c, hc, rfl, h⟩
  · obtain rfl : k = 0 := by simpa using hkl
    refine ⟨.sl none 0 0 none, ?_, .inl ⟨rfl, rfl⟩⟩
    have := aBounds_lo (len := 0) (cap := 0) (n := 0) (Nat.le_refl _)
    simp only [aSlice, hk, hs, this, Option.map]
  · have hl : (l.drop k).length = l.length - k := by simp
    refine ⟨.sl (some (if c = k then a else a.add (k * sz))) (l.length - k) (c - k) none, ?_, .inr ⟨_, c - k, by omega, by rw [hl], fun i x hx => ?_⟩⟩
    · simp only [aSlice, hk, hs, aBounds_lo (cap := c) hkl, Option.map]
      simp
    · rw [List.getElem?_drop] at hx
      have hi := (List.getElem?_eq_some_iff.1 hx).1
      rw [if_neg (by omega)]
      have e : (a.add (k * sz)).add (i * sz) = a.add ((k + i) * sz) := by
        cases a <;> simp only [AA.add, Nat.add_mul] <;> congr 1 <;> omega
      rw [e]
      exact h (k + i) x hx
theorem count_uniq {α : Type} {f : α → Bool} : ∀ {l : List α} {p : Nat} {x : α}, l[p]? = some x → f x = true → (∀ (q : Nat) y, l[q]? = some y → f y = true → q = p) → l.countP f = 1
  | [], p, x, h, _, _ => by simp at h
  | a :: l, 0, x, h, hf, hu => by
    have : a = x := by simpa using h
    subst this
    have hz : l.countP f = 0 := by
      rw [List.countP_eq_zero]
      intro y hy
      obtain ⟨q, hq⟩ := List.getElem?_of_mem hy
      intro hfy
      have := hu (q + 1) y (by simpa using hq) hfy
      omega
    rw [List.countP_cons_of_pos hf, hz]
  | a :: l, p + 1, x, h, hf, hu => by
    have hn : ¬ f a = true := fun hfa => by
      have := hu 0 a (by simp) hfa
      omega
    rw [List.countP_cons_of_neg hn]
    exact count_uniq (by simpa using h) hf fun q y hq hfy => by
      have := hu (q + 1) y (by simpa using hq) hfy
      omega
theorem hideL {C : Cx} {Q : Post} {b : Code} {ks : List Fr} {e : Env} {h : AH} (w : ∀ Q' K, Q' = Q → K = ks → LoopK C Q' b K e h) : LoopK C Q b ks e h := w Q ks rfl rfl
def keyB (r : Rep) (e : Ent) : Bool := decide (e.client = r.client) && decide (e.req = r.req)

/-! the loops: of the steps, of a step's replies, of the history, of the steps from there on, of their replies -/
def O1 (h0 : AH) (v hv : AV) (len : Nat) (n : Nat) (e' : Env) (h' : AH) : Prop :=
  e'.length = 131 ∧ Keeps h0 h' ∧ ∃ k : Nat, k + n = len ∧
    (v = e'.getD 0 .undef ∧ hv = e'.getD 6 .undef ∧ v = e'.getD 47 .undef ∧ e'.getD 48 .undef = .int .i64 len ∧ e'.getD 49 .undef = .int .i64 k)
def O2 (h0 : AH) (v hv rv : AV) (len k rl : Nat) (n : Nat) (e' : Env) (h' : AH) : Prop :=
  e'.length = 131 ∧ Keeps h0 h' ∧ ∃ j : Nat, j + n = rl ∧
    (v = e'.getD 0 .undef ∧ hv = e'.getD 6 .undef ∧ v = e'.getD 47 .undef ∧ e'.getD 48 .undef = .int .i64 len ∧ e'.getD 49 .undef = .int .i64 k ∧ e'.getD 7 .undef = .int .i64 k ∧ rv = e'.getD 55 .undef ∧ e'.getD 56 .undef = .int .i64 rl ∧ e'.getD 57 .undef = .int .i64 j)
def O3 (h0 : AH) (v hv rv : AV) (len k rl j kr : Nat) (r : Rep) (nv : AV) (H : List Ent) (n : Nat) (e' : Env) (h' : AH) : Prop :=
  e'.length = 131 ∧ Keeps h0 h' ∧ kr < h'.next ∧ h'.get kr = some (.cells (r.cells nv) 75) ∧ ∃ q : Nat, q + n = H.length ∧
    (v = e'.getD 0 .undef ∧ hv = e'.getD 6 .undef ∧ v = e'.getD 47 .undef ∧ e'.getD 48 .undef = .int .i64 len ∧ e'.getD 49 .undef = .int .i64 k ∧ e'.getD 7 .undef = .int .i64 k ∧ rv = e'.getD 55 .undef ∧ e'.getD 56 .undef = .int .i64 rl ∧ e'.getD 57 .undef = .int .i64 j ∧
      e'.getD 10 .undef = .ptr (some (.new kr 0)) ∧ e'.getD 11 .undef = .int .i64 ((H.take q).countP (keyB r) : Nat) ∧ hv = e'.getD 63 .undef ∧ e'.getD 64 .undef = .int .i64 H.length ∧ e'.getD 65 .undef = .int .i64 q)
def O4 (h0 : AH) (v hv rv dv : AV) (len k rl j kr dl : Nat) (r : Rep) (nv : AV) (n : Nat) (e' : Env) (h' : AH) : Prop :=
  e'.length = 131 ∧ Keeps h0 h' ∧ kr < h'.next ∧ h'.get kr = some (.cells (r.cells nv) 75) ∧ ∃ q : Nat, q + n = dl ∧
    (v = e'.getD 0 .undef ∧ hv = e'.getD 6 .undef ∧ v = e'.getD 47 .undef ∧ e'.getD 48 .undef = .int .i64 len ∧ e'.getD 49 .undef = .int .i64 k ∧ e'.getD 7 .undef = .int .i64 k ∧ rv = e'.getD 55 .undef ∧ e'.getD 56 .undef = .int .i64 rl ∧ e'.getD 57 .undef = .int .i64 j ∧
      e'.getD 10 .undef = .ptr (some (.new kr 0)) ∧ dv = e'.getD 88 .undef ∧ e'.getD 89 .undef = .int .i64 dl ∧ e'.getD 90 .undef = .int .i64 q)
def O5 (h0 : AH) (v hv rv dv rw_ : AV) (len k rl j kr dl q ql : Nat) (r : Rep) (nv : AV) (n : Nat) (e' : Env) (h' : AH) : Prop :=
  e'.length = 131 ∧ Keeps h0 h' ∧ kr < h'.next ∧ h'.get kr = some (.cells (r.cells nv) 75) ∧ ∃ i : Nat, i + n = ql ∧
    (v = e'.getD 0 .undef ∧ hv = e'.getD 6 .undef ∧ v = e'.getD 47 .undef ∧ e'.getD 48 .undef = .int .i64 len ∧ e'.getD 49 .undef = .int .i64 k ∧ e'.getD 7 .undef = .int .i64 k ∧ rv = e'.getD 55 .undef ∧ e'.getD 56 .undef = .int .i64 rl ∧ e'.getD 57 .undef = .int .i64 j ∧
      e'.getD 10 .undef = .ptr (some (.new kr 0)) ∧ dv = e'.getD 88 .undef ∧ e'.getD 89 .undef = .int .i64 dl ∧ e'.getD 90 .undef = .int .i64 q ∧ rw_ = e'.getD 95 .undef ∧ e'.getD 96 .undef = .int .i64 ql ∧ e'.getD 97 .undef = .int .i64 i)

end Go.Proofs.YtbofhlifobjolaaGreatDoor.Ax
end
