/- The texts DkH, DkI, DkJ, DkL, DkM, as one. -/
import Derived.Test.YtgcoipcnhmkeaaaGg

/-! Files as blocks: what cutting leaves -/
section
set_option linter.unusedVariables false
set_option linter.unusedSimpArgs false
namespace Go.Proofs.Ytgcoipcnhmkeaaa.Ax


section
variable {c : Cf} {ns : Nds} {f : Dsk}







end
end Go.Proofs.Ytgcoipcnhmkeaaa.Ax
end

/-! Files as blocks: how many blocks are taken -/
section
set_option linter.unusedVariables false
set_option linter.unusedSimpArgs false
namespace Go.Proofs.Ytgcoipcnhmkeaaa.Ax



section
variable {c : Cf} {ns : Nds} {f : Dsk}

/-- Which indices have a block. -/
def has (c : Cf) (f : Dsk) (n : Ino) (x : Nat) : Bool := (flc c f n x).isSome






end
end Go.Proofs.Ytgcoipcnhmkeaaa.Ax
end

/-! Files as blocks: the laws of writing and cutting -/
section
set_option linter.unusedVariables false
set_option linter.unusedSimpArgs false
namespace Go.Proofs.Ytgcoipcnhmkeaaa.Ax



section
variable {c : Cf} {ns : Nds} {f : Dsk}
def Tch (at_ len y : Nat) : Prop := at_ < (y + 1) * 128 ∧ y * 128 < at_ + len
instance (a l y : Nat) : Decidable (Tch a l y) := inferInstanceAs (Decidable (_ ∧ _))





/-! ### bytes -/
end
end Go.Proofs.Ytgcoipcnhmkeaaa.Ax
end

/-! Files as blocks: a blank device; whatever is done, all that holds of blocks at rest goes on to hold; what indices cost -/
section
set_option linter.unusedVariables false
set_option linter.unusedSimpArgs false
namespace Go.Proofs.Ytgcoipcnhmkeaaa.Ax

/-- An inode without blocks. -/
def bare (kd ln : Nat) : Ino := ⟨kd, ln, 0, [0, 0, 0, 0, 0, 0], 0, 0⟩


section
variable {c : Cf} {ns : Nds} {f : Dsk}



end

/-! ### what a list of indices costs -/
set_option maxRecDepth 4000


end Go.Proofs.Ytgcoipcnhmkeaaa.Ax
end

/-! Files as blocks: what tells an error changes nothing, whatever the blocks are -/
section
set_option linter.unusedVariables false
set_option linter.unusedSimpArgs false
namespace Go.Proofs.Ytgcoipcnhmkeaaa.Ax

section
variable {c : Cf}
theorem dat_lt (k : c.OK) (n : Nat) : vDat c n < 1024 := by
  have := k.dt0
  by_cases h : vDat c n = 0
  · omega
  · have := (dat_rng h).2; omega
theorem make_lt (k : c.OK) (f : Dsk) : (vMake c f).1 < 1024 := by
  have := k.dt0
  by_cases h : (vMake c f).1 = 0
  · omega
  · obtain ⟨x, h1, h2, _, e⟩ := vMake_some h
    rw [e]; simp only; omega
theorem ens_lt (k : c.OK) (f : Dsk) (p : Nat) : (vEns c f p).1 < 1024 := by
  unfold vEns
  split
  · exact make_lt k f
  · exact dat_lt k p
theorem grow_ok (k : c.OK) (f : Dsk) {n : Ino} (h : InoOK n) (hk : n.kd ≠ 0) (x : Nat) : InoOK (vGrow c f n x).2.1 ∧ (vGrow c f n x).2.1.kd = n.kd ∧ (vGrow c f n x).2.1.sz = n.sz := by
  unfold vGrow
  split
  · exact ⟨h.setD hk (ens_lt k _ _), rfl, rfl⟩
  · split
    · split
      · exact ⟨h.setS hk (by decide), rfl, rfl⟩
      · exact ⟨h.setS hk (ens_lt k _ _), rfl, rfl⟩
    · split
      · exact ⟨h.setB hk (by decide), rfl, rfl⟩
      · simp only
        split
        · exact ⟨h.setB hk (ens_lt k _ _), rfl, rfl⟩
        · exact ⟨h.setB hk (ens_lt k _ _), rfl, rfl⟩
theorem wr_ok (k : c.OK) (at_ : Nat) (data : Bts) : ∀ (m x : Nat) (n : Ino) (f : Dsk), InoOK n → n.kd ≠ 0 → ∀ r, vWr c at_ data m x n f = some r → InoOK r.1 ∧ r.1.kd ≠ 0 ∧ r.1.sz = n.sz
  | 0, x, n, f, h, hk, r, hr => by cases hr; exact ⟨h, hk, rfl⟩
  | m + 1, x, n, f, h, hk, r, hr => by
    simp only [vWr] at hr
    split at hr
    · cases hr
    · obtain ⟨h1, h2, h3⟩ := grow_ok k f h hk x
      obtain ⟨g1, g2, g3⟩ := wr_ok k at_ data m (x + 1) _ _ h1 (by rw [h2]; exact hk) r hr
      exact ⟨g1, g2, g3.trans h3⟩
theorem ino_ok' {f : Dsk} {i : Int} (h : (vIno c f i).1 = 0) : InoOK (vIno c f i).2 ∧ 0 ≤ i ∧ i < c.N := by
  unfold vIno at h ⊢
  split at h
  · cases h
  · rename_i hc
    rw [if_neg hc]
    split at h
    · cases h
    · rename_i n hn
      unfold getI at hn
      exact ⟨(dec_some hn).1, by omega, by omega⟩
theorem open_ok {f : Dsk} {i : Int} (h : (vOpen c f i).1 = 0) : InoOK (vOpen c f i).2 ∧ (vOpen c f i).2.kd ≠ 0 ∧ 0 ≤ i ∧ i < c.N ∧ vOpen c f i = vIno c f i := by
  unfold vOpen at h ⊢
  split at h
  · cases h
  · rename_i hc
    rw [if_neg hc]
    obtain ⟨h1, h2, h3⟩ := ino_ok' h
    exact ⟨h1, fun e => hc ⟨h, e⟩, h2, h3, rfl⟩
theorem setN_ok {f : Dsk} {i : Int} {n : Ino} (h : InoOK n) (h1 : 0 ≤ i) (h2 : i < c.N) : (vSetN c f i n).1 = 0 := by
  unfold vSetN
  rw [if_neg (by omega), if_pos (inoOk_iff.2 h)]
theorem vWrite_err (k : c.OK) (f : Dsk) (i at_ : Int) (data : Bts) (h : (vWrite c f i at_ data).1 ≠ 0) : (vWrite c f i at_ data).2 = f := by
  unfold vWrite at h ⊢
  by_cases ho : (vOpen c f i).1 ≠ 0
  · rw [if_pos ho]
  rw [if_neg ho] at h ⊢
  by_cases h1 : at_ < 0 ∨ 1024 < data.length
  · rw [if_pos h1]
  rw [if_neg h1] at h ⊢
  by_cases h2 : data = []
  · rw [if_pos h2]
  rw [if_neg h2] at h ⊢
  by_cases h3 : 533248 < at_ + data.length
  · rw [if_pos h3]
  rw [if_neg h3] at h ⊢
  obtain ⟨g1, g2, g3, g4, _⟩ := open_ok (Classical.not_not.1 ho)
  split
  · rfl
  · rename_i r hr
    rw [hr] at h
    obtain ⟨e1, e2, e3⟩ := wr_ok k _ _ _ _ _ _ g1 g2 r hr
    have hz : max r.1.sz (at_.toNat + data.length) ≤ 533248 := by have := g1.sz; omega
    exact absurd (setN_ok (e1.setZ e2 hz) g3 g4) h
theorem forget_ok {s : Ino × Dsk} (h : InoOK s.1) (hk : s.1.kd ≠ 0) (x : Nat) : InoOK (vForget c s x).1 ∧ (vForget c s x).1.kd ≠ 0 := by
  unfold vForget
  split
  · exact ⟨h, hk⟩
  · split
    · exact ⟨h.setD hk (by decide), hk⟩
    · split <;> exact ⟨h, hk⟩
theorem forgets_ok : ∀ (l : List Nat) (s : Ino × Dsk), InoOK s.1 → s.1.kd ≠ 0 → InoOK (l.foldl (vForget c) s).1 ∧ (l.foldl (vForget c) s).1.kd ≠ 0
  | [], s, h, hk => ⟨h, hk⟩
  | x :: l, s, h, hk => by
    obtain ⟨h1, h2⟩ := forget_ok (c := c) h hk x
    exact forgets_ok l _ h1 h2
theorem shed_ok (was : Dsk) {s : Ino × Dsk} (h : InoOK s.1) (hk : s.1.kd ≠ 0) : InoOK (vShed c was s).1 ∧ (vShed c was s).1.kd ≠ 0 := by
  unfold vShed
  simp only
  have hP : ∀ p f, p < 1024 → (vShedP c was p f).1 < 1024 := fun p f hp => by
    unfold vShedP
    split
    · show 0 < 1024; decide
    · exact hp
  refine ⟨?_, hk⟩
  have h1 := h.setS hk (hP s.1.sg (vShedD c was (vDat c s.1.db) s.2) h.sg)
  exact h1.setB hk (hP s.1.db _ h.db)
theorem vCut_err (k : c.OK) (f : Dsk) (i size : Int) (h : (vCut c f i size).1 ≠ 0) : (vCut c f i size).2 = f := by
  unfold vCut at h ⊢
  by_cases ho : (vOpen c f i).1 ≠ 0
  · rw [if_pos ho]
  rw [if_neg ho] at h ⊢
  by_cases h1 : size < 0 ∨ 533248 < size
  · rw [if_pos h1]
  rw [if_neg h1] at h ⊢
  obtain ⟨g1, g2, g3, g4, _⟩ := open_ok (Classical.not_not.1 ho)
  refine absurd (setN_ok ?_ g3 g4) h
  unfold vCutN
  simp only
  obtain ⟨e1, e2⟩ := forgets_ok (c := c) (List.range' ((size.toNat + 127) / 128) (4166 - (size.toNat + 127) / 128)) ((vOpen c f i).2, f) g1 g2
  obtain ⟨e3, e4⟩ := shed_ok (c := c) f e1 e2
  exact e3.setZ e4 (by omega)
theorem vSetN_err (f : Dsk) (i : Int) (n : Ino) (h : (vSetN c f i n).1 ≠ 0) : (vSetN c f i n).2 = f := by
  unfold vSetN at h ⊢
  by_cases h1 : i < 0 ∨ (c.N : Int) ≤ i
  · rw [if_pos h1]
  rw [if_neg h1] at h ⊢
  by_cases h2 : inoOk n = true
  · rw [if_pos h2] at h; exact absurd rfl h
  · rw [if_neg h2]
end
end Go.Proofs.Ytgcoipcnhmkeaaa.Ax
end
