/- The texts DkH, DkI, DkJ, DkL, DkM, as one. -/
import Derived.Test.YtgcoipcnhmkeaaaGg

/-! Files as blocks: what cutting leaves -/
section
set_option linter.unusedVariables false
set_option linter.unusedSimpArgs false
namespace Go.Proofs.Ytgcoipcnhmkeaaa.Ax

theorem ptr_sz {c : Cf} {f : Dsk} {n : Ino} {z : Nat} (q : Pos) : ptr c f { n with sz := z } q = ptr c f n q := by
  cases q <;> rfl
theorem flc_sz {c : Cf} {f : Dsk} {n : Ino} {z y : Nat} : flc c f { n with sz := z } y = flc c f n y := by
  unfold flc; rw [look_ptr, look_ptr, ptr_sz]

section
variable {c : Cf} {ns : Nds} {f : Dsk}
theorem DI.setZ {i : Nat} {n : Ino} (h : DI c (updI ns i n) f) (hi : i < c.N) (hk : n.kd ≠ 0) {z : Nat} (hz : z ≤ 533248) : DI c (updI ns i { n with sz := z }) f := by
  have hp : ∀ j, (fun q => ptr c f (updI ns i { n with sz := z } j) q) = fun q => ptr c f (updI ns i n j) q := by
    intro j
    funext q
    by_cases e : j = i
    · subst e; rw [updI_at, updI_at, ptr_sz]
    · rw [updI_ne e, updI_ne e]
  refine ⟨h.len, fun j hj => ?_, ?_, fun j hj => ?_, h.low⟩
  · by_cases e : j = i
    · subst e
      rw [updI_at]
      have := h.ino j hj
      rw [updI_at] at this
      exact this.setZ hk hz
    · rw [updI_ne e]
      have := h.ino j hj
      rw [updI_ne e] at this
      exact this
  · have e : (fun j => ptr c f (updI ns i { n with sz := z } j)) = fun j => ptr c f (updI ns i n j) := by
      funext j; exact hp j
    rw [e]; exact h.pi
  · by_cases e : j = i
    · subst e
      rw [updI_at]
      have := h.raw j hj
      rw [updI_at] at this
      exact ⟨this.d, this.s, this.b, fun q hq hqi h0 m hm => by rw [ptr_sz] at h0 ⊢; exact this.nm q hq hqi h0 m hm⟩
    · rw [updI_ne e]
      have := h.raw j hj
      rw [updI_ne e] at this
      exact this

theorem Ctt.more {i : Nat} {n' : Ino} {f' : Dsk} {K K' : Pos → Prop} (m : Ctt c i ns f n' f' K) (h : ∀ q : Pos, q.ok → K q → K' q) (h2 : ∀ q : Pos, q.ok → K' q → ¬ K q → ptr c f' n' q = 0) : Ctt c i ns f n' f' K' :=
  ⟨m.di, m.same, m.low, m.offp, m.offc, fun q hq hk => (Classical.em (K q)).elim (fun e => m.gone q hq e) fun e => h2 q hq hk e, fun q hq hk => m.left q hq fun e => hk (h q hq e), fun y hy hk => m.mine y hy fun e => hk (h _ (leaf_ok hy) e)⟩

def Emp (c : Cf) (f : Dsk) (n : Ino) (e : Nat) : Prop := ∀ g, g < 64 → ptr c f n (.bb e g) = 0
theorem shedD_ctt (k : c.OK) (h : DI c ns f) {i : Nat} (hi : i < c.N) {was : Dsk} (hw : ∀ x, x < c.B → (was x).length = 128) :
    ∀ m, m ≤ 64 → Ctt c i ns f (ns i) ((List.range m).foldl (vShedK c was (ptr c f (ns i) .b)) f) (fun q => ∃ e, e < m ∧ q = .ba e ∧ Emp c f (ns i) e)
  | 0, _ => (Ctt.refl h).eqK fun q _ => ⟨fun e => e.elim, fun ⟨e, h1, _⟩ => by omega⟩
  | m + 1, hm => by
    have ih := shedD_ctt k h hi hw m (by omega)
    rw [List.range_succ, List.foldl_append, List.foldl_cons, List.foldl_nil]
    generalize (List.range m).foldl (vShedK c was (ptr c f (ns i) .b)) f = f1 at ih
    have hdi : DI c ns f1 := by have := ih.di; rwa [updI_self] at this
    have hno : ∀ e, m ≤ e → ¬ (∃ e', e' < m ∧ Pos.ba e = .ba e' ∧ Emp c f (ns i) e') := fun e he ⟨e', h1, h2, _⟩ => by
      have := Pos.ba.inj h2; omega
    have hba : ptr c f1 (ns i) (.ba m) = ptr c f (ns i) (.ba m) := ih.left (.ba m) (by show m < 64; omega) (hno m (Nat.le_refl _))
    have hbb : ∀ g, g < 64 → ptr c f1 (ns i) (.bb m g) = ptr c f (ns i) (.bb m g) := fun g hg => ih.left (.bb m g) ⟨by omega, hg⟩ fun ⟨e', _, h2, _⟩ => by cases h2
    have hb : ptr c f1 (ns i) .b = ptr c f (ns i) .b := rfl
    unfold vShedK
    have hnm : vNamed c f1 (ptr c f (ns i) .b) m = ptr c f1 (ns i) (.ba m) := rfl
    rw [hnm]
    by_cases hc : ptr c f1 (ns i) (.ba m) ≠ 0 ∧ vEmpty c f1 (ptr c f1 (ns i) (.ba m)) = true
    · rw [if_pos hc]
      have he := empty_iff.1 hc.2
      have hl := leave_ba k hdi hi hw (m := m) (by omega) hc.1 he
      have ht := ih.trans (by rw [updI_self]; exact hl)
      refine ht.eqK fun q _ => ⟨fun e => ?_, fun ⟨e, h1, h2, h3⟩ => ?_⟩
      · rcases e with ⟨e, h1, h2, h3⟩ | e
        · exact ⟨e, by omega, h2, h3⟩
        · exact ⟨m, by omega, e, fun g hg => by rw [← hbb g hg]; exact he g hg⟩
      · by_cases e2 : e = m
        · subst e2; exact .inr h2
        · exact .inl ⟨e, by omega, h2, h3⟩
    · rw [if_neg hc]
      refine ih.more (fun q _ ⟨e, h1, h2, h3⟩ => ⟨e, by omega, h2, h3⟩) fun q hq ⟨e, h1, h2, h3⟩ hnk => ?_
      by_cases e2 : e = m
      · subst e2
        subst h2
        refine Classical.byContradiction fun h0 => hc ⟨h0, empty_iff.2 fun g hg => ?_⟩
        exact (hbb g hg).trans (h3 g hg)
      · exact absurd ⟨e, by omega, h2, h3⟩ hnk

/-- What shedding leaves: blocks of names that name some. -/
def Ne (c : Cf) (f : Dsk) (n : Ino) : Prop := ∀ q : Pos, q.ok → ptr c f n q ≠ 0 → ∃ x, x < 4166 ∧ ptr c f n (leaf x) ≠ 0 ∧ q ∈ upto x

theorem ne_of {n : Ino} (hs : ptr c f n .s ≠ 0 → ∃ e, e < 64 ∧ ptr c f n (.sa e) ≠ 0) (hb : ptr c f n .b ≠ 0 → ∃ e, e < 64 ∧ ptr c f n (.ba e) ≠ 0) (hba : ∀ e, e < 64 → ptr c f n (.ba e) ≠ 0 → ∃ g, g < 64 ∧ ptr c f n (.bb e g) ≠ 0) : Ne c f n := by
  have up3 : ∀ e g, e < 64 → g < 64 → leaf (70 + 64 * e + g) = .bb e g ∧ upto (70 + 64 * e + g) = [.b, .ba e, .bb e g] := fun e g he hg => by
    have h1 : (70 + 64 * e + g - 70) / 64 = e := by omega
    have h2 : (70 + 64 * e + g - 70) % 64 = g := by omega
    refine ⟨by rw [leaf_3 (by omega), h1, h2], ?_⟩
    unfold upto
    rw [if_neg (by omega), if_neg (by omega), h1, h2]
  have up2 : ∀ e, e < 64 → leaf (e + 6) = .sa e ∧ upto (e + 6) = [.s, .sa e] := fun e he => by
    refine ⟨by rw [leaf_2 (by omega) (by omega), Nat.add_sub_cancel], ?_⟩
    unfold upto
    rw [if_neg (by omega), if_pos (by omega), Nat.add_sub_cancel]
  intro q hq h0
  cases q with
  | d a =>
    have ha : a < 6 := hq
    exact ⟨a, by omega, by rw [leaf_1 ha]; exact h0, by simp [upto, ha]⟩
  | s =>
    obtain ⟨e, he, h1⟩ := hs h0
    obtain ⟨h2, h3⟩ := up2 e he
    exact ⟨e + 6, by omega, by rw [h2]; exact h1, by rw [h3]; simp⟩
  | sa e =>
    have he : e < 64 := hq
    obtain ⟨h2, h3⟩ := up2 e he
    exact ⟨e + 6, by omega, by rw [h2]; exact h0, by rw [h3]; simp⟩
  | b =>
    obtain ⟨e, he, h1⟩ := hb h0
    obtain ⟨g, hg, h4⟩ := hba e he h1
    obtain ⟨h2, h3⟩ := up3 e g he hg
    exact ⟨70 + 64 * e + g, by omega, by rw [h2]; exact h4, by rw [h3]; simp⟩
  | ba e =>
    obtain ⟨g, hg, h4⟩ := hba e hq h0
    obtain ⟨h2, h3⟩ := up3 e g hq hg
    exact ⟨70 + 64 * e + g, by have : e < 64 := hq; omega, by rw [h2]; exact h4, by rw [h3]; simp⟩
  | bb e g =>
    obtain ⟨h2, h3⟩ := up3 e g hq.1 hq.2
    exact ⟨70 + 64 * e + g, by have := hq.1; have := hq.2; omega, by rw [h2]; exact h0, by rw [h3]; simp⟩

theorem shed_ctt (k : c.OK) (h : DI c ns f) {i : Nat} (hi : i < c.N) (hk : (ns i).kd ≠ 0) {was : Dsk} (hw : ∀ x, x < c.B → (was x).length = 128) :
    ∃ K : Pos → Prop, (∀ q, K q → q.inner) ∧ Ctt c i ns f (vShed c was (ns i, f)).1 (vShed c was (ns i, f)).2 K ∧ Ne c (vShed c was (ns i, f)).2 (vShed c was (ns i, f)).1 := by
  unfold vShed
  simp only
  -- the double's
  have hD : Ctt c i ns f (ns i) (vShedD c was (vDat c (ns i).db) f) (fun q => ∃ e, e < 64 ∧ q = .ba e ∧ Emp c f (ns i) e) := by
    unfold vShedD
    by_cases h0 : vDat c (ns i).db = 0
    · rw [if_pos h0]
      refine (Ctt.refl h).more (fun _ _ e => e.elim) fun q hq ⟨e, he, e2, _⟩ _ => ?_
      subst e2
      simp only [ptr, h0, named_zero]
    · rw [if_neg h0]
      exact shedD_ctt k h hi hw 64 (Nat.le_refl _)
  generalize vShedD c was (vDat c (ns i).db) f = f1 at hD
  have h1 : DI c ns f1 := by have := hD.di; rwa [updI_self] at this
  have hDn : ∀ e, e < 64 → ptr c f1 (ns i) (.ba e) ≠ 0 → ∃ g, g < 64 ∧ ptr c f1 (ns i) (.bb e g) ≠ 0 := by
    intro e he hne
    have hnk : ¬ Emp c f (ns i) e := fun hE => hne (hD.gone _ he ⟨e, he, rfl, hE⟩)
    obtain ⟨g, hg⟩ := Classical.not_forall.1 hnk
    obtain ⟨hg1, hg2⟩ := Classical.not_imp.1 hg
    refine ⟨g, hg1, ?_⟩
    rw [hD.left (.bb e g) ⟨he, hg1⟩ fun ⟨_, _, e2, _⟩ => by cases e2]
    exact hg2
  -- the single's
  have hS : ∃ K : Pos → Prop, (∀ q, K q → q = .s) ∧ Ctt c i ns f1 { ns i with sg := (vShedP c was (ns i).sg f1).1 } (vShedP c was (ns i).sg f1).2 K ∧
      (ptr c (vShedP c was (ns i).sg f1).2 { ns i with sg := (vShedP c was (ns i).sg f1).1 } .s ≠ 0 → ∃ e, e < 64 ∧ ptr c (vShedP c was (ns i).sg f1).2 { ns i with sg := (vShedP c was (ns i).sg f1).1 } (.sa e) ≠ 0) := by
    unfold vShedP
    by_cases hc : vDat c (ns i).sg ≠ 0 ∧ vEmpty c f1 (vDat c (ns i).sg) = true
    · rw [if_pos hc]
      have he := empty_iff.1 hc.2
      exact ⟨_, fun q e => e, leave_s k h1 hi hk hw hc.1 he, fun h0 => absurd dat_zero h0⟩
    · rw [if_neg hc]
      refine ⟨fun _ => False, fun q e => e.elim, Ctt.refl h1, fun h0 => ?_⟩
      have hne : ¬ ∀ m, m < 64 → vNamed c f1 (vDat c (ns i).sg) m = 0 := fun e => hc ⟨h0, empty_iff.2 e⟩
      obtain ⟨g, hg⟩ := Classical.not_forall.1 hne
      obtain ⟨hg1, hg2⟩ := Classical.not_imp.1 hg
      exact ⟨g, hg1, hg2⟩
  generalize vShedP c was (ns i).sg f1 = a at hS
  obtain ⟨sg, f2⟩ := a
  simp only at hS ⊢
  obtain ⟨K2, hK2, hS, hSn⟩ := hS
  have hns : ∀ q : Pos, q.ok → q ≠ .s → ptr c f2 { ns i with sg := sg } q = ptr c f1 (ns i) q := fun q hq hne => hS.left q hq fun e => hne (hK2 q e)
  -- the double itself
  have hk2 : ({ ns i with sg := sg } : Ino).kd ≠ 0 := hk
  have hB : ∃ K : Pos → Prop, (∀ q, K q → q = .b) ∧ Ctt c i (updI ns i { ns i with sg := sg }) f2 { ns i with sg := sg, db := (vShedP c was (ns i).db f2).1 } (vShedP c was (ns i).db f2).2 K ∧
      (ptr c (vShedP c was (ns i).db f2).2 { ns i with sg := sg, db := (vShedP c was (ns i).db f2).1 } .b ≠ 0 → ∃ e, e < 64 ∧ ptr c (vShedP c was (ns i).db f2).2 { ns i with sg := sg, db := (vShedP c was (ns i).db f2).1 } (.ba e) ≠ 0) := by
    unfold vShedP
    by_cases hc : vDat c (ns i).db ≠ 0 ∧ vEmpty c f2 (vDat c (ns i).db) = true
    · rw [if_pos hc]
      have he := empty_iff.1 hc.2
      have hl := leave_b k hS.di hi (by rw [updI_at]; exact hk) hw (by rw [updI_at]; exact hc.1) (by rw [updI_at]; exact he)
      rw [updI_at] at hl
      exact ⟨_, fun q e => e, hl, fun h0 => absurd dat_zero h0⟩
    · rw [if_neg hc]
      have hr := Ctt.refl (i := i) hS.di
      rw [updI_at] at hr
      refine ⟨fun _ => False, fun q e => e.elim, hr, fun h0 => ?_⟩
      have hne : ¬ ∀ m, m < 64 → vNamed c f2 (vDat c (ns i).db) m = 0 := fun e => hc ⟨h0, empty_iff.2 e⟩
      obtain ⟨g, hg⟩ := Classical.not_forall.1 hne
      obtain ⟨hg1, hg2⟩ := Classical.not_imp.1 hg
      exact ⟨g, hg1, hg2⟩
  generalize vShedP c was (ns i).db f2 = b at hB
  obtain ⟨db, f3⟩ := b
  simp only at hB ⊢
  obtain ⟨K3, hK3, hB, hBn⟩ := hB
  have hnb : ∀ q : Pos, q.ok → q ≠ .b → ptr c f3 { ns i with sg := sg, db := db } q = ptr c f2 { ns i with sg := sg } q := fun q hq hne => by
    have := hB.left q hq fun e => hne (hK3 q e)
    rwa [updI_at] at this
  have ht := (hD.trans (by rw [updI_self]; exact hS)).trans hB
  refine ⟨_, fun q e => ?_, ht, ne_of (fun h0 => ?_) hBn fun e he h0 => ?_⟩
  · rcases e with (⟨e, _, rfl, _⟩ | e) | e
    · trivial
    · rw [hK2 q e]; trivial
    · rw [hK3 q e]; trivial
  · rw [hnb .s trivial (by simp)] at h0
    obtain ⟨e, he, h4⟩ := hSn h0
    exact ⟨e, he, by rw [hnb (.sa e) he (by simp)]; exact h4⟩
  · rw [hnb (.ba e) he (by simp), hns (.ba e) he (by simp)] at h0
    obtain ⟨g, hg, h4⟩ := hDn e he h0
    exact ⟨g, hg, by rw [hnb (.bb e g) ⟨he, hg⟩ (by simp), hns (.bb e g) ⟨he, hg⟩ (by simp)]; exact h4⟩

/-- What cutting leaves. -/
structure Cutt (c : Cf) (i : Nat) (ns : Nds) (f : Dsk) (n' : Ino) (f' : Dsk) (size : Nat) : Prop where
  di : DI c (updI ns i n') f'
  kd : n'.kd = (ns i).kd
  ln : n'.ln = (ns i).ln
  sz : n'.sz = size
  low : ∀ x, x < c.dt → x ≠ c.bm → f' x = f x
  offp : ∀ j, j < c.N → j ≠ i → ∀ q : Pos, q.ok → ptr c f' (ns j) q = ptr c f (ns j) q
  offc : ∀ j, j < c.N → j ≠ i → ∀ y, y < 4166 → flc c f' (ns j) y = flc c f (ns j) y
  ne : Ne c f' n'
  mine : ∀ y, y < 4166 → flc c f' n' y = if size ≤ y * 128 then none else if size < (y + 1) * 128 then (flc c f (ns i) y).map (fun b => b.take (size % 128) ++ zeros (128 - size % 128)) else flc c f (ns i) y

theorem Ne.of {f' : Dsk} {n n' : Ino} (h : Ne c f n) (e : ∀ q : Pos, q.ok → ptr c f' n' q = ptr c f n q) : Ne c f' n' := fun q hq h0 => by
  rw [e q hq] at h0
  obtain ⟨x, h1, h2, h3⟩ := h q hq h0
  exact ⟨x, h1, by rw [e _ (leaf_ok h1)]; exact h2, h3⟩
theorem cut_spec (k : c.OK) (h : DI c ns f) {i : Nat} (hi : i < c.N) (hk : (ns i).kd ≠ 0) {size : Nat} (hs : size ≤ 533248) :
    Cutt c i ns f (vCutN c f (ns i) size).1 (vCutN c f (ns i) size).2 size := by
  have hF := forgets_ctt k hi (4166 - (size + 127) / 128) ((size + 127) / 128) ns f h hk (by omega)
  unfold vCutN
  simp only
  generalize (List.range' ((size + 127) / 128) (4166 - (size + 127) / 128)).foldl (vForget c) (ns i, f) = s1 at hF
  obtain ⟨n1, f1⟩ := s1
  simp only at hF
  obtain ⟨K, hK, hC, hne⟩ := shed_ctt k hF.di hi (by rw [updI_at, hF.same.1]; exact hk) (was := f) h.len
  rw [updI_at] at hC hne
  generalize vShed c f (n1, f1) = s2 at hC hne
  obtain ⟨n2, f2⟩ := s2
  simp only at hC hne ⊢
  have hT := hF.trans hC
  have hpl : ∀ y, y < 4166 → ptr c f2 n2 (leaf y) = if (size + 127) / 128 ≤ y then 0 else ptr c f (ns i) (leaf y) := by
    intro y hy
    by_cases e : (size + 127) / 128 ≤ y
    · rw [if_pos e]
      exact hT.gone _ (leaf_ok hy) (.inl ⟨y, e, by omega, rfl⟩)
    · rw [if_neg e]
      refine hT.left _ (leaf_ok hy) fun hc => ?_
      rcases hc with ⟨z, h1, h2, h3⟩ | hc
      · have := leaf_inj h3; omega
      · exact leaf_inner y (hK _ hc)
  have hfl : ∀ y, y < 4166 → flc c f2 n2 y = if (size + 127) / 128 ≤ y then none else flc c f (ns i) y := by
    intro y hy
    by_cases e : (size + 127) / 128 ≤ y
    · rw [if_pos e]
      exact flc_none (by rw [hpl y hy, if_pos e])
    · rw [if_neg e]
      refine hT.mine y hy fun hc => ?_
      rcases hc with ⟨z, h1, h2, h3⟩ | hc
      · have := leaf_inj h3; omega
      · exact leaf_inner y (hK _ hc)
  have hkd2 : n2.kd = (ns i).kd := hT.same.1
  have hln2 : n2.ln = (ns i).ln := hT.same.2.1
  -- the tail
  unfold vTail
  simp only
  rw [look_ptr]
  by_cases hc : size % 128 ≠ 0 ∧ ptr c f2 n2 (leaf (size / 128)) ≠ 0
  · rw [if_pos hc]
    have hx : size / 128 < 4166 := by omega
    have hlen : (f2 (ptr c f2 n2 (leaf (size / 128)))).length = 128 := hT.di.len _ (ptr_rng hc.2).2
    have hp := put_leaf k hT.di hi hx (b := (f2 (ptr c f2 n2 (leaf (size / 128)))).take (size % 128) ++ zeros (128 - size % 128)) (by rw [updI_at]; exact hc.2) (by simp [zeros, hlen]; omega)
    rw [updI_at] at hp
    obtain ⟨hp1, hp2⟩ := hp
    have hpp : ∀ q : Pos, q.ok → ptr c (upd f2 (ptr c f2 n2 (leaf (size / 128))) ((f2 (ptr c f2 n2 (leaf (size / 128)))).take (size % 128) ++ zeros (128 - size % 128))) n2 q = ptr c f2 n2 q := by
      refine ptr_frame fun q hq hqi h0 => upd_ne fun e => ?_
      have := hT.di.one hi hi (leaf_ok hx) hq (by rw [updI_at]; exact hc.2) (by rw [updI_at]; exact e)
      rw [this.2] at hqi
      exact leaf_inner _ hqi
    have hfx : flc c f2 n2 (size / 128) = some (f2 (ptr c f2 n2 (leaf (size / 128)))) := flc_some hc.2
    have hdi : DI c (updI ns i n2) (upd f2 (ptr c f2 n2 (leaf (size / 128))) ((f2 (ptr c f2 n2 (leaf (size / 128)))).take (size % 128) ++ zeros (128 - size % 128))) := by
      have := hp1.di; rwa [updI_updI] at this
    generalize (f2 (ptr c f2 n2 (leaf (size / 128)))) = b at *
    generalize hg : upd f2 (ptr c f2 n2 (leaf (size / 128))) (b.take (size % 128) ++ zeros (128 - size % 128)) = f3 at *
    refine ⟨hdi.setZ hi (by rw [hkd2]; exact hk) hs, hkd2, hln2, rfl, fun x h1 h2 => (hp1.low x h1 h2).trans (hT.low x h1 h2), fun j hj hne q hq => ?_, fun j hj hne y hy => ?_, (hne.of hpp).of fun q _ => ptr_sz q, fun y hy => ?_⟩
    · have := hp1.offp j hj hne q hq
      rw [updI_ne hne] at this
      exact this.trans (hT.offp j hj hne q hq)
    · have := hp1.offc j hj hne y hy
      rw [updI_ne hne] at this
      exact this.trans (hT.offc j hj hne y hy)
    · rw [flc_sz, hp2 y hy]
      by_cases e : y = size / 128
      · subst e
        rw [if_pos rfl, if_neg (by omega), if_pos (by omega)]
        have := hfl (size / 128) hx
        rw [if_neg (by omega), hfx] at this
        rw [← this]; rfl
      · rw [if_neg e, hfl y hy]
        by_cases e2 : size ≤ y * 128
        · rw [if_pos e2, if_pos (by omega)]
        · rw [if_neg e2, if_neg (by omega), if_neg (by omega)]
  · rw [if_neg hc]
    refine ⟨hT.di.setZ hi (by rw [hkd2]; exact hk) hs, hkd2, hln2, rfl, hT.low, hT.offp, hT.offc, hne.of fun q _ => ptr_sz q, fun y hy => ?_⟩
    rw [flc_sz, hfl y hy]
    by_cases e2 : size ≤ y * 128
    · rw [if_pos e2, if_pos (by omega)]
    · rw [if_neg e2, if_neg (by omega)]
      split
      · rename_i e3
        have hyq : y = size / 128 := by omega
        have h0 : ptr c f2 n2 (leaf y) = 0 := Classical.byContradiction fun h0 => hc ⟨by omega, by rw [← hyq]; exact h0⟩
        rw [hpl y hy, if_neg (by omega)] at h0
        rw [flc_none h0]; rfl
      · rfl
end
end Go.Proofs.Ytgcoipcnhmkeaaa.Ax
end

/-! Files as blocks: how many blocks are taken -/
section
set_option linter.unusedVariables false
set_option linter.unusedSimpArgs false
namespace Go.Proofs.Ytgcoipcnhmkeaaa.Ax

/-- All places of an inode. -/
def allPos : List Pos := (List.range 6).map .d ++ [.s] ++ (List.range 64).map .sa ++ [.b] ++ (List.range 64).map .ba ++ (List.range 64).flatMap fun a => (List.range 64).map (.bb a)
theorem mem_allPos {q : Pos} : q ∈ allPos ↔ q.ok := by
  simp only [allPos, List.mem_append, List.mem_map, List.mem_range, List.mem_flatMap, List.mem_singleton]
  cases q <;> simp [Pos.ok]
theorem nodup_map' {α β : Type} {f : α → β} {l : List α} (hl : l.Nodup) (h : ∀ x ∈ l, ∀ y ∈ l, f x = f y → x = y) : (l.map f).Nodup := by
  rw [List.Nodup, List.pairwise_map]
  refine List.Pairwise.imp_of_mem ?_ hl
  intro x y hx hy hne he
  exact hne (h x hx y hy he)
theorem nodup_flat {α β : Type} {f : α → List β} {l : List α} (hl : l.Nodup) (h1 : ∀ x ∈ l, (f x).Nodup) (h2 : ∀ x ∈ l, ∀ y ∈ l, x ≠ y → ∀ a ∈ f x, ∀ b ∈ f y, a ≠ b) : (l.flatMap f).Nodup := by
  rw [List.Nodup, List.pairwise_flatMap]
  refine ⟨h1, ?_⟩
  refine List.Pairwise.imp_of_mem ?_ hl
  intro x y hx hy hne a ha b hb
  exact h2 x hx y hy hne a ha b hb
theorem allPos_nodup : allPos.Nodup := by
  unfold allPos
  have r := fun n => List.nodup_range (n := n)
  refine List.nodup_append.2 ⟨List.nodup_append.2 ⟨List.nodup_append.2 ⟨List.nodup_append.2 ⟨List.nodup_append.2 ⟨nodup_map' (r 6) fun x _ y _ e => Pos.d.inj e, by simp, ?_⟩, nodup_map' (r 64) fun x _ y _ e => Pos.sa.inj e, ?_⟩, by simp, ?_⟩, nodup_map' (r 64) fun x _ y _ e => Pos.ba.inj e, ?_⟩,
    nodup_flat (r 64) (fun a _ => nodup_map' (r 64) fun x _ y _ e => (Pos.bb.inj e).2) fun x _ y _ hne a ha b' hb e => ?_, ?_⟩
  all_goals first
    | (obtain ⟨u, _, rfl⟩ := List.mem_map.1 ha
       obtain ⟨v, _, rfl⟩ := List.mem_map.1 hb
       exact hne (Pos.bb.inj e).1)
    | (intro a ha b' hb e
       subst e
       simp only [List.mem_append, List.mem_map, List.mem_singleton, List.mem_flatMap, List.mem_range] at ha hb
       cases a <;> simp at ha hb)

/-- The places that are needed for indices. -/
def upB (S : Nat → Bool) (q : Pos) : Bool := (List.range 4166).any fun x => S x && decide (q ∈ upto x)
theorem upB_iff {S : Nat → Bool} {q : Pos} : upB S q = true ↔ ∃ x, x < 4166 ∧ S x = true ∧ q ∈ upto x := by
  simp [upB]
/-- How many blocks indices cost. -/
def costS (S : Nat → Bool) : Nat := (allPos.filter (upB S)).length
def sumN (N : Nat) (g : Nat → Nat) : Nat := ((List.range N).map g).sum
theorem sumN_succ (N : Nat) (g : Nat → Nat) : sumN (N + 1) g = sumN N g + g N := by
  simp [sumN, List.range_succ]
theorem sumN_eq {N : Nat} {g h : Nat → Nat} (e : ∀ j, j < N → g j = h j) : sumN N g = sumN N h := by
  induction N with
  | zero => rfl
  | succ N ih => rw [sumN_succ, sumN_succ, ih fun j hj => e j (by omega), e N (by omega)]
theorem sumN_le {N : Nat} {g h : Nat → Nat} (e : ∀ j, j < N → g j ≤ h j) : sumN N g ≤ sumN N h := by
  induction N with
  | zero => exact Nat.le_refl _
  | succ N ih =>
    rw [sumN_succ, sumN_succ]
    have := ih fun j hj => e j (by omega)
    have := e N (by omega)
    omega
theorem sumN_lt {N : Nat} {g h : Nat → Nat} (e : ∀ j, j < N → g j ≤ h j) {i : Nat} (hi : i < N) (hlt : g i < h i) : sumN N g < sumN N h := by
  induction N with
  | zero => omega
  | succ N ih =>
    rw [sumN_succ, sumN_succ]
    have h1 := e N (by omega)
    by_cases hiN : i = N
    · subst hiN
      have := sumN_le (N := i) (g := g) (h := h) fun j hj => e j (by omega)
      omega
    · have := ih (fun j hj => e j (by omega)) (by omega)
      omega
def lnk (c : Cf) (f : Dsk) (n : Ino) : Nat := (allPos.filter fun q => decide (ptr c f n q ≠ 0)).length

section
variable {c : Cf} {ns : Nds} {f : Dsk}
theorem len_flat {α β : Type} (g : α → List β) : ∀ l : List α, (l.flatMap g).length = (l.map fun x => (g x).length).sum
  | [] => rfl
  | a :: l => by simp [len_flat g l]
theorem cnt_links (k : c.OK) (h : DI c ns f) : cntB (f c.bm) c.dt (c.B - c.dt) = sumN c.N fun j => lnk c f (ns j) := by
  have hk := k.dt0
  have e1 : sumN c.N (fun j => lnk c f (ns j)) = ((List.range c.N).flatMap fun j => (allPos.filter fun q => decide (ptr c f (ns j) q ≠ 0)).map (ptr c f (ns j))).length := by
    rw [len_flat]
    simp only [sumN, lnk, List.length_map]
  have e2 : cntB (f c.bm) c.dt (c.B - c.dt) = (((List.range (c.B - c.dt)).filter fun j => bit (f c.bm) (c.dt + j)).map (c.dt + ·)).length := by
    rw [cntB_filter, List.length_map]
  rw [e1, e2]
  refine List.Perm.length_eq ((List.perm_ext_iff_of_nodup ?_ ?_).2 fun x => ?_)
  · exact nodup_map' (List.Nodup.sublist List.filter_sublist List.nodup_range) fun a _ b _ e => by omega
  · refine nodup_flat List.nodup_range (fun j hj => ?_) fun i hi j hj hne a ha b hb e => ?_
    · refine nodup_map' (List.Nodup.sublist List.filter_sublist allPos_nodup) fun p hp q hq e => ?_
      rw [List.mem_filter, mem_allPos] at hp hq
      rw [List.mem_range] at hj
      exact (h.pi.inj j j p q hj hj hp.1 hq.1 (by simpa using hp.2) e).2
    · obtain ⟨p, hp, rfl⟩ := List.mem_map.1 ha
      obtain ⟨q, hq, rfl⟩ := List.mem_map.1 hb
      rw [List.mem_filter, mem_allPos] at hp hq
      rw [List.mem_range] at hi hj
      exact hne (h.pi.inj i j p q hi hj hp.1 hq.1 (by simpa using hp.2) e).1
  · simp only [List.mem_map, List.mem_filter, List.mem_range, List.mem_flatMap, mem_allPos, decide_eq_true_eq]
    constructor
    · rintro ⟨j, ⟨hj, hb⟩, rfl⟩
      obtain ⟨i, p, hi, hp, e, _⟩ := (h.pi.on (c.dt + j) (by omega)).1 hb
      exact ⟨i, hi, p, ⟨hp, fun e0 => by have e : ptr c f (ns i) p = c.dt + j := e; omega⟩, e⟩
    · rintro ⟨i, hi, p, ⟨hp, h0⟩, rfl⟩
      have hr := ptr_rng h0
      refine ⟨ptr c f (ns i) p - c.dt, ⟨by omega, ?_⟩, by omega⟩
      rw [show c.dt + (ptr c f (ns i) p - c.dt) = ptr c f (ns i) p by omega]
      exact h.on k hi hp h0

/-- Which indices have a block. -/
def has (c : Cf) (f : Dsk) (n : Ino) (x : Nat) : Bool := (flc c f n x).isSome
theorem has_iff {n : Ino} {x : Nat} : has c f n x = true ↔ ptr c f n (leaf x) ≠ 0 := by
  unfold has
  by_cases h : ptr c f n (leaf x) = 0
  · rw [flc_none h]; simp [h]
  · rw [flc_some h]; simp [h]
theorem lnk_cost {n : Ino} (h : Ne c f n) : lnk c f n = costS (has c f n) := by
  unfold lnk costS
  refine congrArg List.length (List.filter_congr fun q hq => ?_)
  rw [mem_allPos] at hq
  rw [Bool.eq_iff_iff, decide_eq_true_eq, upB_iff]
  constructor
  · intro h0
    obtain ⟨x, h1, h2, h3⟩ := h q hq h0
    exact ⟨x, h1, has_iff.2 h2, h3⟩
  · rintro ⟨x, h1, h2, h3⟩
    exact upto_on (has_iff.1 h2) q h3
theorem lnk_le {n : Ino} {S : Nat → Bool} (h : ∀ q : Pos, q.ok → ptr c f n q ≠ 0 → ∃ x, x < 4166 ∧ S x = true ∧ q ∈ upto x) : lnk c f n ≤ costS S := by
  unfold lnk costS
  refine List.Nodup.length_le_of_subset (List.Nodup.sublist List.filter_sublist allPos_nodup) fun q hq => ?_
  rw [List.mem_filter, mem_allPos, decide_eq_true_eq] at hq
  rw [List.mem_filter, mem_allPos, upB_iff]
  exact ⟨hq.1, h q hq.1 hq.2⟩
theorem lnk_lt {n : Ino} {S : Nat → Bool} (h : ∀ q : Pos, q.ok → ptr c f n q ≠ 0 → ∃ x, x < 4166 ∧ S x = true ∧ q ∈ upto x) {p : Pos} {y : Nat} (hy : y < 4166) (hS : S y = true) (hp : p ∈ upto y) (h0 : ptr c f n p = 0) : lnk c f n < costS S := by
  unfold lnk costS
  have hpo := upto_ok hy p hp
  have hn : (p :: allPos.filter fun q => decide (ptr c f n q ≠ 0)).Nodup := by
    refine List.nodup_cons.2 ⟨fun hm => ?_, List.Nodup.sublist List.filter_sublist allPos_nodup⟩
    rw [List.mem_filter, decide_eq_true_eq] at hm
    exact hm.2 h0
  have := List.Nodup.length_le_of_subset (l₂ := allPos.filter (upB S)) hn fun q hq => ?_
  · simp only [List.length_cons] at this; omega
  · rw [List.mem_filter, mem_allPos, upB_iff]
    rcases List.mem_cons.1 hq with rfl | hq
    · exact ⟨hpo, y, hy, hS, hp⟩
    · rw [List.mem_filter, mem_allPos, decide_eq_true_eq] at hq
      exact ⟨hq.1, h q hq.1 hq.2⟩

/-- All that holds of blocks at rest. -/
structure FI (c : Cf) (ns : Nds) (f : Dsk) : Prop where
  di : DI c ns f
  ne : ∀ i, i < c.N → Ne c f (ns i)
  abs : ∀ i, i < c.N → ∀ x, x < 4166 → (ns i).sz ≤ x * 128 → flc c f (ns i) x = none
  tail : ∀ i, i < c.N → ∀ x, x < 4166 → ∀ b, flc c f (ns i) x = some b → ∀ o, o < 128 → (ns i).sz ≤ x * 128 + o → Bts.at b o = 0
  tab : ∀ i, i < c.N → getI (f (c.tb + i / 4)) (i % 4) = some (ns i)

theorem FI.count (k : c.OK) (h : FI c ns f) : cntB (f c.bm) c.dt (c.B - c.dt) = sumN c.N fun j => costS (has c f (ns j)) := by
  rw [cnt_links k h.di]
  exact sumN_eq fun j hj => lnk_cost (h.ne j hj)
theorem FI.free (k : c.OK) (h : FI c ns f) : vFree c f + sumN c.N (fun j => costS (has c f (ns j))) = c.B - c.dt := by
  have := h.count k
  have h2 := cntB_le (f c.bm) c.dt (c.B - c.dt)
  unfold vFree
  omega

theorem FI.ino (h : FI c ns f) {i : Nat} (hi : i < c.N) : vIno c f i = (0, ns i) := by
  unfold vIno
  rw [if_neg (by omega), Int.toNat_natCast, h.tab i hi]
theorem FI.open (h : FI c ns f) {i : Nat} (hi : i < c.N) (hk : (ns i).kd ≠ 0) : vOpen c f i = (0, ns i) := by
  unfold vOpen
  rw [h.ino hi, if_neg (fun hc => hk hc.2)]

/-- The table's blocks, and the bitmap's neighbours, are no files'. -/
theorem low_frame (k : c.OK) {t : Nat} (ht : t < c.dt) {b : Bts} {n : Ino} : ∀ q : Pos, q.ok → ptr c (upd f t b) n q = ptr c f n q :=
  ptr_frame fun q _ _ h0 => upd_ne (by have := (ptr_rng h0).1; omega)
theorem low_flc (k : c.OK) {t : Nat} (ht : t < c.dt) {b : Bts} {n : Ino} {y : Nat} (hy : y < 4166) : flc c (upd f t b) n y = flc c f n y := by
  have e := low_frame (f := f) (b := b) (n := n) k ht (leaf y) (leaf_ok hy)
  by_cases h0 : ptr c f n (leaf y) = 0
  · rw [flc_none h0, flc_none (by rw [e]; exact h0)]
  · rw [flc_some h0, flc_some (by rw [e]; exact h0), e, upd_ne (by have := (ptr_rng h0).1; omega)]
theorem DI.lowUpd (k : c.OK) (h : DI c ns f) {t : Nat} (ht : t < c.dt) (hb : t ≠ c.bm) {b : Bts} (hl : b.length = 128) : DI c ns (upd f t b) := by
  have hp := fun (n : Ino) (q : Pos) (hq : q.ok) => low_frame (f := f) (b := b) (n := n) k ht q hq
  have hbm : upd f t b c.bm = f c.bm := upd_ne (Ne.symm hb)
  refine ⟨fun y hy => ?_, h.ino, ⟨fun a d q r ha hd hq hr2 hne he => ?_, fun y hy => ?_⟩, fun j hj => (h.raw j hj).frame fun q _ _ h0 => upd_ne (by have := (ptr_rng h0).1; omega), fun y hy => by rw [hbm]; exact h.low y hy⟩
  · unfold upd; split
    · exact hl
    · exact h.len y hy
  · simp only [hp _ q hq, hp _ r hr2] at hne he
    exact h.pi.inj a d q r ha hd hq hr2 hne he
  · rw [hbm, h.pi.on y hy]
    constructor
    · rintro ⟨j, q, h1, h2, h3, h4⟩
      exact ⟨j, q, h1, h2, by simp only [hp _ q h2]; exact h3, h4⟩
    · rintro ⟨j, q, h1, h2, h3, h4⟩
      exact ⟨j, q, h1, h2, by simp only [hp _ q h2] at h3; exact h3, h4⟩

/-- An inode that is changed is put into the table. -/
theorem seal_fi (k : c.OK) {i : Nat} (hi : i < c.N) {n' : Ino} {f' : Dsk} (hd : DI c (updI ns i n') f') (hne : ∀ j, j < c.N → Ne c f' (updI ns i n' j)) (ha : ∀ j, j < c.N → ∀ x, x < 4166 → (updI ns i n' j).sz ≤ x * 128 → flc c f' (updI ns i n' j) x = none)
    (ht : ∀ j, j < c.N → ∀ x, x < 4166 → ∀ b, flc c f' (updI ns i n' j) x = some b → ∀ o, o < 128 → (updI ns i n' j).sz ≤ x * 128 + o → Bts.at b o = 0)
    (htab : ∀ j, j < c.N → j ≠ i → getI (f' (c.tb + j / 4)) (j % 4) = some (ns j)) :
    FI c (updI ns i n') (upd f' (c.tb + i / 4) (putI (f' (c.tb + i / 4)) (i % 4) n')) ∧ (∀ j, j < c.N → ∀ y, y < 4166 → flc c (upd f' (c.tb + i / 4) (putI (f' (c.tb + i / 4)) (i % 4) n')) (updI ns i n' j) y = flc c f' (updI ns i n' j) y) := by
  have hk := k.dt0
  have htb := k.tbl hi
  have hok : InoOK n' := by have := hd.ino i hi; rwa [updI_at] at this
  have hl : (f' (c.tb + i / 4)).length = 128 := hd.len _ (by omega)
  have hpl := putI_len hl (Nat.mod_lt i (by decide : 0 < 4)) hok.len
  have hfl := fun (n : Ino) (y : Nat) (hy : y < 4166) => low_flc (f := f') (b := putI (f' (c.tb + i / 4)) (i % 4) n') (n := n) k htb hy
  refine ⟨⟨hd.lowUpd k htb (by unfold Cf.bm Cf.tb; omega) hpl, fun j hj => (hne j hj).of (low_frame k htb), fun j hj x hx hs => ?_, fun j hj x hx b hb o ho hs => ?_, fun j hj => ?_⟩, fun j hj y hy => hfl _ y hy⟩
  · rw [hfl _ x hx]; exact ha j hj x hx hs
  · rw [hfl _ x hx] at hb; exact ht j hj x hx b hb o ho hs
  · by_cases e : j = i
    · subst e
      rw [updI_at, upd_at, get_put hl (Nat.mod_lt _ (by decide)) (Nat.mod_lt _ (by decide)) hok, if_pos rfl]
    · rw [updI_ne e]
      by_cases e2 : c.tb + j / 4 = c.tb + i / 4
      · rw [e2, upd_at, get_put hl (Nat.mod_lt _ (by decide)) (Nat.mod_lt _ (by decide)) hok, if_neg (by omega)]
        have := htab j hj e
        rw [e2] at this
        exact this
      · rw [upd_ne e2]
        exact htab j hj e

/-- An inode's other numbers are set. -/
theorem set_fi (k : c.OK) (h : FI c ns f) {i : Nat} (hi : i < c.N) {n' : Ino} (hok : InoOK n') (h1 : n'.dr = (ns i).dr) (h2 : n'.sg = (ns i).sg) (h3 : n'.db = (ns i).db) (h4 : n'.sz = (ns i).sz) :
    vSetN c f i n' = (0, upd f (c.tb + i / 4) (putI (f (c.tb + i / 4)) (i % 4) n')) ∧ FI c (updI ns i n') (upd f (c.tb + i / 4) (putI (f (c.tb + i / 4)) (i % 4) n')) ∧
    ∀ j, j < c.N → ∀ y, y < 4166 → flc c (upd f (c.tb + i / 4) (putI (f (c.tb + i / 4)) (i % 4) n')) (updI ns i n' j) y = flc c f (ns j) y := by
  have hp : ∀ q, ptr c f n' q = ptr c f (ns i) q := fun q => by cases q <;> simp only [ptr, h1, h2, h3]
  have hpj : ∀ j q, ptr c f (updI ns i n' j) q = ptr c f (ns j) q := fun j q => by
    by_cases e : j = i
    · subst e; rw [updI_at, hp]
    · rw [updI_ne e]
  have hfl : ∀ j y, flc c f (updI ns i n' j) y = flc c f (ns j) y := fun j y => by
    unfold flc; rw [look_ptr, look_ptr, hpj]
  have hsz : ∀ j, (updI ns i n' j).sz = (ns j).sz := fun j => by
    by_cases e : j = i
    · subst e; rw [updI_at, h4]
    · rw [updI_ne e]
  have hd : DI c (updI ns i n') f := by
    have hd := h.di
    refine ⟨hd.len, fun j hj => ?_, ?_, fun j hj => ?_, hd.low⟩
    · by_cases e : j = i
      · subst e; rw [updI_at]; exact hok
      · rw [updI_ne e]; exact hd.ino j hj
    · have e : (fun j => ptr c f (updI ns i n' j)) = fun j => ptr c f (ns j) := by
        funext j q; exact hpj j q
      rw [e]; exact hd.pi
    · have r := hd.raw j hj
      by_cases e : j = i
      · subst e
        rw [updI_at]
        exact ⟨by rw [h1]; exact r.d, by rw [h2]; exact r.s, by rw [h3]; exact r.b, fun q hq hqi h0 m hm => by rw [hp] at h0 ⊢; exact r.nm q hq hqi h0 m hm⟩
      · rw [updI_ne e]; exact r
  have hs := seal_fi k hi hd (fun j hj => (h.ne j hj).of fun q _ => hpj j q) (fun j hj x hx hs => by rw [hsz] at hs; rw [hfl]; exact h.abs j hj x hx hs)
    (fun j hj x hx b hb o ho hs => by rw [hsz] at hs; rw [hfl] at hb; exact h.tail j hj x hx b hb o ho hs) fun j hj _ => h.tab j hj
  refine ⟨?_, hs.1, fun j hj y hy => by rw [hs.2 j hj y hy, hfl]⟩
  unfold vSetN
  rw [if_neg (by omega), if_pos (inoOk_iff.2 hok), Int.toNat_natCast]
end
end Go.Proofs.Ytgcoipcnhmkeaaa.Ax
end

/-! Files as blocks: the laws of writing and cutting -/
section
set_option linter.unusedVariables false
set_option linter.unusedSimpArgs false
namespace Go.Proofs.Ytgcoipcnhmkeaaa.Ax

theorem at_append (a b : Bts) (k : Nat) : Bts.at (a ++ b) k = if k < a.length then Bts.at a k else Bts.at b (k - a.length) := by
  simp only [Bts.at, List.getD_eq_getElem?_getD]
  split
  · rename_i h; rw [List.getElem?_append_left h]
  · rename_i h; rw [List.getElem?_append_right (by omega)]
theorem at_take (a : Bts) (n k : Nat) : Bts.at (a.take n) k = if k < n then Bts.at a k else 0 := by
  simp only [Bts.at, List.getD_eq_getElem?_getD, List.getElem?_take]
  split <;> rfl
theorem at_drop (a : Bts) (n k : Nat) : Bts.at (a.drop n) k = Bts.at a (n + k) := by
  simp only [Bts.at, List.getD_eq_getElem?_getD, List.getElem?_drop]
theorem splice_at {old data : Bts} {y at_ o : Nat} (h : old.length = 128) (h1 : at_ < (y + 1) * 128) (h2 : y * 128 < at_ + data.length) (ho : o < 128) :
    Bts.at (splice old y at_ data) o = if at_ ≤ y * 128 + o ∧ y * 128 + o < at_ + data.length then Bts.at data (y * 128 + o - at_) else Bts.at old o := by
  unfold splice
  rw [at_append, at_append, at_take, at_take, at_drop, at_drop]
  simp only [List.length_append, List.length_take, List.length_drop, h]
  have hm : min (max at_ (y * 128) - y * 128) 128 = max at_ (y * 128) - y * 128 := by omega
  have hm2 : min (min (at_ + data.length) ((y + 1) * 128) - max at_ (y * 128)) (data.length - (max at_ (y * 128) - at_)) = min (at_ + data.length) ((y + 1) * 128) - max at_ (y * 128) := by omega
  rw [hm, hm2]
  by_cases c1 : y * 128 + o < at_
  · rw [if_pos (by omega), if_pos (by omega), if_pos (by omega), if_neg (by omega)]
  · by_cases c2 : y * 128 + o < at_ + data.length
    · rw [if_pos (by omega), if_neg (by omega), if_pos (by omega), if_pos (by omega)]
      congr 1; omega
    · rw [if_neg (by omega), if_neg (by omega)]
      congr 1; omega


section
variable {c : Cf} {ns : Nds} {f : Dsk}
def Tch (at_ len y : Nat) : Prop := at_ < (y + 1) * 128 ∧ y * 128 < at_ + len
instance (a l y : Nat) : Decidable (Tch a l y) := inferInstanceAs (Decidable (_ ∧ _))
theorem tch_iff {at_ len y : Nat} (h : 0 < len) : (at_ / 128 ≤ y ∧ y < at_ / 128 + wrCount at_ len) ↔ Tch at_ len y := by
  unfold wrCount Tch; omega

/-- What writing leaves. -/
structure WroteL (c : Cf) (i : Nat) (ns : Nds) (f : Dsk) (at_ : Nat) (data : Bts) (n' : Ino) (f' : Dsk) : Prop where
  fi : FI c (updI ns i n') f'
  kd : n'.kd = (ns i).kd
  ln : n'.ln = (ns i).ln
  sz : n'.sz = max (ns i).sz (at_ + data.length)
  off : ∀ j, j < c.N → j ≠ i → ∀ y, y < 4166 → flc c f' (ns j) y = flc c f (ns j) y
  mine : ∀ y, y < 4166 → flc c f' n' y = if Tch at_ data.length y then some (splice ((flc c f (ns i) y).getD (zeros 128)) y at_ data) else flc c f (ns i) y
/-- There is no room for what is to be written. -/
def NoRoom (c : Cf) (i : Nat) (ns : Nds) (f : Dsk) (at_ len : Nat) : Prop :=
  c.B - c.dt < sumN c.N fun j => costS fun y => if j = i then decide (Tch at_ len y) || has c f (ns i) y else has c f (ns j) y

theorem flc_len (h : DI c ns f) {j : Nat} {y : Nat} {b : Bts} (hb : flc c f (ns j) y = some b) : b.length = 128 := by
  unfold flc at hb
  split at hb
  · cases hb
  · rename_i h0
    cases hb
    rw [look_ptr] at h0 ⊢
    exact h.len _ (ptr_rng h0).2
theorem getD_len (h : DI c ns f) {j y : Nat} : ((flc c f (ns j) y).getD (zeros 128)).length = 128 := by
  cases hb : flc c f (ns j) y with
  | none => simp [zeros]
  | some b => exact flc_len h hb

theorem write_law (k : c.OK) (h : FI c ns f) {i : Nat} (hi : i < c.N) (hk : (ns i).kd ≠ 0) {at_ : Nat} {data : Bts} (h0 : data ≠ []) (hl : data.length ≤ 1024) (hm : at_ + data.length ≤ 533248) :
    (∃ n' f', vWrite c f i at_ data = (0, f') ∧ WroteL c i ns f at_ data n' f') ∨ (vWrite c f i at_ data = (306, f) ∧ NoRoom c i ns f at_ data.length) := by
  have hkd := k.dt0
  have hdl : 0 < data.length := List.length_pos_iff.2 h0
  have hval : vWrite c f i at_ data = match vWr c at_ data (wrCount at_ data.length) (at_ / 128) (ns i) f with
      | none => (306, f)
      | some r => vSetN c r.2 i { r.1 with sz := max r.1.sz (at_ + data.length) } := by
    unfold vWrite
    rw [h.open hi hk, if_neg (by simp), if_neg (by omega), if_neg h0, if_neg (by omega), Int.toNat_natCast]
    rfl
  rw [hval]
  have hspec := wr_spec k hi at_ data (wrCount at_ data.length) (at_ / 128) ns f h.di hk (by unfold wrCount; omega) fun y h1 h2 => (tch_iff hdl).1 ⟨h1, h2⟩
  cases hw : vWr c at_ data (wrCount at_ data.length) (at_ / 128) (ns i) f with
  | none =>
    rw [hw] at hspec
    refine .inr ⟨rfl, ?_⟩
    obtain ⟨n', f', hmv, ⟨y, h1, h2, q, h3, h4⟩, h5⟩ := hspec
    have hall : cntB (f' c.bm) c.dt (c.B - c.dt) = c.B - c.dt := by
      rw [cntB_filter, List.filter_eq_self.2, List.length_range]
      intro j hj
      rw [List.mem_range] at hj
      exact h5 _ (by omega) (by omega)
    have hc := cnt_links k hmv.di
    rw [hall] at hc
    unfold NoRoom
    rw [hc]
    have hT : Tch at_ data.length y := (tch_iff hdl).1 ⟨h1, h2⟩
    have hy : y < 4166 := by unfold Tch at hT; omega
    have hpos : ∀ q : Pos, q.ok → ptr c f' n' q ≠ 0 → ∃ x, x < 4166 ∧ (decide (Tch at_ data.length x) || has c f (ns i) x) = true ∧ q ∈ upto x := by
      intro q hq hq0
      rcases hmv.pos q hq hq0 with h6 | ⟨x, h6, h7⟩
      · obtain ⟨x, g1, g2, g3⟩ := h.ne i hi q hq h6
        exact ⟨x, g1, by rw [has_iff.2 g2, Bool.or_true], g3⟩
      · have := (tch_iff hdl).1 h6
        exact ⟨x, by unfold Tch at this; omega, by simp [this], h7⟩
    refine sumN_lt (fun j hj => ?_) hi ?_
    · by_cases e : j = i
      · subst e
        rw [updI_at]
        simp only [if_true]
        exact lnk_le hpos
      · rw [updI_ne e]
        simp only [e, if_false]
        refine lnk_le fun q hq hq0 => ?_
        rw [hmv.offp j hj e q hq] at hq0
        obtain ⟨x, g1, g2, g3⟩ := h.ne j hj q hq hq0
        exact ⟨x, g1, has_iff.2 g2, g3⟩
    · rw [updI_at]
      simp only [if_true]
      exact lnk_lt hpos hy (by simp [hT]) h3 h4
  | some r =>
    rw [hw] at hspec
    obtain ⟨n1, f1⟩ := r
    obtain ⟨hmv, hmine⟩ := hspec
    simp only at hmv hmine
    refine .inl ?_
    have hk1 : n1.kd ≠ 0 := by rw [hmv.same.1]; exact hk
    have hsz0 := (h.di.ino i hi).sz
    have hzz : max n1.sz (at_ + data.length) ≤ 533248 := by rw [hmv.same.2.2]; omega
    have hdz := hmv.di.setZ hi hk1 hzz
    have hmy : ∀ y, y < 4166 → flc c f1 { n1 with sz := max n1.sz (at_ + data.length) } y = if Tch at_ data.length y then some (splice ((flc c f (ns i) y).getD (zeros 128)) y at_ data) else flc c f (ns i) y := by
      intro y hy
      rw [flc_sz, hmine y hy]
      by_cases e : Tch at_ data.length y
      · rw [if_pos e, if_pos ((tch_iff hdl).2 e)]
      · rw [if_neg e, if_neg fun e2 => e ((tch_iff hdl).1 e2)]
    have hoffc : ∀ j, j < c.N → ∀ y, y < 4166 → flc c f1 (updI ns i { n1 with sz := max n1.sz (at_ + data.length) } j) y = if j = i ∧ Tch at_ data.length y then some (splice ((flc c f (ns i) y).getD (zeros 128)) y at_ data) else flc c f (ns j) y := by
      intro j hj y hy
      by_cases e : j = i
      · subst e; rw [updI_at, hmy y hy]; simp
      · rw [updI_ne e, hmv.offc j hj e y hy, if_neg fun e2 => e e2.1]
    have hok : inoOk { n1 with sz := max n1.sz (at_ + data.length) } = true := inoOk_iff.2 (by have := hdz.ino i hi; rwa [updI_at] at this)
    have hs := seal_fi k hi hdz (fun j hj => ?_) (fun j hj x hx hs => ?_) (fun j hj x hx b hb o ho hs => ?_) (fun j hj hne => ?_)
    · refine ⟨{ n1 with sz := max n1.sz (at_ + data.length) }, _, ?_, hs.1, hmv.same.1, hmv.same.2.1, by rw [← hmv.same.2.2], fun j hj hne y hy => ?_, fun y hy => ?_⟩
      · unfold vSetN
        simp only
        rw [if_neg (by omega), if_pos hok, Int.toNat_natCast]
      · have := hs.2 j hj y hy
        rw [updI_ne hne] at this
        rw [this, hmv.offc j hj hne y hy]
      · have := hs.2 i hi y hy
        rw [updI_at] at this
        rw [this, hmy y hy]
    · -- blocks of names name some
      by_cases e : j = i
      · subst e
        rw [updI_at]
        refine Ne.of (f := f1) (n := n1) (fun q hq hq0 => ?_) fun q _ => ptr_sz q
        rcases hmv.pos q hq hq0 with h6 | ⟨x, h6, h7⟩
        · obtain ⟨x, g1, g2, g3⟩ := h.ne j hi q hq h6
          refine ⟨x, g1, ?_, g3⟩
          have h8 : flc c f1 n1 x ≠ none := by
            rw [hmine x g1]
            split
            · simp
            · exact fun e2 => g2 (flc_iff.1 e2)
          exact fun e2 => h8 (flc_none e2)
        · have hx : x < 4166 := by have := (tch_iff hdl).1 h6; unfold Tch at this; omega
          refine ⟨x, hx, ?_, h7⟩
          have h8 : flc c f1 n1 x ≠ none := by rw [hmine x hx, if_pos h6]; simp
          exact fun e2 => h8 (flc_none e2)
      · rw [updI_ne e]
        exact (h.ne j hj).of (hmv.offp j hj e)
    · rw [hoffc j hj x hx]
      by_cases e : j = i
      · subst e
        rw [updI_at] at hs
        simp only [hmv.same.2.2] at hs
        rw [if_neg (by unfold Tch; omega)]
        exact h.abs j hj x hx (by omega)
      · rw [if_neg (fun e2 => e e2.1)]
        rw [updI_ne e] at hs
        exact h.abs j hj x hx hs
    · rw [hoffc j hj x hx] at hb
      by_cases e : j = i
      · subst e
        rw [updI_at] at hs
        simp only [hmv.same.2.2] at hs
        have hold : Bts.at ((flc c f (ns j) x).getD (zeros 128)) o = 0 := by
          cases hf : flc c f (ns j) x with
          | none => exact at_zeros _ _
          | some b' => exact h.tail j hj x hx b' hf o ho (by omega)
        split at hb
        · rename_i hT
          cases hb
          rw [splice_at (getD_len h.di) hT.2.1 hT.2.2 ho, if_neg (by omega)]
          exact hold
        · exact h.tail j hj x hx b hb o ho (by omega)
      · rw [if_neg (fun e2 => e e2.1)] at hb
        rw [updI_ne e] at hs
        exact h.tail j hj x hx b hb o ho hs
    · have := k.tbl hj
      rw [hmv.low _ this (by unfold Cf.bm Cf.tb; omega)]
      exact h.tab j hj

/-- What cutting leaves, at rest. -/
structure CutL (c : Cf) (i : Nat) (ns : Nds) (f : Dsk) (size : Nat) (n' : Ino) (f' : Dsk) : Prop where
  fi : FI c (updI ns i n') f'
  kd : n'.kd = (ns i).kd
  ln : n'.ln = (ns i).ln
  sz : n'.sz = size
  off : ∀ j, j < c.N → j ≠ i → ∀ y, y < 4166 → flc c f' (ns j) y = flc c f (ns j) y
  mine : ∀ y, y < 4166 → flc c f' n' y = if size ≤ y * 128 then none else if size < (y + 1) * 128 then (flc c f (ns i) y).map (fun b => b.take (size % 128) ++ zeros (128 - size % 128)) else flc c f (ns i) y
theorem cut_law (k : c.OK) (h : FI c ns f) {i : Nat} (hi : i < c.N) (hk : (ns i).kd ≠ 0) {size : Nat} (hs : size ≤ 533248) :
    ∃ n' f', vCut c f i size = (0, f') ∧ CutL c i ns f size n' f' := by
  have hkd := k.dt0
  have hc := cut_spec k h.di hi hk hs
  have hval : vCut c f i size = vSetN c (vCutN c f (ns i) size).2 i (vCutN c f (ns i) size).1 := by
    unfold vCut
    rw [h.open hi hk, if_neg (by simp), if_neg (by omega), Int.toNat_natCast]
  rw [hval]
  generalize vCutN c f (ns i) size = r at hc
  obtain ⟨n1, f1⟩ := r
  simp only at hc ⊢
  have hok : inoOk n1 = true := inoOk_iff.2 (by have := hc.di.ino i hi; rwa [updI_at] at this)
  have hsl := seal_fi k hi hc.di (fun j hj => ?_) (fun j hj x hx hs2 => ?_) (fun j hj x hx b hb o ho hs2 => ?_) (fun j hj hne => ?_)
  · refine ⟨n1, _, ?_, hsl.1, hc.kd, hc.ln, hc.sz, fun j hj hne y hy => ?_, fun y hy => ?_⟩
    · unfold vSetN
      rw [if_neg (by omega), if_pos hok, Int.toNat_natCast]
    · have := hsl.2 j hj y hy
      rw [updI_ne hne] at this
      rw [this, hc.offc j hj hne y hy]
    · have := hsl.2 i hi y hy
      rw [updI_at] at this
      rw [this, hc.mine y hy]
  · by_cases e : j = i
    · subst e; rw [updI_at]; exact hc.ne
    · rw [updI_ne e]; exact (h.ne j hj).of (hc.offp j hj e)
  · by_cases e : j = i
    · subst e
      rw [updI_at] at hs2 ⊢
      rw [hc.sz] at hs2
      rw [hc.mine x hx, if_pos hs2]
    · rw [updI_ne e] at hs2 ⊢
      rw [hc.offc j hj e x hx]
      exact h.abs j hj x hx hs2
  · by_cases e : j = i
    · subst e
      rw [updI_at] at hs2 hb
      rw [hc.sz] at hs2
      rw [hc.mine x hx] at hb
      split at hb
      · cases hb
      · split at hb
        · cases hf : flc c f (ns j) x with
          | none => rw [hf] at hb; cases hb
          | some b' =>
            rw [hf] at hb
            cases hb
            have hbl := flc_len h.di hf
            rw [at_append]
            simp only [List.length_take, hbl]
            rw [if_neg (by omega)]
            exact at_zeros _ _
        · omega
    · rw [updI_ne e] at hs2 hb
      rw [hc.offc j hj e x hx] at hb
      exact h.tail j hj x hx b hb o ho hs2
  · have := k.tbl hj
    rw [hc.low _ this (by unfold Cf.bm Cf.tb; omega)]
    exact h.tab j hj

/-! ### bytes -/
end
end Go.Proofs.Ytgcoipcnhmkeaaa.Ax
end

/-! Files as blocks: a blank device; whatever is done, all that holds of blocks at rest goes on to hold; what indices cost -/
section
set_option linter.unusedVariables false
set_option linter.unusedSimpArgs false
namespace Go.Proofs.Ytgcoipcnhmkeaaa.Ax

theorem zero_ok : InoOK Ino.zero := ⟨⟨0, 0, 0, 0, 0, 0, rfl, by decide, by decide, by decide, by decide, by decide, by decide⟩, by decide, by decide, by decide, .inl ⟨rfl, rfl⟩⟩
theorem ptr_zeroN {c : Cf} {f : Dsk} (q : Pos) : ptr c f Ino.zero q = 0 := by
  have h : ∀ a, ([0, 0, 0, 0, 0, 0] : List Nat).getD a 0 = 0 := fun a => by
    match a with
    | 0 => rfl
    | 1 => rfl
    | 2 => rfl
    | 3 => rfl
    | 4 => rfl
    | 5 => rfl
    | a + 6 => rfl
  cases q <;> simp only [ptr, Ino.zero, h, dat_zero, named_zero]
/-- An inode without blocks. -/
def bare (kd ln : Nat) : Ino := ⟨kd, ln, 0, [0, 0, 0, 0, 0, 0], 0, 0⟩
theorem bare_ok {kd ln : Nat} (h : kd = 1 ∧ 1 ≤ ln ∧ ln ≤ 100 ∨ kd = 2 ∧ ln = 1) : InoOK (bare kd ln) :=
  ⟨⟨0, 0, 0, 0, 0, 0, rfl, by decide, by decide, by decide, by decide, by decide, by decide⟩, by simp [bare], by simp [bare], by simp [bare], .inr h⟩
theorem flc_zeroN {c : Cf} {f : Dsk} {y : Nat} : flc c f Ino.zero y = none := flc_none (ptr_zeroN _)

theorem dec_zero : decI (zeros 32) = some Ino.zero := by decide +kernel
theorem blank_fi {c : Cf} (k : c.OK) : FI c (fun _ => Ino.zero) (fun _ => zeros 128) := by
  refine ⟨⟨fun x _ => by simp [zeros], fun i _ => zero_ok, ⟨fun i j p q _ _ _ _ h _ => absurd (ptr_zeroN p) h, fun x hx => ?_⟩, fun i _ => ⟨fun a ha => ?_, dat_zero, dat_zero, fun q _ _ h => absurd (ptr_zeroN q) h⟩, fun x _ => bit_zeros _ _⟩,
    fun i _ q _ h => absurd (ptr_zeroN q) h, fun i _ x _ _ => flc_zeroN, fun i _ x _ b hb => (by rw [flc_zeroN] at hb; cases hb), fun i hi => ?_⟩
  · rw [bit_zeros]
    refine ⟨fun e => (by cases e), fun ⟨i, p, _, _, e, h0⟩ => ?_⟩
    have e : ptr c (fun _ => zeros 128) Ino.zero p = x := e
    rw [ptr_zeroN] at e
    exact absurd e.symm h0
  · have : (Ino.zero.dr).getD a 0 = 0 := by
      match a, ha with
      | 0, _ => rfl
      | 1, _ => rfl
      | 2, _ => rfl
      | 3, _ => rfl
      | 4, _ => rfl
      | 5, _ => rfl
    rw [this]; exact dat_zero
  · unfold getI
    have : ((zeros 128).drop (32 * (i % 4))).take 32 = zeros 32 := by
      simp only [zeros, List.drop_replicate, List.take_replicate]
      congr 1; omega
    rw [this, dec_zero]

section
variable {c : Cf} {ns : Nds} {f : Dsk}
/-- An inode without blocks gets other numbers. -/
theorem set_bare (k : c.OK) (h : FI c ns f) {i : Nat} (hi : i < c.N) (hz : ns i = Ino.zero) {kd ln : Nat} (hb : kd = 1 ∧ 1 ≤ ln ∧ ln ≤ 100 ∨ kd = 2 ∧ ln = 1) :
    ∃ f', vSetN c f i (bare kd ln) = (0, f') ∧ FI c (updI ns i (bare kd ln)) f' ∧ ∀ j, j < c.N → j ≠ i → ∀ y, y < 4166 → flc c f' (ns j) y = flc c f (ns j) y := by
  obtain ⟨h1, h2, h3⟩ := set_fi k h hi (bare_ok hb) (by rw [hz]; rfl) (by rw [hz]; rfl) (by rw [hz]; rfl) (by rw [hz]; rfl)
  refine ⟨_, h1, h2, fun j hj hne y hy => ?_⟩
  have := h3 j hj y hy
  rwa [updI_ne hne] at this

theorem vOpen_out {i : Int} (h : i < 0 ∨ (c.N : Int) ≤ i) : (vOpen c f i).1 ≠ 0 := by
  unfold vOpen vIno
  simp [h]
theorem vOpen_free (h : FI c ns f) {i : Nat} (hi : i < c.N) (hk : (ns i).kd = 0) : (vOpen c f i).1 = 7 := by
  unfold vOpen
  rw [h.ino hi]
  simp [hk]
/-- Whatever is written, wherever. -/
theorem write_any (k : c.OK) (h : FI c ns f) (i at_ : Int) (data : Bts) : ∃ ns', FI c ns' (vWrite c f i at_ data).2 ∧ ∀ j, j < c.N → (ns' j).kd = (ns j).kd ∧ ((ns j).kd = 0 → ns' j = ns j) := by
  have stay : (vWrite c f i at_ data).2 = f → ∃ ns', FI c ns' (vWrite c f i at_ data).2 ∧ ∀ j, j < c.N → (ns' j).kd = (ns j).kd ∧ ((ns j).kd = 0 → ns' j = ns j) := fun e => ⟨ns, by rw [e]; exact h, fun _ _ => ⟨rfl, fun _ => rfl⟩⟩
  by_cases ho : (vOpen c f i).1 ≠ 0
  · exact stay (by unfold vWrite; rw [if_pos ho])
  by_cases h1 : at_ < 0 ∨ 1024 < data.length
  · exact stay (by unfold vWrite; rw [if_neg ho, if_pos h1])
  by_cases h2 : data = []
  · exact stay (by unfold vWrite; rw [if_neg ho, if_neg h1, if_pos h2])
  by_cases h3 : 533248 < at_ + data.length
  · exact stay (by unfold vWrite; rw [if_neg ho, if_neg h1, if_neg h2, if_pos h3])
  have hi : ¬ (i < 0 ∨ (c.N : Int) ≤ i) := fun e => ho (vOpen_out e)
  obtain ⟨i', rfl⟩ : ∃ i' : Nat, i = i' := ⟨i.toNat, by omega⟩
  obtain ⟨a, rfl⟩ : ∃ a : Nat, at_ = a := ⟨at_.toNat, by omega⟩
  have hi' : i' < c.N := by omega
  have hk : (ns i').kd ≠ 0 := fun e => ho (by rw [vOpen_free h hi' e]; decide)
  rcases write_law k h hi' hk (at_ := a) h2 (by omega) (by omega) with ⟨n', f', e, w⟩ | ⟨e, _⟩
  · refine ⟨updI ns i' n', by rw [e]; exact w.fi, fun j hj => ?_⟩
    by_cases hj' : j = i'
    · subst hj'
      rw [updI_at, w.kd]
      exact ⟨rfl, fun e => absurd e hk⟩
    · rw [updI_ne hj']
      exact ⟨rfl, fun _ => rfl⟩
  · exact stay (by rw [e])
/-- Whatever is cut. -/
theorem cut_any (k : c.OK) (h : FI c ns f) (i size : Int) : ∃ ns', FI c ns' (vCut c f i size).2 ∧ ∀ j, j < c.N → (ns' j).kd = (ns j).kd ∧ ((ns j).kd = 0 → ns' j = ns j) := by
  have stay : (vCut c f i size).2 = f → ∃ ns', FI c ns' (vCut c f i size).2 ∧ ∀ j, j < c.N → (ns' j).kd = (ns j).kd ∧ ((ns j).kd = 0 → ns' j = ns j) := fun e => ⟨ns, by rw [e]; exact h, fun _ _ => ⟨rfl, fun _ => rfl⟩⟩
  by_cases ho : (vOpen c f i).1 ≠ 0
  · exact stay (by unfold vCut; rw [if_pos ho])
  by_cases h1 : size < 0 ∨ 533248 < size
  · exact stay (by unfold vCut; rw [if_neg ho, if_pos h1])
  have hi : ¬ (i < 0 ∨ (c.N : Int) ≤ i) := fun e => ho (vOpen_out e)
  obtain ⟨i', rfl⟩ : ∃ i' : Nat, i = i' := ⟨i.toNat, by omega⟩
  obtain ⟨a, rfl⟩ : ∃ a : Nat, size = a := ⟨size.toNat, by omega⟩
  have hi' : i' < c.N := by omega
  have hk : (ns i').kd ≠ 0 := fun e => ho (by rw [vOpen_free h hi' e]; decide)
  obtain ⟨n', f', e, w⟩ := cut_law k h hi' hk (size := a) (by omega)
  refine ⟨updI ns i' n', by rw [e]; exact w.fi, fun j hj => ?_⟩
  by_cases hj' : j = i'
  · subst hj'
    rw [updI_at, w.kd]
    exact ⟨rfl, fun e => absurd e hk⟩
  · rw [updI_ne hj']
    exact ⟨rfl, fun _ => rfl⟩

/-- The blocks that an inode's indices have. -/
theorem at_law (h : FI c ns f) {i x : Nat} (hi : i < c.N) (hx : x < 4166) : vAt c f i x = (0, ptr c f (ns i) (leaf x)) := by
  unfold vAt
  rw [h.ino hi, if_neg (by simp), if_neg (by omega), Int.toNat_natCast, look_ptr]

/-- How many indices of a set there are, at most what they cost. -/
theorem count_cost (S : Nat → Bool) : ((List.range 4166).filter S).length ≤ costS S := by
  unfold costS
  have : (((List.range 4166).filter S).map leaf).length = ((List.range 4166).filter S).length := List.length_map ..
  rw [← this]
  refine List.Nodup.length_le_of_subset (nodup_map' (List.Nodup.sublist List.filter_sublist List.nodup_range) fun x _ y _ e => leaf_inj e) fun q hq => ?_
  obtain ⟨x, hx, rfl⟩ := List.mem_map.1 hq
  rw [List.mem_filter, List.mem_range] at hx
  rw [List.mem_filter, mem_allPos, upB_iff]
  exact ⟨leaf_ok hx.1, x, hx.1, hx.2, leaf_upto x⟩
end

/-! ### what a list of indices costs -/
set_option maxRecDepth 4000


end Go.Proofs.Ytgcoipcnhmkeaaa.Ax
end

/-! Files as blocks: what tells an error changes nothing, whatever the blocks are -/
section
set_option linter.unusedVariables false
set_option linter.unusedSimpArgs false
namespace Go.Proofs.Ytgcoipcnhmkeaaa.Ax

section
variable {c : Cf}
theorem dat_lt (k : c.OK) (n : Nat) : vDat c n < 1024 := by
  have := k.dt0
  by_cases h : vDat c n = 0
  · omega
  · have := (dat_rng h).2; omega
theorem make_lt (k : c.OK) (f : Dsk) : (vMake c f).1 < 1024 := by
  have := k.dt0
  by_cases h : (vMake c f).1 = 0
  · omega
  · obtain ⟨x, h1, h2, _, e⟩ := vMake_some h
    rw [e]; simp only; omega
theorem ens_lt (k : c.OK) (f : Dsk) (p : Nat) : (vEns c f p).1 < 1024 := by
  unfold vEns
  split
  · exact make_lt k f
  · exact dat_lt k p
theorem grow_ok (k : c.OK) (f : Dsk) {n : Ino} (h : InoOK n) (hk : n.kd ≠ 0) (x : Nat) : InoOK (vGrow c f n x).2.1 ∧ (vGrow c f n x).2.1.kd = n.kd ∧ (vGrow c f n x).2.1.sz = n.sz := by
  unfold vGrow
  split
  · exact ⟨h.setD hk (ens_lt k _ _), rfl, rfl⟩
  · split
    · split
      · exact ⟨h.setS hk (by decide), rfl, rfl⟩
      · exact ⟨h.setS hk (ens_lt k _ _), rfl, rfl⟩
    · split
      · exact ⟨h.setB hk (by decide), rfl, rfl⟩
      · simp only
        split
        · exact ⟨h.setB hk (ens_lt k _ _), rfl, rfl⟩
        · exact ⟨h.setB hk (ens_lt k _ _), rfl, rfl⟩
theorem ino_ok' {f : Dsk} {i : Int} (h : (vIno c f i).1 = 0) : InoOK (vIno c f i).2 ∧ 0 ≤ i ∧ i < c.N := by
  unfold vIno at h ⊢
  split at h
  · cases h
  · rename_i hc
    rw [if_neg hc]
    split at h
    · cases h
    · rename_i n hn
      unfold getI at hn
      exact ⟨(dec_some hn).1, by omega, by omega⟩
theorem open_ok {f : Dsk} {i : Int} (h : (vOpen c f i).1 = 0) : InoOK (vOpen c f i).2 ∧ (vOpen c f i).2.kd ≠ 0 ∧ 0 ≤ i ∧ i < c.N ∧ vOpen c f i = vIno c f i := by
  unfold vOpen at h ⊢
  split at h
  · cases h
  · rename_i hc
    rw [if_neg hc]
    obtain ⟨h1, h2, h3⟩ := ino_ok' h
    exact ⟨h1, fun e => hc ⟨h, e⟩, h2, h3, rfl⟩
end
end Go.Proofs.Ytgcoipcnhmkeaaa.Ax
end
