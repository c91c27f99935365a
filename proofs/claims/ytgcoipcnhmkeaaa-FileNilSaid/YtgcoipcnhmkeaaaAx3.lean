/- AX, part 3: the operations that change no memory, run by the machine. -/
import Derived.Test.YtgcoipcnhmkeaaaAx2
import Derived.Laws.StructEq
set_option linter.unusedVariables false
set_option linter.unusedSimpArgs false
namespace Go.Proofs.Ytgcoipcnhmkeaaa.Ax
open Go.RowKit

def scal : AV → Value
  | .bool b => .bool b
  | .int k n => .int k n
  | .str l => .string ⟨l.toArray⟩
  | _ => undef

section
variable {C : Cx} {ρ : Rho}

theorem str_rel {l : List UInt8} {V : Value} (h : VRel ρ (.str l) V) : V = .string ⟨l.toArray⟩ := by simpa [VRel] using h
theorem int_rel {k : IntKind} {n : Int} {V : Value} (h : VRel ρ (.int k n) V) : V = .int k n := by simpa [VRel] using h
theorem bool_rel {b : Bool} {V : Value} (h : VRel ρ (.bool b) V) : V = .bool b := by simpa [VRel] using h

theorem ba_size (l : List UInt8) : (ByteArray.mk l.toArray).size = l.length := by simp [ByteArray.size]

theorem run_aInt {op : BinOp} {t : TypeId} {k : IntKind} {x y : Int} {v : AV} (h : aInt op k x y = some v) (P : Program) (w : World) :
    ∃ V, (binOp op t (.int k x) (.int k y)).run P w = .ok V w ∧ VRel ρ v V := by
  refine ⟨scal v, ?_⟩
  cases op <;> simp only [aInt] at h <;> first
    | (simp at h; done)
    | (split at h
       · simp at h
       · rename_i hy
         cases h
         exact ⟨by simp [binOp, Op.intDiv, hy, scal], by simp [VRel, scal]⟩)
    | (cases h; exact ⟨by simp [binOp, Op.intArith, Op.intBits, Op.intCmp, scal], by simp [VRel, scal]⟩)

theorem run_aShift {op : BinOp} {t : TypeId} {k yk : IntKind} {x y : Int} {v : AV} (h : aShift op k x y = some v) (P : Program) (w : World) :
    ∃ V, (binOp op t (.int k x) (.int yk y)).run P w = .ok V w ∧ VRel ρ v V := by
  refine ⟨scal v, ?_⟩
  unfold aShift at h
  split at h
  · simp at h
  · rename_i hy
    cases op <;> simp at h
    · subst h; exact ⟨by simp [binOp, Op.shift, hy, scal], by simp [VRel, scal]⟩
    · subst h; exact ⟨by simp [binOp, Op.shift, hy, scal], by simp [VRel, scal]⟩

theorem run_aStr {op : BinOp} {t : TypeId} {x y : List UInt8} {v : AV} (h : aStr op x y = some v) (P : Program) (w : World) :
    ∃ V, (binOp op t (.string ⟨x.toArray⟩) (.string ⟨y.toArray⟩)).run P w = .ok V w ∧ VRel ρ v V := by
  refine ⟨scal v, ?_⟩
  cases op <;> simp only [aStr] at h <;> first
    | (simp at h; done)
    | (cases h; exact ⟨by simp [binOp, Op.stringOp, scal], by simp [VRel, scal]⟩)
    | (split at h
       · simp at h
       · rename_i hlen
         cases h
         refine ⟨?_, by simp [VRel, scal]⟩
         simp only [binOp, Op.stringOp, ba_size]
         rw [if_neg hlen]
         simp [scal, ByteArray.ext_iff])

theorem ARel.fun {ρ : Rho} {a : AA} {A B : Addr} (h1 : ARel ρ a A) (h2 : ARel ρ a B) : A = B := by
  cases a with
  | base b o => exact Eq.trans h1 (Eq.symm h2)
  | new k o => obtain ⟨r, hr, rfl⟩ := h1; obtain ⟨r', hr', rfl⟩ := h2; rw [hr] at hr'; cases hr'; rfl

theorem run_eq1 {t : TypeId} {x y : AV} {X Y : Value} {k : AKind} {b : Bool} (ok : C.OK) (hk : C.kind t = k) (h1 : kindEq1 k x = true) (h : aEq1 x y = some b)
    (hx : VRel ρ x X) (hy : VRel ρ y Y) (d : Nat) (w : World) : (Op.equalIn (d + 1) t X Y).run C.P w = .ok b w := by
  have hko : k ≠ .other := by intro e; subst e; simp [kindEq1] at h1
  obtain ⟨D, hD, hr⟩ := kind_und ok hk hko
  have hu := run_und hD w
  unfold aEq1 at h
  split at h <;> (try simp at h) <;> (cases k <;> simp [kindEq1] at h1) <;> simp only [KindRel] at hr <;> (try obtain ⟨_, _, _, rfl⟩ := hr) <;> (try subst hr) <;> subst h
  · rw [bool_rel hx, bool_rel hy]; simp [Op.equalIn, hu]
  · rename_i b' _
    simp only [VRel] at hx; subst hx
    cases b' with
    | none => simp only [VRel] at hy; subst hy; simp [Op.equalIn, hu]
    | some a => simp only [VRel] at hy; obtain ⟨A, _, rfl⟩ := hy; simp [Op.equalIn, hu]
  · simp only [VRel] at hx hy; obtain ⟨A, _, rfl⟩ := hx; subst hy; simp [Op.equalIn, hu]
  · rename_i b' _ _ _ _
    simp only [VRel] at hx; obtain ⟨_, _, _, rfl⟩ := hx
    cases b' with
    | none => simp only [VRel] at hy; obtain ⟨_, _, _, rfl⟩ := hy; simp [Op.equalIn, hu]
    | some a => cases a with
      | base b o => simp only [VRel] at hy; obtain ⟨_, rfl⟩ := hy; simp [Op.equalIn, hu]
      | new k o => simp only [VRel] at hy; obtain ⟨_, A, _, _, rfl, _⟩ := hy; simp [Op.equalIn, hu]
  · rename_i a _ _ _ _ _ _ _
    simp only [VRel] at hy; obtain ⟨_, _, _, rfl⟩ := hy
    cases a with
    | base b o => simp only [VRel] at hx; obtain ⟨_, rfl⟩ := hx; simp [Op.equalIn, hu]
    | new k o => simp only [VRel] at hx; obtain ⟨_, A, _, _, rfl, _⟩ := hx; simp [Op.equalIn, hu]
  · rename_i b' _ _
    simp only [VRel] at hx; subst hx
    cases b' with
    | none => simp only [VRel] at hy; subst hy; simp [Op.equalIn, hu]
    | some a => simp only [VRel] at hy; obtain ⟨r, _, rfl⟩ := hy; simp [Op.equalIn, hu]
  · simp only [VRel] at hx hy; obtain ⟨r, _, rfl⟩ := hx; subst hy; simp [Op.equalIn, hu]
  · simp only [VRel] at hx hy; subst hx; subst hy; simp [Op.equalIn, hu]
  · simp only [VRel] at hx hy; subst hx; obtain ⟨_, _, rfl, _⟩ := hy; simp [Op.equalIn, hu]
  · simp only [VRel] at hx hy; subst hy; obtain ⟨_, _, rfl, _⟩ := hx; simp [Op.equalIn, hu]

def eqAll (d : Nat) (xs ys : Array Value) : List (Nat × TypeId) → Sem Bool
  | [] => pure true
  | (o, t) :: fs => do
      let a ← part t xs o
      let b ← part t ys o
      let r ← Op.equalIn d t a b
      if (!r) = true then pure false else eqAll d xs ys fs

theorem eqFields_eqAll (d : Nat) (xs ys : Array Value) : ∀ (fs : List Field), (∀ f ∈ fs, f.name ≠ "_") → Op.eqFields d xs ys fs = eqAll d xs ys (fs.map fun f => (f.offset, f.type))
  | [], _ => rfl
  | f :: fs, h => by
    simp only [Op.eqFields, List.map_cons, eqAll]
    rw [if_pos (h f (by simp)), eqFields_eqAll d xs ys fs (fun g hg => h g (by simp [hg]))]

theorem run_equalIn_array {P : Program} (w : World) (d : Nat) (t el : TypeId) (len sz : Nat) (xs ys : Array Value) (ht : P.underlying t = some (.array len el)) (hs : ∀ w, (sizeOf el).run P w = .ok sz w) :
    (Op.equalIn (d + 1) t (.agg xs) (.agg ys)).run P w = (eqAll d xs ys ((List.range len).map fun i => (i * sz, el))).run P w := by
  simp only [Op.equalIn, Sem.run_bind, Go.run_underlying ht, Result.andThen_ok, hs]
  rw [Std.Legacy.Range.forIn_eq_forIn_range']
  simp only [Std.Legacy.Range.size, Nat.sub_zero, Nat.add_sub_cancel, Nat.div_one, ← List.range_eq_range']
  generalize List.range len = fs
  induction fs generalizing w with
  | nil => simp [eqAll]
  | cons f fs ih =>
    simp only [List.forIn_cons, List.map_cons, eqAll, Sem.run_bind]
    generalize (part el xs (f * sz)).run P w = r1
    cases r1 with
    | ok a w1 =>
      simp only [Result.andThen_ok]
      generalize (part el ys (f * sz)).run P w1 = r2
      cases r2 with
      | ok b w2 =>
        simp only [Result.andThen_ok]
        generalize (Op.equalIn d el a b).run P w2 = r3
        cases r3 with
        | ok r w3 =>
          cases r
          · simp only [Result.andThen_ok, Bool.not_false, if_true, Sem.run_pure]
          · simp only [Result.andThen_ok, Bool.not_true, Bool.false_eq_true, if_false, Sem.run_pure]
            exact ih w3
        | halt x w3 => simp [Result.andThen]
      | halt x w2 => simp [Result.andThen]
    | halt x w1 => simp [Result.andThen]

mutual
theorem run_eqIn (ok : C.OK) : (n d : Nat) → n ≤ d → (t : TypeId) → (x y : AV) → (b : Bool) → aEqIn C n t x y = some b → (X Y : Value) → VRel ρ x X → VRel ρ y Y → (w : World) →
    (Op.equalIn d t X Y).run C.P w = .ok b w
  | 0, _, _, _, _, _, _, h, _, _, _, _, _ => by simp [aEqIn] at h
  | n + 1, d, hd, t, x, y, b, h, X, Y, hx, hy, w => by
    obtain ⟨d, rfl⟩ : ∃ d', d = d' + 1 := ⟨d - 1, by omega⟩
    unfold aEqIn at h
    split at h
    · rename_i k0 k a k' b' hk
      split at h
      · rename_i e
        subst e
        simp at h; subst h
        obtain ⟨D, hD, hr⟩ := kind_und ok hk (by simp)
        simp only [KindRel] at hr; subst hr
        rw [int_rel hx, int_rel hy]
        exact run_equalIn_int w d t k _ a b' hD
      · simp at h
    · rename_i a b' hk
      simp at h; subst h
      obtain ⟨D, hD, hr⟩ := kind_und ok hk (by simp)
      simp only [KindRel] at hr; subst hr
      rw [str_rel hx, str_rel hy, run_equalIn_string w d t _ _ hD]
      simp
    · rename_i a b' hk
      simp at h; subst h
      obtain ⟨D, hD, hr⟩ := kind_und ok hk (by simp)
      simp only [KindRel] at hr; subst hr
      rw [bool_rel hx, bool_rel hy]
      exact run_equalIn_bool w d t a b' hD
    · rename_i fs xs ys hk
      obtain ⟨D, hD, hr⟩ := kind_und ok hk (by simp)
      simp only [KindRel] at hr
      obtain ⟨F, rfl, hF, hp⟩ := hr
      obtain ⟨hn, hst, _⟩ := hp trivial
      simp only [VRel] at hx hy
      obtain ⟨vs, rfl, hvs⟩ := hx
      obtain ⟨us, rfl, hus⟩ := hy
      have hfo : C.P.fieldsOf t = F := by simp [Program.fieldsOf, hD]
      rw [run_equalIn_struct w d t vs us (by rw [hfo]; exact hD) hst, hfo, eqFields_eqAll d vs us _ hn, hF]
      exact run_eqFs ok n d (by omega) fs xs ys b h vs us hvs hus w
    · rename_i len el xs ys hk
      split at h
      · rename_i sz hsz
        obtain ⟨D, hD, hr⟩ := kind_und ok hk (by simp)
        simp only [KindRel] at hr; subst hr
        simp only [VRel] at hx hy
        obtain ⟨vs, rfl, hvs⟩ := hx
        obtain ⟨us, rfl, hus⟩ := hy
        rw [run_equalIn_array w d t el len sz vs us hD (fun w => run_sizeOf' ok hsz w)]
        exact run_eqFs ok n d (by omega) _ xs ys b h vs us hvs hus w
      · simp at h
    · simp at h
theorem run_eqFs (ok : C.OK) : (n d : Nat) → n ≤ d → (fs : List (Nat × TypeId)) → (xs ys : List AV) → (b : Bool) → aEqFs C n fs xs ys = some b → (vs us : Array Value) → VsRel ρ xs vs.toList → VsRel ρ ys us.toList →
    (w : World) → (eqAll d vs us fs).run C.P w = .ok b w
  | n, d, _, [], xs, ys, b, h, vs, us, _, _, w => by simp [aEqFs, aEqG] at h; subst h; simp [eqAll]
  | n, d, hd, (o, t) :: fs, xs, ys, b, h, vs, us, hv, hu, w => by
    simp only [aEqFs, aEqG] at h
    split at h
    · rename_i x y hx hy
      obtain ⟨X, hX, hXr⟩ := run_part ok hx hv w
      obtain ⟨Y, hY, hYr⟩ := run_part ok hy hu w
      simp only [eqAll, Sem.run_bind, hX, hY, Result.andThen_ok]
      split at h
      · rename_i hr
        rw [run_eqIn ok n d hd t x y true hr X Y hXr hYr w]
        simpa using run_eqFs ok n d hd fs xs ys b h vs us hv hu w
      · rename_i hr
        simp at h; subst h
        rw [run_eqIn ok n d hd t x y false hr X Y hXr hYr w]
        simp
      · simp at h
    · simp at h
end

end

end Go.Proofs.Ytgcoipcnhmkeaaa.Ax
