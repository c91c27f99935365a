/- AX, part 8: keys of maps, look-ups, assertions. -/
import Derived.Test.YtgcoipcnhmkeaaaAx7
set_option linter.unusedVariables false
set_option linter.unusedSimpArgs false
namespace Go.Proofs.Ytgcoipcnhmkeaaa.Ax
open Go.RowKit

section
variable {C : Cx} {ρ : Rho} {h : AH} {W : World}

def aFind (C : Cx) (kt : TypeId) (key : AV) : List AEnt → Nat → Option (Option (Nat × AV))
  | [], _ => some none
  | e :: es, i => match aEqIn C 100 kt key e.key with
    | some true => some (some (i, e.val))
    | some false => aFind C kt key es (i + 1)
    | none => none

def FRel (ρ : Rho) : Option (Nat × AV) → Option (Nat × Value) → Prop
  | none, none => True
  | some (i, v), some (j, V) => i = j ∧ VRel ρ v V
  | _, _ => False

theorem findAsking_rel (ok : C.OK) {kt : TypeId} {key : AV} {K : Value} (hk : VRel ρ key K) (w : World) : ∀ (es : List AEnt) (es' : List MapEntry) (i : Nat) (r : Option (Nat × AV)), EntsRel ρ es es' →
    aFind C kt key es i = some r → ∃ r', (Instr.findAsking kt K es' i).run C.P w = .ok r' w ∧ FRel ρ r r'
  | [], es', i, r, he, hf => by
    simp only [EntsRel] at he; subst he
    simp [aFind] at hf; subst hf
    exact ⟨none, by simp [Instr.findAsking], trivial⟩
  | e :: es, es', i, r, he, hf => by
    simp only [EntsRel] at he
    obtain ⟨e', es'', rfl, ⟨h1, h2, _⟩, h3⟩ := he
    simp only [aFind] at hf
    split at hf
    · rename_i hq
      simp at hf; subst hf
      have := run_eqIn ok 100 10000 (by omega) kt _ _ true hq K e'.key hk h1 w
      exact ⟨some (i, e'.val), by simp only [Instr.findAsking, Sem.run_bind, Op.equal, Op.maxDepth, this, Result.andThen_ok, if_true, Sem.run_pure], ⟨rfl, h2⟩⟩
    · rename_i hq
      have := run_eqIn ok 100 10000 (by omega) kt _ _ false hq K e'.key hk h1 w
      obtain ⟨r', hr, hrel⟩ := findAsking_rel ok hk w es es'' (i + 1) r h3 hf
      exact ⟨r', by simp only [Instr.findAsking, Sem.run_bind, Op.equal, Op.maxDepth, this, Result.andThen_ok, Bool.false_eq_true, if_false]; exact hr, hrel⟩
    · simp at hf

/-- A key's kind that is compared at once. -/
def nowKind : AKind → Bool
  | .int _ | .str | .bool => true
  | _ => false

theorem findNow_rel (ok : C.OK) {kt : TypeId} {key : AV} {K : Value} {D : TypeDesc} (hD : C.P.underlying kt = some D) (hn : nowKind (C.kind kt) = true) (hk : VRel ρ key K) :
    ∀ (es : List AEnt) (es' : List MapEntry) (i : Nat) (r : Option (Nat × AV)), EntsRel ρ es es' → aFind C kt key es i = some r → ∃ r', Instr.findNow D K es' i = some r' ∧ FRel ρ r r'
  | [], es', i, r, he, hf => by
    simp only [EntsRel] at he; subst he
    simp [aFind] at hf; subst hf
    exact ⟨none, by simp [Instr.findNow], trivial⟩
  | e :: es, es', i, r, he, hf => by
    simp only [EntsRel] at he
    obtain ⟨e', es'', rfl, ⟨h1, h2, _⟩, h3⟩ := he
    have same0 : ∀ ek b, VRel ρ ek e'.key → aEqIn C 100 kt key ek = some b → Instr.sameNow D K e'.key = some b := by
      intro ek b h1 hb
      obtain ⟨D', hD', hr⟩ := kind_und ok rfl (by intro e; rw [e] at hn; simp [nowKind] at hn : C.kind kt ≠ .other)
      rw [hD] at hD'; cases hD'
      unfold aEqIn at hb
      split at hb
      · rename_i k0 k a k' b' hkk
        split at hb
        · rename_i e0
          subst e0
          simp at hb; subst hb
          rw [hkk] at hr; simp only [KindRel] at hr; subst hr
          rw [int_rel hk, int_rel h1]
          simp [Instr.sameNow]
        · simp at hb
      · rename_i a b' hkk
        simp at hb; subst hb
        rw [hkk] at hr; simp only [KindRel] at hr; subst hr
        rw [str_rel hk, str_rel h1]
        simp only [Instr.sameNow, beq_toListBytes, ByteArray.toList_mk]
      · rename_i a b' hkk
        simp at hb; subst hb
        rw [hkk] at hr; simp only [KindRel] at hr; subst hr
        rw [bool_rel hk, bool_rel h1]
        simp [Instr.sameNow]
      · rename_i hkk; rw [hkk] at hn; simp [nowKind] at hn
      · rename_i hkk; rw [hkk] at hn; simp [nowKind] at hn
      · simp at hb
    have same := fun b => same0 e.key b h1
    simp only [aFind] at hf
    split at hf
    · rename_i hq
      simp at hf; subst hf
      exact ⟨some (i, e'.val), by simp [Instr.findNow, same _ hq], ⟨rfl, h2⟩⟩
    · rename_i hq
      obtain ⟨r', hr, hrel⟩ := findNow_rel ok hD hn hk es es'' (i + 1) r h3 hf
      exact ⟨r', by simp [Instr.findNow, same _ hq, hr], hrel⟩
    · simp at hf

/-- A key's kind that is asked. -/
def askKind : AKind → Bool
  | .struct _ true | .array _ _ => true
  | _ => false

theorem findKey_rel (ok : C.OK) {kt : TypeId} {key : AV} {K : Value} (hn : nowKind (C.kind kt) || askKind (C.kind kt)) (hk : VRel ρ key K) (hagg : askKind (C.kind kt) = true → ∃ cs, key = .agg cs) (w : World)
    {es : List AEnt} {es' : List MapEntry} {r : Option (Nat × AV)} (he : EntsRel ρ es es') (hf : aFind C kt key es 0 = some r) :
    ∃ r', (Instr.findKey kt K es').run C.P w = .ok r' w ∧ FRel ρ r r' := by
  obtain ⟨D, hD, hr⟩ := kind_und ok rfl (by intro e; rw [e] at hn; simp [nowKind, askKind] at hn : C.kind kt ≠ .other)
  cases hnow : nowKind (C.kind kt) with
  | true =>
    obtain ⟨r', h1, h2⟩ := findNow_rel ok hD hnow hk es es' 0 r he hf
    exact ⟨r', by simp only [Instr.findKey, Sem.run_bind, run_und hD, Result.andThen_ok, h1, Sem.run_pure], h2⟩
  | false =>
    rw [hnow] at hn
    simp at hn
    obtain ⟨cs, rfl⟩ := hagg hn
    simp only [VRel] at hk
    obtain ⟨vs, rfl, hvs⟩ := hk
    obtain ⟨r', h1, h2⟩ := findAsking_rel ok (K := .agg vs) (by simp only [VRel]; exact ⟨vs, rfl, hvs⟩) w es es' 0 r he hf
    refine ⟨r', ?_, h2⟩
    cases es' with
    | nil =>
      simp only [Instr.findKey, Sem.run_bind, run_und hD, Result.andThen_ok, Instr.findNow, Sem.run_pure]
      simpa [Instr.findAsking] using h1
    | cons e' es'' =>
      have : Instr.findNow D (.agg vs) (e' :: es'') 0 = none := by
        simp only [Instr.findNow]
        have : Instr.sameNow D (.agg vs) e'.key = none := by cases D <;> rfl
        rw [this]
      simp only [Instr.findKey, Sem.run_bind, run_und hD, Result.andThen_ok, this]
      exact h1

/-! ### may a value be a key? -/
@[simp] def aKeyG (C : Cx) (q : TypeId → AV → Bool) : List (Nat × TypeId) → List AV → Bool
  | [], _ => true
  | (o, t) :: fs, xs => match aPart C t xs o with
    | some x => q t x && aKeyG C q fs xs
    | none => false
def aKey (C : Cx) : Nat → TypeId → AV → Bool
  | 0, _, _ => false
  | n + 1, t, x =>
    match C.kind t, x with
    | .int _, .int _ _ => true
    | .str, .str _ => true
    | .bool, .bool _ => true
    | .struct fs true, .agg xs => aKeyG C (aKey C n) fs xs
    | .array len el, .agg xs => match C.size el with
      | some sz => aKeyG C (aKey C n) ((List.range len).map fun i => (i * sz, el)) xs
      | none => false
    | _, _ => false
def aKeyFs (C : Cx) (n : Nat) : List (Nat × TypeId) → List AV → Bool := aKeyG C (aKey C n)

def keyAll (empty : Bool) (d : Nat) (xs : Array Value) : List (Nat × TypeId) → Sem Unit
  | [] => pure ()
  | (o, t) :: fs => do
      let a ← part t xs o
      Instr.checkKey empty d t a
      keyAll empty d xs fs

theorem run_checkKey_struct {P : Program} (w : World) (empty : Bool) (d : Nat) (t : TypeId) (xs : Array Value) (F : Array Field) (ht : P.underlying t = some (.struct F)) (hn : ∀ f ∈ F.toList, f.name ≠ "_") :
    (Instr.checkKey empty (d + 1) t (.agg xs)).run P w = (keyAll empty d xs (F.toList.map fun f => (f.offset, f.type))).run P w := by
  simp only [Instr.checkKey, Sem.run_bind, run_und ht, Result.andThen_ok]
  rw [← Array.forIn_toList]
  generalize F.toList = fs at hn
  clear ht
  induction fs generalizing w with
  | nil => simp [keyAll]
  | cons f fs ih =>
    simp only [List.forIn_cons, List.map_cons, keyAll, Sem.run_bind, Sem.run_ite]
    rw [if_pos (hn f (by simp))]
    generalize (part f.type xs f.offset).run P w = r1
    cases r1 with
    | ok a w1 =>
      simp only [Result.andThen_ok]
      generalize (Instr.checkKey empty d f.type a).run P w1 = r2
      cases r2 with
      | ok u w2 =>
        simp only [Result.andThen_ok, Sem.run_pure]
        have := ih w2 (fun g hg => hn g (by simp [hg]))
        simpa using this
      | halt x w2 => simp [Result.andThen]
    | halt x w1 => simp [Result.andThen]

theorem run_checkKey_array {P : Program} (w : World) (empty : Bool) (d : Nat) (t el : TypeId) (len sz : Nat) (xs : Array Value) (ht : P.underlying t = some (.array len el)) (hs : ∀ w, (sizeOf el).run P w = .ok sz w) :
    (Instr.checkKey empty (d + 1) t (.agg xs)).run P w = (keyAll empty d xs ((List.range len).map fun i => (i * sz, el))).run P w := by
  simp only [Instr.checkKey, Sem.run_bind, run_und ht, Result.andThen_ok]
  rw [Std.Legacy.Range.forIn_eq_forIn_range']
  simp only [Std.Legacy.Range.size, Nat.sub_zero, Nat.add_sub_cancel, Nat.div_one, ← List.range_eq_range']
  generalize List.range len = fs
  induction fs generalizing w with
  | nil => simp [keyAll]
  | cons f fs ih =>
    simp only [List.forIn_cons, List.map_cons, keyAll, Sem.run_bind, hs, Result.andThen_ok]
    generalize (part el xs (f * sz)).run P w = r1
    cases r1 with
    | ok a w1 =>
      simp only [Result.andThen_ok]
      generalize (Instr.checkKey empty d el a).run P w1 = r2
      cases r2 with
      | ok u w2 =>
        simp only [Result.andThen_ok, Sem.run_pure]
        have := ih w2
        simpa using this
      | halt x w2 => simp [Result.andThen]
    | halt x w1 => simp [Result.andThen]

mutual
theorem run_aKey (ok : C.OK) (empty : Bool) : (n d : Nat) → n ≤ d → (t : TypeId) → (x : AV) → aKey C n t x = true → (X : Value) → VRel ρ x X → (w : World) → (Instr.checkKey empty d t X).run C.P w = .ok () w
  | 0, _, _, _, _, h, _, _, _ => by simp [aKey] at h
  | n + 1, d, hd, t, x, h, X, hx, w => by
    obtain ⟨d, rfl⟩ : ∃ d', d = d' + 1 := ⟨d - 1, by omega⟩
    unfold aKey at h
    split at h
    · rename_i hk
      obtain ⟨D, hD, hr⟩ := kind_und ok hk (by simp)
      simp only [KindRel] at hr; subst hr
      rw [int_rel hx]; simp [Instr.checkKey, run_und hD]
    · rename_i hk
      obtain ⟨D, hD, hr⟩ := kind_und ok hk (by simp)
      simp only [KindRel] at hr; subst hr
      rw [str_rel hx]; simp [Instr.checkKey, run_und hD]
    · rename_i hk
      obtain ⟨D, hD, hr⟩ := kind_und ok hk (by simp)
      simp only [KindRel] at hr; subst hr
      rw [bool_rel hx]; simp [Instr.checkKey, run_und hD]
    · rename_i fs xs hk
      obtain ⟨D, hD, hr⟩ := kind_und ok hk (by simp)
      simp only [KindRel] at hr
      obtain ⟨F, rfl, hF, hp⟩ := hr
      obtain ⟨hn, _, _⟩ := hp trivial
      simp only [VRel] at hx
      obtain ⟨vs, rfl, hvs⟩ := hx
      rw [run_checkKey_struct w empty d t vs F hD hn, hF]
      exact run_aKeyFs ok empty n d (by omega) fs xs h vs hvs w
    · rename_i len el xs hk
      split at h
      · rename_i sz hsz
        obtain ⟨D, hD, hr⟩ := kind_und ok hk (by simp)
        simp only [KindRel] at hr; subst hr
        simp only [VRel] at hx
        obtain ⟨vs, rfl, hvs⟩ := hx
        rw [run_checkKey_array w empty d t el len sz vs hD (fun w => run_sizeOf' ok hsz w)]
        exact run_aKeyFs ok empty n d (by omega) _ xs h vs hvs w
      · simp at h
    · simp at h
theorem run_aKeyFs (ok : C.OK) (empty : Bool) : (n d : Nat) → n ≤ d → (fs : List (Nat × TypeId)) → (xs : List AV) → aKeyFs C n fs xs = true → (vs : Array Value) → VsRel ρ xs vs.toList → (w : World) →
    (keyAll empty d vs fs).run C.P w = .ok () w
  | n, d, _, [], xs, h, vs, _, w => by simp [keyAll]
  | n, d, hd, (o, t) :: fs, xs, h, vs, hv, w => by
    simp only [aKeyFs, aKeyG] at h
    split at h
    · rename_i x hx
      simp only [Bool.and_eq_true] at h
      obtain ⟨X, hX, hXr⟩ := run_part ok hx hv w
      simp only [keyAll, Sem.run_bind, hX, Result.andThen_ok, run_aKey ok empty n d hd t x h.1 X hXr w]
      exact run_aKeyFs ok empty n d hd fs xs h.2 vs hv w
    · simp at h
end

theorem aKey_kind {n : Nat} {t : TypeId} {x : AV} (h : aKey C n t x = true) : (nowKind (C.kind t) || askKind (C.kind t)) = true ∧ (askKind (C.kind t) = true → ∃ cs, x = .agg cs) := by
  cases n with
  | zero => simp [aKey] at h
  | succ n =>
    unfold aKey at h
    split at h
    · rename_i hk; rw [hk]; simp [nowKind, askKind]
    · rename_i hk; rw [hk]; simp [nowKind, askKind]
    · rename_i hk; rw [hk]; simp [nowKind, askKind]
    · rename_i hk; rw [hk]; simp [askKind]
    · rename_i hk; rw [hk]; simp [askKind]
    · simp at h

def aZero (C : Cx) (t : TypeId) : Option AV :=
  match C.zero t with
  | some zs => if (C.kind t).isOther then none else if (C.kind t).isAgg then some (.agg zs) else zs.head?
  | none => none

theorem run_aZero (ok : C.OK) {t : TypeId} {v : AV} (h : aZero C t = some v) (w : World) : ∃ V, (zeroValue t).run C.P w = .ok V w ∧ VRel ρ v V := by
  unfold aZero at h
  split at h
  · rename_i zs hz
    split at h
    · simp at h
    obtain ⟨z, hrun, hrel, hag, hone, hlen⟩ := run_zero ok hz w
    refine ⟨z, hrun, ?_⟩
    split at h
    · rename_i hA
      rw [hA] at hag
      cases z with
      | agg vs =>
        simp at h; subst h
        simp only [VRel]
        exact ⟨vs, rfl, VsRel.mono List.nil_prefix _ _ hrel⟩
      | _ => simp at hag
    · rename_i hA
      have hA' : (C.kind t).isAgg = false := by simpa using hA
      rw [hA'] at hag
      have hc : z.cells = #[z] := by cases z <;> first | rfl | simp at hag
      rw [hc] at hrel
      cases zs with
      | nil => simp at h
      | cons y ys =>
        simp at h; subst h
        simp only [VsRel] at hrel
        obtain ⟨x, xs, he, hx, _⟩ := hrel
        simp at he
        obtain ⟨rfl, _⟩ := he
        exact VRel.mono List.nil_prefix _ _ hx
  · simp at h

def finLook (C : Cx) (vt : TypeId) (ok : Bool) (r : Option (Nat × AV)) : Option AV :=
  match r with
  | some (_, v) => some (if ok then .tup [v, .bool true] else v)
  | none => (aZero C vt).map fun z => if ok then .tup [z, .bool false] else z

def aLookup (C : Cx) (h : AH) (t : TypeId) (x key : AV) (ok : Bool) : Option AV :=
  match C.kind t with
  | .map kt vt =>
    if aKey C 100 kt key then
      match x with
      | .map none => finLook C vt ok none
      | .map (some k) => match h.get k with
        | some (.map es _) => (aFind C kt key es 0).bind (finLook C vt ok)
        | _ => none
      | _ => none
    else none
  | _ => none

theorem run_aLookup (ok : C.OK) (R : Rel C.W0 ρ h W) {t : TypeId} {x key v : AV} {X K : Value} {b : Bool} (hv : aLookup C h t x key b = some v) (hx : VRel ρ x X) (hk : VRel ρ key K) :
    ∃ V, (Instr.lookup t X K b).run C.P W = .ok V W ∧ VRel ρ v V := by
  unfold aLookup at hv
  split at hv
  · rename_i kt vt hkind
    split at hv
    · rename_i hkey
      obtain ⟨D, hD, hr⟩ := kind_und ok hkind (by simp)
      simp only [KindRel] at hr; subst hr
      obtain ⟨hn, hagg⟩ := aKey_kind hkey
      have main : ∀ (es : List AEnt) (es' : Array MapEntry) (r : Option (Nat × AV)), EntsRel ρ es es'.toList → aFind C kt key es 0 = some r →
          finLook C vt b r = some v →
          ∃ V, (do Instr.checkKey es'.isEmpty 10000 kt K
                   let (v, ok) ← match ← Instr.findKey kt K es'.toList with
                     | some (_, v) => pure (v, true)
                     | none => pure (← zeroValue vt, false)
                   pure (if b then Value.tuple #[v, .bool ok] else v) : Sem Value).run C.P W = .ok V W ∧ VRel ρ v V := by
        intro es es' r he hf hfin
        have hc := run_aKey ok es'.isEmpty 100 10000 (by omega) kt key hkey K hk W
        obtain ⟨r', hr', hrel⟩ := findKey_rel ok hn hk hagg W he hf
        cases r with
        | none =>
          cases r' with
          | some _ => exact hrel.elim
          | none =>
            simp only [finLook, Option.map_eq_some_iff] at hfin
            obtain ⟨z, hz, rfl⟩ := hfin
            obtain ⟨Z, hZ, hzr⟩ := run_aZero (ρ := ρ) ok hz W
            refine ⟨if b then .tuple #[Z, .bool false] else Z, ?_, ?_⟩
            · simp only [Sem.run_bind, hc, hr', Result.andThen_ok, hZ, Sem.run_pure]
            · cases b
              · exact hzr
              · simp only [if_true, VRel]; exact ⟨_, rfl, by simp [VsRel, VRel, hzr]⟩
        | some p =>
          obtain ⟨i, y⟩ := p
          cases r' with
          | none => exact hrel.elim
          | some p' =>
            obtain ⟨j, Y⟩ := p'
            obtain ⟨_, hy⟩ := hrel
            simp [finLook] at hfin; subst hfin
            refine ⟨if b then .tuple #[Y, .bool true] else Y, ?_, ?_⟩
            · simp only [Sem.run_bind, hc, hr', Result.andThen_ok, Sem.run_pure]
            · cases b
              · exact hy
              · simp only [if_true, VRel]; exact ⟨_, rfl, by simp [VsRel, VRel, hy]⟩
      split at hv
      · simp only [VRel] at hx; subst hx
        obtain ⟨V, hV, hrel⟩ := main [] #[] none (by simp [EntsRel]) (by simp [aFind]) hv
        refine ⟨V, ?_, hrel⟩
        rw [← hV]
        simp only [Instr.lookup, Sem.run_bind, run_und hD, Result.andThen_ok, Sem.run_pure]
        rfl
      · rename_i k
        split at hv
        · rename_i es clock hg
          simp only [Option.bind_eq_some_iff] at hv
          obtain ⟨r, hf, hfin⟩ := hv
          simp only [VRel] at hx
          obtain ⟨re, hr, rfl⟩ := hx
          obtain ⟨es', hrun, hrel, _⟩ := run_getMap R hg hr
          obtain ⟨V, hV, hvr⟩ := main es es' r hrel hf hfin
          refine ⟨V, ?_, hvr⟩
          rw [← hV]
          simp only [Instr.lookup, Sem.run_bind, run_und hD, Result.andThen_ok, Sem.run_pure, hrun]
          rfl
        · simp at hv
      · simp at hv
    · simp at hv
  · simp at hv

def aAssert (C : Cx) (x : AV) (asserted : TypeId) (ok : Bool) : Option AV :=
  match C.kind asserted, x with
  | .other, _ => none
  | .iface _, .nilifc => if ok then (aZero C asserted).map fun z => .tup [z, .bool false] else none
  | .iface _, _ => none
  | _, .nilifc => if ok then (aZero C asserted).map fun z => .tup [z, .bool false] else none
  | _, .ifc t v => if t = asserted then some (if ok then .tup [v, .bool true] else v) else if ok then (aZero C asserted).map fun z => .tup [z, .bool false] else none
  | _, _ => none

end
end Go.Proofs.Ytgcoipcnhmkeaaa.Ax
