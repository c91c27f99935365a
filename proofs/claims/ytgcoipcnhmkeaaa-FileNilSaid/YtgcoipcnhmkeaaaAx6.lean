/- AX, part 6: building, slicing, lengths, looking up, assertions; the operations that change nothing, in one. -/
import Derived.Test.YtgcoipcnhmkeaaaAx5
set_option linter.unusedVariables false
set_option linter.unusedSimpArgs false
namespace Go.Proofs.Ytgcoipcnhmkeaaa.Ax
open Go.RowKit

section
variable {C : Cx} {ρ : Rho} {h : AH} {W : World}

/-! ### build -/
def aCellsOf : AV → Option (List AV)
  | .bad => none
  | .agg cs => some cs
  | v => some [v]

theorem cellsOf_rel {x : AV} {X : Value} {cs : List AV} (h : aCellsOf x = some cs) (hx : VRel ρ x X) : VsRel ρ cs X.cells.toList := by
  cases x with
  | bad => simp [aCellsOf] at h
  | agg l =>
    simp [aCellsOf] at h; subst h
    simp only [VRel] at hx
    obtain ⟨vs, rfl, hvs⟩ := hx
    exact hvs
  | _ =>
    simp only [aCellsOf, Option.some.injEq] at h; subst h
    have : X.cells = #[X] := by
      cases X <;> first | rfl | (simp only [VRel] at hx; done) | skip
      all_goals first
        | (simp [VRel] at hx; done)
        | (rename_i a _; cases a <;> simp [VRel] at hx; done)
        | (rename_i a _ _ _ _; cases a <;> simp [VRel] at hx; done)
        | (rename_i a; cases a <;> simp [VRel] at hx; done)
        | (rename_i a _ _ _ ; rcases a with _ | (_ | _) <;> simp [VRel] at hx; done)
        | (rename_i a _ _ _ _; rcases a with _ | (_ | _) <;> simp [VRel] at hx; done)
    rw [this]
    simp only [VsRel]
    exact ⟨X, [], rfl, hx, rfl⟩

def overlay (zs vs : List AV) (off : Nat) : List AV := zs.take off ++ vs ++ zs.drop (off + vs.length)

def aFill (place : Nat → Option (Nat × Nat)) : List AV → List (Nat × AV) → Option (List AV)
  | cells, [] => some cells
  | cells, (i, v) :: rest =>
    match place i, aCellsOf v with
    | some (off, size), some cs => if cs.length = size ∧ off + size ≤ cells.length then aFill place (overlay cells cs off) rest else none
    | _, _ => none

theorem foldl_overlay (vs : List Value) : ∀ (k off : Nat) (cells : Array Value), off + k + vs.length ≤ cells.size →
    ((vs.zipIdx k).foldl (fun cs (c, j) => cs.setIfInBounds (off + j) c) cells).toList = cells.toList.take (off + k) ++ vs ++ cells.toList.drop (off + k + vs.length) := by
  induction vs with
  | nil => intro k off cells h; simp
  | cons v vs ih =>
    intro k off cells h
    simp only [List.length_cons] at h
    simp only [List.zipIdx_cons, List.foldl_cons]
    rw [ih (k + 1) off _ (by simp; omega)]
    simp only [Array.toList_setIfInBounds]
    have hlt : off + k < cells.toList.length := by simp; omega
    rw [show off + (k + 1) = off + k + 1 by omega]
    have e1 : (cells.toList.set (off + k) v).take (off + k + 1) = cells.toList.take (off + k) ++ [v] := by
      rw [List.take_add_one, List.take_set_of_le (Nat.le_refl _), List.getElem?_set_self hlt]
      rfl
    have e2 : (cells.toList.set (off + k) v).drop (off + k + 1 + vs.length) = cells.toList.drop (off + k + (v :: vs).length) := by
      rw [List.drop_set_of_lt (by omega)]
      congr 1
      simp; omega
    rw [e1, e2]
    simp

theorem fill_rel {place : Nat → Option (Nat × Nat)} : ∀ (parts : List (Nat × AV)) (parts' : List (Nat × Value)) (cells out : List AV) (Cells : Array Value),
    parts.map (·.1) = parts'.map (·.1) → VsRel ρ (parts.map (·.2)) (parts'.map (·.2)) → VsRel ρ cells Cells.toList → aFill place cells parts = some out →
    ∃ Out, Instr.fill place Cells parts' = some Out ∧ VsRel ρ out Out.toList
  | [], [], cells, out, Cells, _, _, hc, hf => by
    simp [aFill] at hf; subst hf
    exact ⟨Cells, rfl, hc⟩
  | [], _ :: _, _, _, _, hi, _, _, _ => by simp at hi
  | _ :: _, [], _, _, _, hi, _, _, _ => by simp at hi
  | (i, v) :: rest, (j, V) :: rest', cells, out, Cells, hi, hv, hc, hf => by
    simp only [List.map_cons, List.cons.injEq] at hi
    obtain ⟨rfl, hi'⟩ := hi
    simp only [List.map_cons, VsRel] at hv
    obtain ⟨_, _, he, hvV, hv'⟩ := hv
    simp only [List.cons.injEq] at he
    obtain ⟨rfl, rfl⟩ := he
    simp only [aFill] at hf
    split at hf
    · rename_i off size cs hp hcs
      split at hf
      · rename_i hle
        have hcr := cellsOf_rel hcs hvV
        have hl1 := hcr.length
        have hl2 := hc.length
        have hsz : V.cells.size = size := by rw [← hle.1, ← hl1]; simp
        have hCs : Cells.size = cells.length := by rw [← hl2]; simp
        have hcond : ¬ (V.cells.size ≠ size ∨ off + V.cells.size > Cells.size) := by
          rw [hsz, hCs]; omega
        have hfo := foldl_overlay V.cells.toList 0 off Cells (by simp; omega)
        have hstep : VsRel ρ (overlay cells cs off) (V.cells.zipIdx.foldl (fun cs (c, j) => cs.setIfInBounds (off + j) c) Cells).toList := by
          have e : (V.cells.zipIdx.foldl (fun cs (c, j) => cs.setIfInBounds (off + j) c) Cells) = ((V.cells.toList.zipIdx 0).foldl (fun cs (c, j) => cs.setIfInBounds (off + j) c) Cells) := by
            rw [← Array.foldl_toList]; simp
          rw [e, hfo]
          unfold overlay
          rw [hl1]
          exact ((hc.take _).append hcr).append (hc.drop _)
        obtain ⟨Out, hO, hr⟩ := fill_rel rest rest' _ out _ hi' hv' hstep hf
        refine ⟨Out, ?_, hr⟩
        simp only [Instr.fill, hp]
        simp only [Bool.or_eq_true, decide_eq_true_eq]
        rw [if_neg hcond]
        exact hO
      · simp at hf
    · simp at hf

def placeOf (C : Cx) (t : TypeId) : Option (Nat → Option (Nat × Nat)) :=
  match C.kind t with
  | .struct fs _ => if fs.all (fun f => (C.size f.2).isSome) then some fun i => (fs[i]?).map fun f => (f.1, (C.size f.2).getD 0) else none
  | .array _ el => (C.size el).map fun sz i => some (i * sz, sz)
  | _ => none

def aBuild (C : Cx) (t : TypeId) (parts : List (Nat × AV)) : Option AV :=
  match placeOf C t, C.zero t with
  | some place, some zs => (aFill place zs parts).map .agg
  | _, _ => none

theorem run_zero (ok : C.OK) {t : TypeId} {zs : List AV} (h : C.zero t = some zs) (w : World) : ∃ z, (zeroValue t).run C.P w = .ok z w ∧ VsRel ρ zs z.cells.toList ∧ (C.kind t).isAgg = (match z with | .agg _ => true | _ => false) ∧ (∀ v ∈ z.cells.toList, v.oneCell' = true) ∧ some zs.length = C.size t := by
  unfold Cx.zero at h
  cases ht : C.ty t with
  | none => rw [ht] at h; simp at h
  | some y =>
    rw [ht] at h; simp at h
    obtain ⟨i, d, hi, _, hs, _, _, hz⟩ := ok.ty t y ht
    obtain ⟨hl, z, hzi, hzr⟩ := hz zs h
    refine ⟨z, by simp [zeroValue, typeInfo, hi, hzi], ?_⟩
    have hk : C.kind t = y.kind := by simp [Cx.kind, ht]
    rw [hk]
    have hlen : some zs.length = C.size t := by simp [Cx.size, ht, hl]
    cases hA : y.kind.isAgg with
    | true =>
      rw [hA] at hzr
      obtain ⟨vs, rfl, hvs, hone⟩ := hzr
      exact ⟨VsRel.mono (List.nil_prefix) _ _ hvs, rfl, hone, hlen⟩
    | false =>
      rw [hA] at hzr
      obtain ⟨v, rfl, hv, hone⟩ := hzr
      have hc : z.cells = #[z] := by cases z <;> first | rfl | simp [Value.oneCell'] at hone
      refine ⟨?_, ?_, ?_, hlen⟩
      · rw [hc]
        simp only [VsRel]
        exact ⟨z, [], rfl, VRel.mono (List.nil_prefix) _ _ hv, rfl⟩
      · cases z <;> first | rfl | simp [Value.oneCell'] at hone
      · rw [hc]; simpa using hone

theorem run_aBuild (ok : C.OK) {t : TypeId} {parts : List (Nat × AV)} {parts' : Array (Nat × Value)} {v : AV} (hv : aBuild C t parts = some v)
    (hi : parts.map (·.1) = parts'.toList.map (·.1)) (hp : VsRel ρ (parts.map (·.2)) (parts'.toList.map (·.2))) (w : World) :
    ∃ V, (Instr.build t parts').run C.P w = .ok V w ∧ VRel ρ v V := by
  unfold aBuild at hv
  split at hv
  · rename_i place zs hpl hz
    simp only [Option.map_eq_some_iff] at hv
    obtain ⟨out, hout, rfl⟩ := hv
    obtain ⟨z, hzr, hzrel, hag, _⟩ := run_zero ok hz w
    have hzr' : VsRel ρ zs z.cells.toList := VsRel.mono List.nil_prefix _ _ hzrel
    unfold placeOf at hpl
    split at hpl
    · rename_i fs pl hk
      split at hpl
      · rename_i hall
        simp at hpl
        obtain ⟨D, hD, hr⟩ := kind_und ok hk (by simp)
        simp only [KindRel] at hr
        obtain ⟨F, rfl, hF, _⟩ := hr
        -- the places
        have hsizes : ∀ f ∈ F.toList, ∃ n, C.size f.type = some n := by
          intro f hf
          have := List.all_eq_true.1 hall (f.offset, f.type) (by rw [← hF]; exact List.mem_map.2 ⟨f, hf, rfl⟩)
          exact Option.isSome_iff_exists.1 this
        have hmap : (F.mapM fun f => (do pure (f.offset, ← sizeOf f.type) : Sem (Nat × Nat))).run C.P w = .ok (F.map fun f => (f.offset, (C.size f.type).getD 0)) w := by
          have key : ∀ (l : List Field), (∀ f ∈ l, ∃ n, C.size f.type = some n) → (l.mapM fun f => (do pure (f.offset, ← sizeOf f.type) : Sem (Nat × Nat))).run C.P w = .ok (l.map fun f => (f.offset, (C.size f.type).getD 0)) w := by
            intro l
            induction l with
            | nil => intro _; simp
            | cons f l ih =>
              intro hl
              obtain ⟨n, hn⟩ := hl f (by simp)
              simp only [List.mapM_cons, Sem.run_bind, run_sizeOf' ok hn w, Result.andThen_ok, Sem.run_pure, ih (fun g hg => hl g (by simp [hg])), List.map_cons, hn, Option.getD_some]
          rw [Array.mapM_eq_mapM_toList]
          simp only [Sem.run_map, key F.toList hsizes, Result.andThen_ok]
          rw [← Array.toList_map]
        obtain ⟨Out, hO, hr⟩ := fill_rel parts parts'.toList zs out z.cells hi hp hzr' hout
        refine ⟨.agg Out, ?_, by simp only [VRel]; exact ⟨Out, rfl, hr⟩⟩
        simp only [Instr.build, Sem.run_bind, hzr, run_und hD, Result.andThen_ok, hmap]
        have hplace : place = fun i => (F.map fun f => (f.offset, (C.size f.type).getD 0))[i]? := by
          funext i
          rw [← hpl, ← hF]
          simp
          rfl
        rw [hplace] at hO
        simp only [hO]
        rfl
      · simp at hpl
    · rename_i n el hk
      simp only [Option.map_eq_some_iff] at hpl
      obtain ⟨sz, hsz, rfl⟩ := hpl
      obtain ⟨D, hD, hr⟩ := kind_und ok hk (by simp)
      simp only [KindRel] at hr; subst hr
      obtain ⟨Out, hO, hr⟩ := fill_rel parts parts'.toList zs out z.cells hi hp hzr' hout
      refine ⟨.agg Out, ?_, by simp only [VRel]; exact ⟨Out, rfl, hr⟩⟩
      simp only [Instr.build, Sem.run_bind, hzr, run_und hD, Result.andThen_ok, run_sizeOf' ok hsz w, hO]
      rfl
    · simp at hpl
  · simp at hv

/-! ### slicing -/
def aBound (x : Option AV) (dflt y : Nat) : Option Nat :=
  match x with
  | none => some dflt
  | some (.int _ n) => if 0 ≤ n ∧ n ≤ y then some n.toNat else none
  | some _ => none

def OptRel (ρ : Rho) : Option AV → Option Value → Prop
  | none, none => True
  | some x, some X => VRel ρ x X
  | _, _ => False

theorem bound_run {x : AV} {X : Value} {d y y' n : Nat} (hx : aBound (some x) d y = some n) (hr : VRel ρ x X) (hy : y ≤ y') (code : BoundsCode) (P : Program) (w : World) :
    (Instr.sliceBound X y' code).run P w = .ok n w := by
  unfold aBound at hx
  split at hx
  · rename_i e; simp at e
  · rename_i k m e
    simp at e; subst e
    split at hx
    · rename_i hb
      simp at hx; subst hx
      rw [int_rel hr]
      have : 0 ≤ m ∧ m ≤ (y' : Int) := ⟨hb.1, by omega⟩
      simp [Instr.sliceBound, asIntOf, this]
    · simp at hx
  · simp at hx

def aBounds (len cap : Nat) (lo hi mx : Option AV) : Option (Nat × Nat × Nat) :=
  match aBound mx cap cap with
  | none => none
  | some m => match (match hi, mx with | none, some _ => none | none, none => some len | some x, _ => aBound (some x) len m) with
    | none => none
    | some h => match aBound lo 0 h with
      | none => none
      | some l => some (l, h, m)

theorem run_aBounds {len cap cap' : Nat} {lo hi mx : Option AV} {lo' hi' mx' : Option Value} {l h m : Nat} (hv : aBounds len cap lo hi mx = some (l, h, m)) (hc : cap ≤ cap')
    (h1 : OptRel ρ lo lo') (h2 : OptRel ρ hi hi') (h3 : OptRel ρ mx mx') (b : Bool) (P : Program) (w : World) :
    (Instr.sliceBounds b len cap' lo' hi' mx').run P w = .ok (l, h, if mx.isNone then cap' else m) w ∧ (mx = none → m = cap) := by
  unfold aBounds at hv
  split at hv
  · simp at hv
  · rename_i m0 hm
    split at hv
    · simp at hv
    · rename_i h0 hh
      split at hv
      · simp at hv
      · rename_i l0 hl
        simp only [Option.some.injEq, Prod.mk.injEq] at hv
        obtain ⟨rfl, rfl, rfl⟩ := hv
        have hlow : (lo' = none ∧ l0 = 0) ∨ ∃ X, lo' = some X ∧ ∀ code, (Instr.sliceBound X h0 code).run P w = .ok l0 w := by
          cases lo with
          | none => cases lo' with
            | none => simp [aBound] at hl; exact .inl ⟨rfl, hl.symm⟩
            | some _ => exact h1.elim
          | some x => cases lo' with
            | none => exact h1.elim
            | some X => exact .inr ⟨X, rfl, fun code => bound_run hl h1 (Nat.le_refl _) code P w⟩
        cases mx with
        | none =>
          cases mx' with
          | some _ => exact h3.elim
          | none =>
            simp [aBound] at hm; subst hm
            refine ⟨?_, fun _ => rfl⟩
            cases hi with
            | none => cases hi' with
              | some _ => exact h2.elim
              | none =>
                simp at hh; subst hh
                rcases hlow with ⟨rfl, rfl⟩ | ⟨L, rfl, hL⟩
                · simp [Instr.sliceBounds]
                · simp [Instr.sliceBounds, hL]
            | some x => cases hi' with
              | none => exact h2.elim
              | some X =>
                simp at hh
                have e := bound_run hh h2 hc (if b then .sliceAcap else .sliceAlen) P w
                rcases hlow with ⟨rfl, rfl⟩ | ⟨L, rfl, hL⟩
                · simp [Instr.sliceBounds, e]
                · simp [Instr.sliceBounds, e, hL]
        | some y =>
          cases mx' with
          | none => exact h3.elim
          | some Y =>
            refine ⟨?_, fun e => by simp at e⟩
            have e3 := bound_run hm h3 hc (if b then .slice3Acap else .slice3Alen) P w
            cases hi with
            | none => simp at hh
            | some x => cases hi' with
              | none => exact h2.elim
              | some X =>
                simp at hh
                have e := bound_run hh h2 (Nat.le_refl _) .slice3B P w
                rcases hlow with ⟨rfl, rfl⟩ | ⟨L, rfl, hL⟩
                · simp [Instr.sliceBounds, e3, e]
                · simp [Instr.sliceBounds, e3, e, hL]

def aSlice (C : Cx) (t : TypeId) (x : AV) (lo hi mx : Option AV) : Option AV :=
  match C.kind t, x with
  | .str, .str s => match mx with
    | some _ => none
    | none => (aBounds s.length s.length lo hi none).map fun (l, h, _) => .str ((s.take h).drop l)
  | .slice el, .sl none _ _ _ => match C.size el with
    | some _ => (aBounds 0 0 lo hi mx).map fun _ => .sl none 0 0 none
    | none => none
  | .slice el, .sl (some a) len cap gr => match C.size el with
    | some sz =>
      if gr = none ∨ gr = some sz then
        (aBounds len cap lo hi mx).map fun (l, h, m) => .sl (some (if m = l ∧ (gr = none ∨ mx.isSome) then a else a.add (l * sz))) (h - l) (m - l) (if mx.isSome then none else gr)
      else none
    | none => none
  | .array n el, .ptr (some a) => match C.size el with
    | some sz => match mx with
      | some _ => none
      | none => (aBounds n n lo hi none).map fun (l, h, m) => .sl (some (if m = l then a else a.add (l * sz))) (h - l) (m - l) none
    | none => none
  | _, _ => none

theorem aBound_le {x : Option AV} {d y n : Nat} (hx : aBound x d y = some n) : x = none ∧ n = d ∨ n ≤ y := by
  unfold aBound at hx
  split at hx
  · simp at hx; exact .inl ⟨rfl, hx.symm⟩
  · split at hx
    · rename_i hb; simp at hx; right; omega
    · simp at hx
  · simp at hx

theorem aBounds_le {len cap : Nat} {lo hi mx : Option AV} {l h m : Nat} (hv : aBounds len cap lo hi mx = some (l, h, m)) : l ≤ h ∧ m ≤ cap ∧ (h ≤ m ∨ hi = none ∧ mx = none ∧ h = len) := by
  unfold aBounds at hv
  split at hv
  · simp at hv
  · rename_i m0 hm
    split at hv
    · simp at hv
    · rename_i h0 hh
      split at hv
      · simp at hv
      · rename_i l0 hl
        simp only [Option.some.injEq, Prod.mk.injEq] at hv
        obtain ⟨rfl, rfl, rfl⟩ := hv
        refine ⟨?_, ?_, ?_⟩
        · rcases aBound_le hl with ⟨_, h⟩ | h <;> omega
        · rcases aBound_le hm with ⟨_, h⟩ | h <;> omega
        · cases hi with
          | none => cases mx with
            | none => simp at hh; exact .inr ⟨rfl, rfl, hh.symm⟩
            | some _ => simp at hh
          | some x =>
            simp at hh
            rcases aBound_le hh with ⟨h, _⟩ | h
            · simp at h
            · exact .inl h

end
end Go.Proofs.Ytgcoipcnhmkeaaa.Ax
