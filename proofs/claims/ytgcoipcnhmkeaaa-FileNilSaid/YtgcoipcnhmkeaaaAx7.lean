/- AX, part 7: slicing (run), lengths, least and greatest, look-ups, assertions. -/
import Derived.Test.YtgcoipcnhmkeaaaAx6
set_option linter.unusedVariables false
set_option linter.unusedSimpArgs false
namespace Go.Proofs.Ytgcoipcnhmkeaaa.Ax
open Go.RowKit

section
variable {C : Cx} {ρ : Rho} {h : AH} {W : World}

theorem exact_sl {a : AA} {A : Addr} (ha : ARel ρ a A) {len cap : Nat} (hl : len ≤ cap) : VRel ρ (.sl (some a) len cap none) (.slice (some A) len cap) := by
  cases a with
  | base b o => simp only [ARel] at ha; subst ha; simp [VRel]
  | new k o =>
    obtain ⟨r, hr, hA⟩ := ha
    simp only [VRel]
    exact ⟨r, A, cap, hr, rfl, hl, Nat.le_refl _, fun _ => rfl, .inl ⟨hA, fun n hn => by simp at hn⟩⟩

theorem run_aSlice (ok : C.OK) {t : TypeId} {x v : AV} {lo hi mx : Option AV} {X : Value} {lo' hi' mx' : Option Value} (hv : aSlice C t x lo hi mx = some v) (hx : VRel ρ x X)
    (h1 : OptRel ρ lo lo') (h2 : OptRel ρ hi hi') (h3 : OptRel ρ mx mx') (w : World) : ∃ V, (Instr.sliceAt t X lo' hi' mx').run C.P w = .ok V w ∧ VRel ρ v V := by
  unfold aSlice at hv
  split at hv
  · rename_i s hk
    obtain ⟨D, hD, hr⟩ := kind_und ok hk (by simp)
    simp only [KindRel] at hr; subst hr
    cases mx with
    | some _ => simp at hv
    | none =>
      cases mx' with
      | some _ => exact h3.elim
      | none =>
        simp only [Option.map_eq_some_iff, Prod.exists] at hv
        obtain ⟨l, hh, m, hb, rfl⟩ := hv
        rw [str_rel hx]
        obtain ⟨hrun, _⟩ := run_aBounds (mx' := none) hb (Nat.le_refl _) h1 h2 trivial false C.P w
        refine ⟨.string ⟨((s.take hh).drop l).toArray⟩, ?_, by simp [VRel]⟩
        simp only [Instr.sliceAt, Sem.run_bind, run_und hD, Result.andThen_ok, Instr.slice, Option.isSome_none, Bool.false_eq_true, if_false, ba_size, hrun, Sem.run_pure]
        congr 2
        apply ByteArray.ext
        simp [List.drop_take]
  · rename_i el len cap gr hk
    obtain ⟨D, hD, hr⟩ := kind_und ok hk (by simp)
    simp only [KindRel] at hr; subst hr
    split at hv
    · rename_i sz hsz
      simp only [Option.map_eq_some_iff, Prod.exists] at hv
      obtain ⟨l, hh, m, hb, rfl⟩ := hv
      simp only [VRel] at hx
      obtain ⟨rfl, rfl, rfl, rfl⟩ := hx
      obtain ⟨hrun, hm⟩ := run_aBounds (mx' := mx') hb (Nat.le_refl 0) h1 h2 h3 true C.P w
      obtain ⟨e1, e2, e3⟩ := aBounds_le hb
      have hm0 : (if mx.isNone then 0 else m) = 0 := by split <;> omega
      have hh0 : hh = 0 := by rcases e3 with e3 | ⟨_, _, e3⟩ <;> omega
      have hl0 : l = 0 := by omega
      refine ⟨.slice none 0 0, ?_, by simp [VRel]⟩
      simp only [Instr.sliceAt, Sem.run_bind, run_und hD, Result.andThen_ok, Instr.slice, hrun, run_sizeOf' ok hsz w, Sem.run_pure, hm0, hh0, hl0]
      rfl
    · simp at hv
  · rename_i el a len cap gr hk
    obtain ⟨D, hD, hr⟩ := kind_und ok hk (by simp)
    simp only [KindRel] at hr; subst hr
    split at hv
    · rename_i sz hsz
      split at hv
      · rename_i hgr
        simp only [Option.map_eq_some_iff, Prod.exists] at hv
        obtain ⟨l, hh, m, hb, rfl⟩ := hv
        obtain ⟨e1, e2, e3⟩ := aBounds_le hb
        have go : ∀ (A : Addr) (cap' : Nat), X = .slice (some A) len cap' → cap ≤ cap' → (Instr.sliceAt t X lo' hi' mx').run C.P w =
            .ok (.slice (some (if (if mx.isNone then cap' else m) = l then A else A.add (l * sz))) (hh - l) ((if mx.isNone then cap' else m) - l)) w := by
          intro A cap' hX hc
          subst hX
          obtain ⟨hrun, hm⟩ := run_aBounds (mx' := mx') hb hc h1 h2 h3 true C.P w
          simp only [Instr.sliceAt, Sem.run_bind, run_und hD, Result.andThen_ok, Instr.slice, hrun, run_sizeOf' ok hsz w, Sem.run_pure]
          generalize (if mx.isNone = true then cap' else m) = m'
          by_cases e : m' = l
          · simp [e]
          · simp [e]
        cases a with
        | base b o =>
          simp only [VRel] at hx
          obtain ⟨rfl, rfl⟩ := hx
          refine ⟨_, go _ cap rfl (Nat.le_refl _), ?_⟩
          have hmm : (if mx.isNone = true then cap else m) = m := by
            split
            · rename_i hn
              exact ((run_aBounds (mx' := mx') (ρ := ρ) hb (Nat.le_refl cap) h1 h2 h3 true C.P w).2 (Option.isNone_iff_eq_none.1 hn)).symm
            · rfl
          rw [hmm]
          have hge : (if mx.isSome = true then (none : Option Nat) else none) = none := by split <;> rfl
          rw [hge]
          by_cases hml : m = l
          · simp [hml, VRel]
          · simp only [hml, false_and, if_false, VRel, AA.add, add_addr]
            exact ⟨trivial, trivial⟩
        | new k o =>
          simp only [VRel] at hx
          obtain ⟨r, A, cap', hr, rfl, hlc, hcc, hex, hdis⟩ := hx
          refine ⟨_, go A cap' rfl hcc, ?_⟩
          obtain ⟨_, hm⟩ := run_aBounds (mx' := mx') (ρ := ρ) hb hcc h1 h2 h3 true C.P w
          by_cases hcase : gr = none ∨ mx.isSome = true
          · have hmd : (if mx.isNone = true then cap' else m) = m := by
              cases mx with
              | none =>
                rcases hcase with hg | hg
                · simp; rw [hex hg, hm rfl]
                · simp at hg
              | some _ => simp
            have hge : (if mx.isSome = true then none else gr) = none := by
              rcases hcase with hg | hg
              · rw [hg]; split <;> rfl
              · rw [if_pos hg]
            have hhm : hh ≤ m := by
              rcases e3 with e3 | ⟨_, hmn, e3⟩
              · exact e3
              · rw [hmn] at hmd; simp at hmd; omega
            rw [hmd, hge]
            have hcond : (m = l ∧ (gr = none ∨ mx.isSome = true)) = (m = l) := by simp [hcase]
            simp only [hcond]
            by_cases hml : m = l
            · simp only [hml, if_true, VRel]
              exact ⟨r, A, l - l, hr, rfl, by omega, Nat.le_refl _, fun _ => rfl, .inr (by omega)⟩
            · simp only [hml, if_false, VRel, AA.add]
              refine ⟨r, A.add (l * sz), m - l, hr, rfl, by omega, Nat.le_refl _, fun _ => rfl, ?_⟩
              rcases hdis with ⟨hA, _⟩ | h0
              · left
                subst hA
                exact ⟨by rw [add_addr, Nat.add_assoc], fun n hn => by simp at hn⟩
              · omega
          · have hmx : mx = none := by
              cases mx with
              | none => rfl
              | some _ => simp at hcase
            have hg : gr = some sz := by
              rcases hgr with hg | hg
              · exact absurd (.inl hg) hcase
              · exact hg
            subst hmx
            subst hg
            have hmc := hm rfl
            simp only [Option.isNone_none, if_true, Option.isSome_none, Bool.false_eq_true, if_false]
            have hcond : ¬ (m = l ∧ (some sz = none ∨ False)) := by simp
            have hhm : hh ≤ cap' := by rcases e3 with e3 | ⟨_, _, e3⟩ <;> omega
            simp only [reduceCtorEq, or_self, and_false, if_false, VRel, AA.add]
            by_cases hml : cap' = l
            · refine ⟨r, A, cap' - l, hr, by rw [if_pos hml], by omega, by omega, fun e => by simp at e, .inr (by omega)⟩
            · refine ⟨r, A.add (l * sz), cap' - l, hr, by rw [if_neg hml], by omega, by omega, fun e => by simp at e, ?_⟩
              rcases hdis with ⟨hA, hbd⟩ | h0
              · left
                subst hA
                refine ⟨by rw [add_addr, Nat.add_assoc], fun n hn => ?_⟩
                simp at hn; subst hn
                have := hbd sz rfl
                have h2 : (cap' - l) * sz + l * sz = cap' * sz := by rw [← Nat.add_mul]; congr 1; omega
                omega
              · omega
      · simp at hv
    · simp at hv
  · rename_i n el a hk
    obtain ⟨D, hD, hr⟩ := kind_und ok hk (by simp)
    simp only [KindRel] at hr; subst hr
    simp only [VRel] at hx
    obtain ⟨A, hA, rfl⟩ := hx
    split at hv
    · rename_i sz hsz
      cases mx with
      | some _ => simp at hv
      | none =>
        cases mx' with
        | some _ => exact h3.elim
        | none =>
          simp only [Option.map_eq_some_iff, Prod.exists] at hv
          obtain ⟨l, hh, m, hb, rfl⟩ := hv
          obtain ⟨e1, e2, e3⟩ := aBounds_le hb
          obtain ⟨hrun, hm⟩ := run_aBounds (mx' := none) hb (Nat.le_refl _) h1 h2 trivial false C.P w
          have hmn := hm rfl
          have hhn : hh ≤ m := by rcases e3 with e3 | ⟨_, _, e3⟩ <;> omega
          refine ⟨.slice (some (if m = l then A else A.add (l * sz))) (hh - l) (m - l), ?_, ?_⟩
          · simp only [Instr.sliceAt, Sem.run_bind, run_und hD, Result.andThen_ok, Instr.sureAddr, Sem.run_pure, hrun, run_sizeOf' ok hsz w, Option.isNone_none, if_true, hmn]
          · refine exact_sl ?_ (by omega)
            split
            · exact hA
            · exact hA.add _
    · simp at hv
  · simp at hv

/-! ### lengths, least, greatest -/
def aLen (C : Cx) (h : AH) (t : TypeId) (x : AV) : Option AV :=
  match C.kind t, x with
  | .str, .str s => some (.i s.length)
  | .array n _, _ => some (.i n)
  | .ptr e, _ => match C.kind e with | .array n _ => some (.i n) | _ => none
  | .slice _, .sl _ n _ _ => some (.i n)
  | .map _ _, .map none => some (.i 0)
  | .map _ _, .map (some k) => match h.get k with
    | some (.map es _) => some (.i es.length)
    | _ => none
  | _, _ => none

theorem EntsRel.length {as : List AEnt} : ∀ {es : List MapEntry}, EntsRel ρ as es → es.length = as.length := by
  induction as with
  | nil => intro es h; simp only [EntsRel] at h; simp [h]
  | cons a as ih =>
    intro es h
    simp only [EntsRel] at h
    obtain ⟨e, es', rfl, _, h2⟩ := h
    simp [ih h2]

theorem map_block (R : Rel C.W0 ρ h W) {k : Nat} {es : List AEnt} {clock : Nat} (hk : h.get k = some (.map es clock)) {r : RE} (hr : ρ[k]? = some r) :
    ∃ es', W.heap[r.b]? = some (.map es' clock) ∧ EntsRel ρ es es'.toList := by
  obtain ⟨r', hr', _, ho⟩ := R.live k _ hk
  rw [hr] at hr'; cases hr'
  exact ho

theorem run_getMap (R : Rel C.W0 ρ h W) {k : Nat} {es : List AEnt} {clock : Nat} (hk : h.get k = some (.map es clock)) {r : RE} (hr : ρ[k]? = some r) :
    ∃ es', (getObj r.b).run C.P W = .ok (.map es' clock) W ∧ EntsRel ρ es es'.toList ∧ W.heap[r.b]? = some (.map es' clock) := by
  obtain ⟨es', h1, h2⟩ := map_block R hk hr
  exact ⟨es', by simp [getObj, Sem.run, h1], h2, h1⟩

theorem run_aLen (ok : C.OK) (R : Rel C.W0 ρ h W) {t : TypeId} {x v : AV} {X : Value} (hv : aLen C h t x = some v) (hx : VRel ρ x X) (ty : TypeId) (ts : Array TypeId) (ht : ts[0]? = some t) :
    ∃ V, (Builtin.len_ ts ty #[X]).run C.P W = .ok V W ∧ VRel ρ v V := by
  unfold aLen at hv
  split at hv
  · rename_i s hk
    simp at hv; subst hv
    obtain ⟨D, hD, hr⟩ := kind_und ok hk (by simp)
    simp only [KindRel] at hr; subst hr
    rw [str_rel hx]
    exact ⟨goInt s.length, by simp [Builtin.len_, ht, run_und hD, ba_size], by simp [VRel, goInt]⟩
  · rename_i n e hk
    simp at hv; subst hv
    obtain ⟨D, hD, hr⟩ := kind_und ok hk (by simp)
    simp only [KindRel] at hr; subst hr
    exact ⟨goInt n, by simp [Builtin.len_, ht, run_und hD], by simp [VRel, goInt]⟩
  · rename_i e hk
    split at hv
    · rename_i n e' hk'
      simp at hv; subst hv
      obtain ⟨D, hD, hr⟩ := kind_und ok hk (by simp)
      obtain ⟨D', hD', hr'⟩ := kind_und ok hk' (by simp)
      simp only [KindRel] at hr hr'; subst hr; subst hr'
      exact ⟨goInt n, by simp [Builtin.len_, ht, run_und hD, run_und hD'], by simp [VRel, goInt]⟩
    · simp at hv
  · rename_i e a n cap gr hk
    simp at hv; subst hv
    obtain ⟨D, hD, hr⟩ := kind_und ok hk (by simp)
    simp only [KindRel] at hr; subst hr
    have : ∃ A c, X = .slice A n c := by
      cases a with
      | none => simp only [VRel] at hx; obtain ⟨rfl, _, _, rfl⟩ := hx; exact ⟨_, _, rfl⟩
      | some a => cases a with
        | base b o => simp only [VRel] at hx; exact ⟨_, _, hx.2⟩
        | new k o => simp only [VRel] at hx; obtain ⟨r, A, c, _, h1, _⟩ := hx; exact ⟨_, _, h1⟩
    obtain ⟨A, c, rfl⟩ := this
    exact ⟨goInt n, by simp [Builtin.len_, ht, run_und hD], by simp [VRel, goInt]⟩
  · rename_i k0 v0 hk
    simp at hv; subst hv
    obtain ⟨D, hD, hr⟩ := kind_und ok hk (by simp)
    simp only [KindRel] at hr; subst hr
    simp only [VRel] at hx; subst hx
    exact ⟨goInt 0, by simp [Builtin.len_, ht, run_und hD], by simp [VRel, goInt]⟩
  · rename_i k0 v0 k hk
    split at hv
    · rename_i es clock hg
      simp at hv; subst hv
      obtain ⟨D, hD, hr⟩ := kind_und ok hk (by simp)
      simp only [KindRel] at hr; subst hr
      simp only [VRel] at hx
      obtain ⟨r, hr, rfl⟩ := hx
      obtain ⟨es', hrun, hrel, _⟩ := run_getMap R hg hr
      refine ⟨goInt es.length, ?_, by simp [VRel, goInt]⟩
      have := hrel.length
      simp only [Array.length_toList] at this
      simp [Builtin.len_, ht, run_und hD, hrun, this]
    · simp at hv
  · simp at hv

def aMax (xs : List AV) : Option AV :=
  match xs with
  | .int k x :: rest => rest.foldlM (fun a y => match a, y with | .int k x, .int _ y => some (.int k (if y > x then y else x)) | _, _ => none) (.int k x)
  | _ => none
def aMin (xs : List AV) : Option AV :=
  match xs with
  | .int k x :: rest => rest.foldlM (fun a y => match a, y with | .int k x, .int _ y => some (.int k (if y < x then y else x)) | _, _ => none) (.int k x)
  | _ => none

theorem run_aMax {xs : List AV} {Xs : Array Value} {v : AV} (hv : aMax xs = some v) (hx : VsRel ρ xs Xs.toList) (ts : Array TypeId) (ty : TypeId) (P : Program) (w : World) :
    ∃ V, (Builtin.max_ ts ty Xs).run P w = .ok V w ∧ VRel ρ v V := by
  unfold aMax at hv
  split at hv
  · rename_i k x rest
    simp only [VsRel] at hx
    obtain ⟨X, Ys, he, hX, hY⟩ := hx
    simp only [Builtin.max_, he]
    clear he
    rw [int_rel hX]
    clear hX
    induction rest generalizing x Ys k with
    | nil => simp only [VsRel] at hY; subst hY; simp at hv; subst hv; exact ⟨.int k x, by simp, by simp only [VRel]⟩
    | cons y rest ih =>
      simp only [VsRel] at hY
      obtain ⟨Y, Zs, rfl, hYr, hZ⟩ := hY
      simp only [List.foldlM_cons, bind, Option.bind_eq_some_iff] at hv
      obtain ⟨a, ha, hrest⟩ := hv
      cases y <;> simp at ha
      subst ha
      obtain ⟨V, hV, hr⟩ := ih _ _ hrest Zs hZ
      rw [int_rel hYr]
      refine ⟨V, ?_, hr⟩
      rw [List.foldlM_cons]
      simp only [Sem.run_bind, Builtin.max2, Sem.run_pure, Result.andThen_ok]
      exact hV
  · simp at hv

theorem run_aMin {xs : List AV} {Xs : Array Value} {v : AV} (hv : aMin xs = some v) (hx : VsRel ρ xs Xs.toList) (ts : Array TypeId) (ty : TypeId) (P : Program) (w : World) :
    ∃ V, (Builtin.min_ ts ty Xs).run P w = .ok V w ∧ VRel ρ v V := by
  unfold aMin at hv
  split at hv
  · rename_i k x rest
    simp only [VsRel] at hx
    obtain ⟨X, Ys, he, hX, hY⟩ := hx
    simp only [Builtin.min_, he]
    clear he
    rw [int_rel hX]
    clear hX
    induction rest generalizing x Ys k with
    | nil => simp only [VsRel] at hY; subst hY; simp at hv; subst hv; exact ⟨.int k x, by simp, by simp only [VRel]⟩
    | cons y rest ih =>
      simp only [VsRel] at hY
      obtain ⟨Y, Zs, rfl, hYr, hZ⟩ := hY
      simp only [List.foldlM_cons, bind, Option.bind_eq_some_iff] at hv
      obtain ⟨a, ha, hrest⟩ := hv
      cases y <;> simp at ha
      subst ha
      obtain ⟨V, hV, hr⟩ := ih _ _ hrest Zs hZ
      rw [int_rel hYr]
      refine ⟨V, ?_, hr⟩
      rw [List.foldlM_cons]
      simp only [Sem.run_bind, Builtin.min2, Sem.run_pure, Result.andThen_ok]
      exact hV
  · simp at hv

end
end Go.Proofs.Ytgcoipcnhmkeaaa.Ax
