/- AX, part 9: all operations that change no memory, in one. -/
import Derived.Test.YtgcoipcnhmkeaaaAx8
set_option linter.unusedVariables false
set_option linter.unusedSimpArgs false
namespace Go.Proofs.Ytgcoipcnhmkeaaa.Ax
open Go.RowKit

section
variable {C : Cx} {ρ : Rho} {h : AH} {W : World}

theorem run_aAssert (ok : C.OK) {x v : AV} {X : Value} {xt t : TypeId} {b : Bool} (hv : aAssert C x t b = some v) (hx : VRel ρ x X) (w : World) :
    ∃ V, (Instr.typeAssert X xt t b).run C.P w = .ok V w ∧ VRel ρ v V := by
  have zeroTup : ∀ v, (aZero C t).map (fun z => AV.tup [z, .bool false]) = some v → ∃ V, (do pure (.tuple #[← zeroValue t, .bool false]) : Sem Value).run C.P w = .ok V w ∧ VRel ρ v V := by
    intro v hv
    simp only [Option.map_eq_some_iff] at hv
    obtain ⟨z, hz, rfl⟩ := hv
    obtain ⟨Z, hZ, hzr⟩ := run_aZero (ρ := ρ) ok hz w
    exact ⟨.tuple #[Z, .bool false], by simp [hZ], by simp only [VRel]; exact ⟨_, rfl, by simp [VsRel, VRel, hzr]⟩⟩
  unfold aAssert at hv
  split at hv
  · simp at hv
  · rename_i bare hk
    split at hv
    · rename_i hb
      obtain ⟨D, hD, hr⟩ := kind_und ok hk (by simp)
      simp only [KindRel] at hr
      obtain ⟨ms, rfl, _⟩ := hr
      simp only [VRel] at hx; subst hx
      obtain ⟨V, hV, hr⟩ := zeroTup v hv
      refine ⟨V, ?_, hr⟩
      rw [← hV]
      simp [Instr.typeAssert, run_und hD, hb]
    · simp at hv
  · simp at hv
  · rename_i k1 hk1 hk2
    split at hv
    · rename_i hb
      obtain ⟨D, hD, hr⟩ := kind_und ok (rfl : C.kind t = C.kind t) hk1
      simp only [VRel] at hx; subst hx
      obtain ⟨V, hV, hr'⟩ := zeroTup v hv
      refine ⟨V, ?_, hr'⟩
      rw [← hV]
      have hnd : ∀ ms, D ≠ .interface ms := by
        intro ms e
        subst e
        cases hkk : C.kind t <;> rw [hkk] at hr <;> simp [KindRel] at hr
        · exact hk2 _ hkk
        · exact hk1 hkk
      cases D <;> first | exact absurd rfl (hnd _) | simp [Instr.typeAssert, run_und hD, hb]
    · simp at hv
  · rename_i k1 t' v' hk1 hk2
    obtain ⟨D, hD, hr⟩ := kind_und ok (rfl : C.kind t = C.kind t) hk1
    simp only [VRel] at hx
    obtain ⟨V', rfl, hv'⟩ := hx
    have hnd : ∀ ms, D ≠ .interface ms := by
      intro ms e
      subst e
      cases hkk : C.kind t <;> rw [hkk] at hr <;> simp [KindRel] at hr
      · exact hk2 _ hkk
      · exact hk1 hkk
    split at hv
    · rename_i he
      subst he
      simp at hv; subst hv
      refine ⟨if b then .tuple #[V', .bool true] else V', ?_, ?_⟩
      · cases D <;> first | exact absurd rfl (hnd _) | (simp [Instr.typeAssert, run_und hD])
      · cases b
        · exact hv'
        · simp only [if_true, VRel]; exact ⟨_, rfl, by simp [VsRel, VRel, hv']⟩
    · rename_i hne
      split at hv
      · rename_i hb
        obtain ⟨V, hV, hr'⟩ := zeroTup v hv
        refine ⟨V, ?_, hr'⟩
        rw [← hV]
        cases D <;> first | exact absurd rfl (hnd _) | simp [Instr.typeAssert, run_und hD, hb, hne]
      · simp at hv
  · simp at hv

def aNilCheck : AV → Option AV
  | .ptr (some a) => some (.ptr (some a))
  | .ifc t v => some (.ifc t v)
  | .fn (.func f) xs ys => some (.fn (.func f) xs ys)
  | .fn (.via t p f b) xs ys => some (.fn (.via t p f b) xs ys)
  | _ => none

def aSliceData : AV → Option AV
  | .sl none _ _ _ => some (.ptr none)
  | .sl (some a) _ cap _ => if cap = 0 then none else some (.ptr (some a))
  | _ => none

theorem run_aSliceData {x v : AV} {X : Value} (hv : aSliceData x = some v) (hx : VRel ρ x X) (ts : Array TypeId) (ty : TypeId) (P : Program) (w : World) : ∃ V, (Builtin.unsafeSliceData_ ts ty #[X]).run P w = .ok V w ∧ VRel ρ v V := by
  unfold aSliceData at hv
  split at hv
  · simp at hv; subst hv
    simp only [VRel] at hx
    obtain ⟨_, _, _, rfl⟩ := hx
    exact ⟨_, Lib.run_unsafeSliceData_nil w ts ty 0 0, by simp [VRel]⟩
  · rename_i a len cap gr
    split at hv
    · simp at hv
    · rename_i hc
      simp at hv; subst hv
      have : ∃ A c, X = .slice (some A) len c ∧ ARel ρ a A ∧ c ≠ 0 := by
        cases a with
        | base b o => simp only [VRel] at hx; exact ⟨_, _, hx.2, rfl, hc⟩
        | new k o =>
          simp only [VRel] at hx
          obtain ⟨r, A, c, hr, h1, h2, h3, h4, h5⟩ := hx
          rcases h5 with ⟨h5, _⟩ | h5
          · exact ⟨A, c, h1, ⟨r, hr, h5⟩, by omega⟩
          · omega
      obtain ⟨A, c, rfl, hA, hc0⟩ := this
      exact ⟨_, Lib.run_unsafeSliceData_row w ts ty A len c hc0, by simp only [VRel]; exact ⟨A, hA, rfl⟩⟩
  · simp at hv

/-- An operation that changes no memory, at a valuation of its operands. -/
def evalN (C : Cx) (o : Oper) (g : Operand → AV) (h : AH) : Option AV :=
  match o.op with
  | .move x | .assign x => some (g x)
  | .pick c a b => match g c with | .bool t => some (if t then g a else g b) | _ => none
  | .build t ps => aBuild C t (ps.toList.map fun p => (p.1, g p.2))
  | .load t a => match g a with | .ptr (some a) => aLoad C h t a | _ => none
  | .nilCheck x => aNilCheck (g x)
  | .binOp op t x y _ => aBin C op t x y (g x) (g y)
  | .unOp op _ x => aUn op (g x)
  | .convert s d x => aConv C h s d (g x)
  | .makeInterface t x => match C.kind t with | .other => none | .iface _ => none | _ => some (.ifc t (g x))
  | .makeFunc f fs cs => some (.fn f (fs.toList.map g) (cs.toList.map g))
  | .slice t x lo hi mx => aSlice C t (g x) (lo.map g) (hi.map g) (mx.map g)
  | .fieldAddr s x f => aFieldAddr C s (g x) f
  | .field s x f => aField C s (g x) f
  | .indexAddr t x i => aIndexAddr C t (g x) (g i)
  | .index t x i => aIndex C t (g x) (g i)
  | .lookup t m k ok => aLookup C h t (g m) (g k) ok
  | .extract t i => aExtract (g t) i
  | .typeAssert x _ a ok => aAssert C (g x) a ok
  | .call c => match c.callee with
    | .builtin .len => match c.argTypes[0]?, c.args.toList with
      | some t, [x] => aLen C h t (g x)
      | _, _ => none
    | .builtin .unsafeSliceData => match c.args.toList with
      | [x] => aSliceData (g x)
      | _ => none
    | .builtin .max => aMax (c.args.toList.map g)
    | .builtin .min => aMin (c.args.toList.map g)
    | .value f => match g f with
      | .fn (.func fid) xs ys => C.ext fid (xs ++ c.args.toList.map g ++ ys)
      | _ => none
    | _ => none
  | _ => none

theorem VsRel.map_ops {g : Operand → AV} {A : Operand → Value} : ∀ (l : List Operand), (∀ x ∈ l, VRel ρ (g x) (A x)) → VsRel ρ (l.map g) (l.map A)
  | [], _ => by simp [VsRel]
  | x :: l, h => by
    simp only [List.map_cons, VsRel]
    exact ⟨_, _, rfl, h x (by simp), VsRel.map_ops l fun y hy => h y (by simp [hy])⟩

theorem optRel_map {g : Operand → AV} {A : Operand → Value} (x : Option Operand) (h : ∀ y, x = some y → VRel ρ (g y) (A y)) : OptRel ρ (x.map g) (x.map A) := by
  cases x with
  | none => trivial
  | some y => exact h y rfl

theorem evalN_sound (ok : C.OK) (R : Rel C.W0 ρ h W) {o : Oper} {g : Operand → AV} {A : Operand → Value} {v : AV} (hg : ∀ x ∈ o.op.operands.toList, VRel ρ (g x) (A x)) (hv : evalN C o g h = some v) :
    ∃ V, (execOp A o).run C.P W = .ok (.value V) W ∧ VRel ρ v V := by
  unfold evalN at hv
  split at hv
  all_goals first | (rename_i heq; rw [heq] at hg) | skip
  · simp at hv; subst hv
    exact ⟨_, by simp only [execOp, heq]; rfl, hg _ (by simp [Op.operands])⟩
  · simp at hv; subst hv
    exact ⟨_, by simp only [execOp, heq]; rfl, hg _ (by simp [Op.operands])⟩
  · rename_i c a b
    split at hv
    · rename_i t ht
      simp at hv; subst hv
      have hc := hg c (by simp [Op.operands])
      rw [ht] at hc
      refine ⟨if t then A a else A b, ?_, ?_⟩
      · simp [execOp, heq, bool_rel hc, asBool]
      · cases t
        · exact hg b (by simp [Op.operands])
        · exact hg a (by simp [Op.operands])
    · simp at hv
  · rename_i t ps
    obtain ⟨V, hV, hr⟩ := run_aBuild (parts' := ps.map fun (i, x) => (i, A x)) ok hv (by simp [Function.comp_def]) (by
      have := VsRel.map_ops (ρ := ρ) (g := g) (A := A) (ps.toList.map (·.2)) (fun x hx => hg x (by simpa [Op.operands] using hx))
      simpa [Function.comp_def] using this) W
    exact ⟨V, by simp [execOp, heq, hV], hr⟩
  · rename_i t a
    split at hv
    · rename_i aa ha
      have h1 := hg a (by simp [Op.operands])
      rw [ha] at h1
      simp only [VRel] at h1
      obtain ⟨AA', hA, hAe⟩ := h1
      obtain ⟨V, hV, hr⟩ := run_aLoad ok R hA hv
      exact ⟨V, by simp [execOp, heq, Instr.loadAt, hAe, Instr.sureAddr, hV], hr⟩
    · simp at hv
  · rename_i x
    have h1 := hg x (by simp [Op.operands])
    unfold aNilCheck at hv
    split at hv
    · rename_i aa ha
      simp at hv; subst hv
      rw [ha] at h1
      have h1' := h1
      simp only [VRel] at h1
      obtain ⟨AA', hA, hAe⟩ := h1
      rw [hAe] at h1'
      exact ⟨_, by simp only [execOp, heq, hAe]; rfl, h1'⟩
    · rename_i t' v' ha
      simp at hv; subst hv
      rw [ha] at h1
      have h1' := h1
      simp only [VRel] at h1
      obtain ⟨V', hAe, _⟩ := h1
      rw [hAe] at h1'
      exact ⟨_, by simp only [execOp, heq, hAe]; rfl, h1'⟩
    · rename_i f xs ys ha
      simp at hv; subst hv
      rw [ha] at h1
      have h1' := h1
      simp only [VRel] at h1
      obtain ⟨vs, ws, hAe, _⟩ := h1
      rw [hAe] at h1'
      exact ⟨_, by simp only [execOp, heq, hAe]; rfl, h1'⟩
    · rename_i t' p f b' xs ys ha
      simp at hv; subst hv
      rw [ha] at h1
      have h1' := h1
      simp only [VRel] at h1
      obtain ⟨vs, ws, hAe, _⟩ := h1
      rw [hAe] at h1'
      exact ⟨_, by simp only [execOp, heq, hAe]; rfl, h1'⟩
    · simp at hv
  · rename_i op t x y yt
    obtain ⟨V, hV, hr⟩ := run_aBin ok hv (hg x (by simp [Op.operands])) (hg y (by simp [Op.operands])) W
    exact ⟨V, by simp only [execOp, heq, Sem.run_bind, hV, Result.andThen_ok, Sem.run_pure], hr⟩
  · rename_i op t x
    obtain ⟨V, hV, hr⟩ := run_aUn hv (hg x (by simp [Op.operands])) C.P W
    exact ⟨V, by simp only [execOp, heq, Sem.run_bind, hV, Result.andThen_ok, Sem.run_pure], hr⟩
  · rename_i s d x
    obtain ⟨V, hV, hr⟩ := run_aConv ok R hv (hg x (by simp [Op.operands]))
    exact ⟨V, by simp only [execOp, heq, Sem.run_bind, hV, Result.andThen_ok, Sem.run_pure], hr⟩
  · rename_i t x
    have hx := hg x (by simp [Op.operands])
    split at hv
    · simp at hv
    · simp at hv
    · rename_i hk1 hk2
      simp at hv; subst hv
      obtain ⟨D, hD, hr⟩ := kind_und ok (rfl : C.kind t = C.kind t) hk1
      have hnd : ∀ ms, D ≠ .interface ms := by
        intro ms e
        subst e
        cases hkk : C.kind t <;> rw [hkk] at hr <;> simp [KindRel] at hr
        · exact hk2 _ hkk
        · exact hk1 hkk
      refine ⟨.iface t (A x), ?_, by simp only [VRel]; exact ⟨_, rfl, hx⟩⟩
      cases D <;> first | exact absurd rfl (hnd _) | simp [execOp, heq, Instr.makeInterface, run_und hD]
  · rename_i f fs cs
    simp at hv; subst hv
    refine ⟨.func f (fs.map A) (cs.map A), by simp only [execOp, heq, Instr.makeFunc]; rfl, ?_⟩
    simp only [VRel]
    refine ⟨_, _, rfl, ?_, ?_⟩
    · simpa using VsRel.map_ops (ρ := ρ) (g := g) (A := A) fs.toList (fun x hx => hg x (by simp [Op.operands]; left; simpa using hx))
    · simpa using VsRel.map_ops (ρ := ρ) (g := g) (A := A) cs.toList (fun x hx => hg x (by simp [Op.operands]; right; simpa using hx))
  · rename_i t x lo hi mx
    obtain ⟨V, hV, hr⟩ := run_aSlice (lo' := lo.map A) (hi' := hi.map A) (mx' := mx.map A) ok hv (hg x (by simp [Op.operands]))
      (optRel_map lo fun y hy => hg y (by subst hy; simp [Op.operands])) (optRel_map hi fun y hy => hg y (by subst hy; simp [Op.operands])) (optRel_map mx fun y hy => hg y (by subst hy; simp [Op.operands])) W
    exact ⟨V, by simp only [execOp, heq, Sem.run_bind, hV, Result.andThen_ok, Sem.run_pure], hr⟩
  · rename_i s x f
    obtain ⟨V, hV, hr⟩ := run_aFieldAddr ok hv (hg x (by simp [Op.operands])) W
    exact ⟨V, by simp only [execOp, heq, Sem.run_bind, hV, Result.andThen_ok, Sem.run_pure], hr⟩
  · rename_i s x f
    obtain ⟨V, hV, hr⟩ := run_aField ok hv (hg x (by simp [Op.operands])) W
    exact ⟨V, by simp only [execOp, heq, Sem.run_bind, hV, Result.andThen_ok, Sem.run_pure], hr⟩
  · rename_i t x i
    obtain ⟨V, hV, hr⟩ := run_aIndexAddr ok hv (hg x (by simp [Op.operands])) (hg i (by simp [Op.operands])) W
    exact ⟨V, by simp only [execOp, heq, Sem.run_bind, hV, Result.andThen_ok, Sem.run_pure], hr⟩
  · rename_i t x i
    obtain ⟨V, hV, hr⟩ := run_aIndex ok hv (hg x (by simp [Op.operands])) (hg i (by simp [Op.operands])) W
    exact ⟨V, by simp only [execOp, heq, Sem.run_bind, hV, Result.andThen_ok, Sem.run_pure], hr⟩
  · rename_i t m k b
    obtain ⟨V, hV, hr⟩ := run_aLookup ok R hv (hg m (by simp [Op.operands])) (hg k (by simp [Op.operands]))
    exact ⟨V, by simp only [execOp, heq, Sem.run_bind, hV, Result.andThen_ok, Sem.run_pure], hr⟩
  · rename_i t i
    obtain ⟨V, hV, hr⟩ := run_aExtract hv (hg t (by simp [Op.operands])) C.P W
    exact ⟨V, by simp only [execOp, heq, Sem.run_bind, hV, Result.andThen_ok, Sem.run_pure], hr⟩
  · rename_i x xt t b
    obtain ⟨V, hV, hr⟩ := run_aAssert (xt := xt) ok hv (hg x (by simp [Op.operands])) W
    exact ⟨V, by simp only [execOp, heq, Sem.run_bind, hV, Result.andThen_ok, Sem.run_pure], hr⟩
  · rename_i c
    have hops : ∀ x ∈ c.args.toList, VRel ρ (g x) (A x) := fun x hx => hg x (by simp [Op.operands, Call.operands]; right; simpa using hx)
    have hargs := VsRel.map_ops (ρ := ρ) (g := g) (A := A) c.args.toList hops
    split at hv
    · rename_i hcal
      split at hv
      · rename_i t x ht hx
        obtain ⟨V, hV, hr⟩ := run_aLen ok R hv (hops x (by rw [hx]; simp)) o.type c.argTypes ht
        have ha : c.args.map A = #[A x] := by
          have : c.args = #[x] := by rw [← Array.toArray_toList (xs := c.args), hx]
          rw [this]; simp
        exact ⟨V, by simp only [execOp, heq, resolve, hcal, pure_bind, invoke, builtin, ha, Sem.run_bind, hV, Result.andThen_ok, Sem.run_pure], hr⟩
      · simp at hv
    · rename_i hcal
      split at hv
      · rename_i x hx
        obtain ⟨V, hV, hr⟩ := run_aSliceData hv (hops x (by rw [hx]; simp)) c.argTypes o.type C.P W
        have ha : c.args.map A = #[A x] := by
          have : c.args = #[x] := by rw [← Array.toArray_toList (xs := c.args), hx]
          rw [this]; simp
        exact ⟨V, by simp only [execOp, heq, resolve, hcal, pure_bind, invoke, builtin, ha, Sem.run_bind, hV, Result.andThen_ok, Sem.run_pure], hr⟩
      · simp at hv
    · rename_i hcal
      obtain ⟨V, hV, hr⟩ := run_aMax (Xs := c.args.map A) hv (by simpa using hargs) c.argTypes o.type C.P W
      exact ⟨V, by simp only [execOp, heq, resolve, hcal, pure_bind, invoke, builtin, Sem.run_bind, hV, Result.andThen_ok, Sem.run_pure], hr⟩
    · rename_i hcal
      obtain ⟨V, hV, hr⟩ := run_aMin (Xs := c.args.map A) hv (by simpa using hargs) c.argTypes o.type C.P W
      exact ⟨V, by simp only [execOp, heq, resolve, hcal, pure_bind, invoke, builtin, Sem.run_bind, hV, Result.andThen_ok, Sem.run_pure], hr⟩
    · rename_i fo hcal
      split at hv
      · rename_i fid xs ys hgf
        have hfo := hg fo (by simp [Op.operands, Call.operands, hcal])
        rw [hgf] at hfo
        simp only [VRel] at hfo
        obtain ⟨us, ws, hA, h1, h2⟩ := hfo
        obtain ⟨V, hV, hr⟩ := ok.ext _ _ _ hv ρ (us ++ c.args.map A ++ ws) W (by
          simp only [Array.toList_append]
          have := (h1.append (show VsRel ρ (c.args.toList.map g) (c.args.map A).toList by simpa using hargs)).append h2
          simpa using this)
        rw [Array.append_assoc] at hV
        exact ⟨V, by simp [execOp, heq, resolve, hcal, hA, Deferred.ofValue, invoke, hV], hr⟩
      · simp at hv
    · simp at hv
  · simp at hv

end
end Go.Proofs.Ytgcoipcnhmkeaaa.Ax
