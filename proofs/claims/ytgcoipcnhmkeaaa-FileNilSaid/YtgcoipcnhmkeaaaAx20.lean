/- AX, part 20: a program's tables. -/
import Derived.Test.YtgcoipcnhmkeaaaAx19
import Derived.Lib.Bytealg
set_option linter.unusedVariables false
set_option linter.unusedSimpArgs false
namespace Go.Proofs.Ytgcoipcnhmkeaaa.Ax
open Go.RowKit

deriving instance DecidableEq for AKind

def kindOf (P : Program) (t : TypeId) : TypeDesc → AKind
  | .bool => .bool
  | .int k => .int k
  | .string => .str
  | .pointer e => .ptr e
  | .slice e => .slice e
  | .array n e => .array n e
  | .map k v => .map k v
  | .struct F => .struct (F.toList.map fun f => (f.offset, f.type)) ((F.toList.all fun f => f.name != "_") && !P.stoodInHeld t && !P.eqGuardType P.depth t)
  | .func _ _ _ => .func
  | .interface ms => .iface ms.isEmpty
  | .tuple _ => .tuple
  | .unsafePointer => .uptr
  | _ => .other

theorem kindOf_rel (P : Program) (t : TypeId) (d : TypeDesc) : KindRel P t (kindOf P t d) d := by
  cases d with
  | struct F =>
    simp only [kindOf, KindRel]
    refine ⟨F, rfl, rfl, fun h => ?_⟩
    simp only [Bool.and_eq_true, Bool.not_eq_true', List.all_eq_true, bne_iff_ne] at h
    exact ⟨h.1.1, h.1.2, h.2⟩
  | func a b c => exact ⟨a, b, c, rfl⟩
  | interface ms => exact ⟨ms, rfl, rfl⟩
  | tuple ts => exact ⟨ts, rfl⟩
  | _ => simp [kindOf, KindRel]

/-- The cells of a zero value. -/
def zerosOf (agg : Bool) (size : Nat) (z : Value) : Option (List AV) :=
  if agg then match z with
    | .agg vs => if vs.size = size ∧ vs.toList.all (·.oneCell') = true then some (vs.toList.map ofV) else none
    | _ => none
  else if z.oneCell' = true ∧ size = 1 then some [ofV z] else none

def tyOf (P : Program) (t : TypeId) : Option ATy :=
  match P.info? t, P.underlying t with
  | some i, some d => some { kind := kindOf P t d, size := i.size, bytes := i.bytes, zero := i.zero.bind (zerosOf (kindOf P t d).isAgg i.size) }
  | _, _ => none

theorem tyOf_ok {P : Program} {t : TypeId} {a : ATy} (h : tyOf P t = some a) : TyOK P t a := by
  unfold tyOf at h
  split at h
  · rename_i i d hi hd
    simp at h; subst h
    refine ⟨i, d, hi, hd, rfl, rfl, kindOf_rel P t d, fun zs hz => ?_⟩
    simp only [Option.bind_eq_some_iff] at hz
    obtain ⟨z, hz1, hz2⟩ := hz
    unfold zerosOf at hz2
    split at hz2
    · rename_i hA
      split at hz2
      · rename_i vs
        split at hz2
        · rename_i hc
          simp at hz2; subst hz2
          refine ⟨by simp [hc.1], _, hz1, ?_⟩
          rw [hA]
          refine ⟨vs, rfl, VsRel.map _ fun x _ => ofV_rel [] x, fun v hv => ?_⟩
          exact List.all_eq_true.1 hc.2 v hv
        · simp at hz2
      · simp at hz2
    · rename_i hA
      split at hz2
      · rename_i hc
        simp at hz2; subst hz2
        refine ⟨by simp [hc.2], _, hz1, ?_⟩
        have hA' : (kindOf P t d).isAgg = false := by simpa using hA
        rw [hA']
        exact ⟨_, rfl, ofV_rel [] z, hc.1⟩
      · simp at hz2
  · simp at h

def sameTy (a b : ATy) : Bool :=
  decide (a.kind = b.kind) && a.size == b.size && a.bytes == b.bytes && (match a.zero, b.zero with | none, _ => true | some x, some y => sameV.sameVs x y | _, _ => false)

theorem TyOK.same {P : Program} {t : TypeId} {a b : ATy} (h : sameTy a b = true) (hb : TyOK P t b) : TyOK P t a := by
  simp only [sameTy, Bool.and_eq_true, decide_eq_true_eq, beq_iff_eq] at h
  obtain ⟨⟨⟨h1, h2⟩, h3⟩, h4⟩ := h
  obtain ⟨i, d, a1, a2, a3, a4, a5, a6⟩ := hb
  refine ⟨i, d, a1, a2, by rw [h2]; exact a3, by rw [h3]; exact a4, by rw [h1]; exact a5, fun zs hz => ?_⟩
  rw [hz] at h4
  cases hb : b.zero with
  | none => rw [hb] at h4; simp at h4
  | some y =>
    rw [hb] at h4
    have := sameVs_eq _ _ h4
    subst this
    rw [h1, h2]
    exact a6 _ hb

def tabOK (P : Program) (tt : Tr ATy) (n : Nat) : Bool :=
  (List.range n).all fun t => match tt.get t with
    | none => true
    | some a => match tyOf P t with
      | some b => sameTy a b
      | none => false

def fnOK (P : Program) (mask m : Nat) : Bool :=
  decide (mask < 2 ^ m) && (List.range m).all fun f => !mask.testBit f || (match P.funcs[f]? with
    | some F => F.body.isSome && !(F.name == "runtime.NumGoroutine")
    | none => false)

/-- What is known of a program: its types by a table, its functions with a body by a mask. -/
def mkCxE (P : Program) (W0 : World) (tt : Tr ATy) (n mask : Nat) (meth : TypeId → String → Option FuncId) (ext : FuncId → List AV → Option AV) (extE : FuncId → List AV → AH → Option (AV × AH)) : Cx where
  P := P
  W0 := W0
  ty := fun t => if t < n then tt.get t else none
  fn := fun f => if mask.testBit f then P.funcs[f]? else none
  meth := meth
  ext := ext
  extE := extE

def MethOK (P : Program) (meth : TypeId → String → Option FuncId) : Prop := ∀ t n f, meth t n = some f → ∀ v w, (method (P.types.size + Made.depth) t v n).run P w = .ok (f, v) w
def ExtOK (P : Program) (f : FuncId) (e : List AV → Option AV) : Prop := ∀ args v, e args = some v → ∀ (ρ : Rho) (vs : Array Value) w, VsRel ρ args vs.toList → ∃ V, (callFunc f vs).run P w = .ok (.value V) w ∧ VRel ρ v V

def ExtEOK (P : Program) (W0 : World) (extE : FuncId → List AV → AH → Option (AV × AH)) : Prop := ∀ f args h v h', extE f args h = some (v, h') → ∀ (ρ : Rho) (vs : Array Value) W, Rel W0 ρ h W → VsRel ρ args vs.toList →
    ∃ V W' ρ', (callFunc f vs).run P W = .ok (.value V) W' ∧ ρ <+: ρ' ∧ Rel W0 ρ' h' W' ∧ VRel ρ' v V
theorem extE_none {P : Program} {W0 : World} : ExtEOK P W0 (fun _ _ _ => none) := fun _ _ _ _ _ h => by simp at h

theorem mkCxE_ok {P : Program} {W0 : World} {tt : Tr ATy} {n mask m : Nat} {meth : TypeId → String → Option FuncId} {ext : FuncId → List AV → Option AV} {extE : FuncId → List AV → AH → Option (AV × AH)} (h1 : tabOK P tt n = true) (h2 : fnOK P mask m = true)
    (h3 : MethOK P meth) (h4 : ∀ f, ExtOK P f (ext f)) (h5 : ExtEOK P W0 extE) : (mkCxE P W0 tt n mask meth ext extE).OK := by
  refine ⟨fun t a ht => ?_, fun f F hf => ?_, h3, fun f => h4 f, h5⟩
  · simp only [mkCxE] at ht
    split at ht
    · rename_i hlt
      simp only [tabOK, List.all_eq_true, List.mem_range] at h1
      have := h1 t hlt
      rw [ht] at this
      simp only at this
      split at this
      · rename_i b hb
        exact (tyOf_ok hb).same this
      · simp at this
    · simp at ht
  · simp only [mkCxE] at hf
    split at hf
    · rename_i hbit
      simp only [fnOK, Bool.and_eq_true, decide_eq_true_eq, List.all_eq_true, List.mem_range] at h2
      have hfm : f < m := by
        rcases Nat.lt_or_ge f m with h | h
        · exact h
        · have := Nat.testBit_lt_two_pow (Nat.lt_of_lt_of_le h2.1 (Nat.pow_le_pow_right (by omega) h))
          rw [hbit] at this; simp at this
      have := h2.2 f hfm
      rw [hbit, hf] at this
      simp only [Bool.not_true, Bool.false_or, Bool.and_eq_true, Bool.not_eq_true'] at this
      exact ⟨hf, this.1, this.2⟩
    · simp at hf

/-- Without methods and without library functions that have no body. -/
def mkCx (P : Program) (W0 : World) (tt : Tr ATy) (n mask : Nat) : Cx := mkCxE P W0 tt n mask (fun _ _ => none) (fun _ _ => none) (fun _ _ _ => none)
theorem mkCx_ok {P : Program} {W0 : World} {tt : Tr ATy} {n mask m : Nat} (h1 : tabOK P tt n = true) (h2 : fnOK P mask m = true) : (mkCx P W0 tt n mask).OK :=
  mkCxE_ok h1 h2 (fun _ _ _ h => by simp at h) (fun _ _ _ h => by simp at h) extE_none

/-! ### library functions without a body -/
theorem ext_run {P : Program} {f : FuncId} {fn : Func} {e : Array Value → Sem Value} (hf : P.funcs[f]? = some fn) (hname : (fn.name == "runtime.NumGoroutine") = false) (hb : fn.body.isNone = true) (hn : Extern.findNext fn = none)
    (he : Extern.find fn = some e) {vs : Array Value} {V : Value} {w : World} (hr : (e vs).run P w = .ok V w) : (callFunc f vs).run P w = .ok (.value V) w := by
  rw [run_callFunc_extern hf hname hb hn he, hr]; rfl

def countA : List AV → Option AV
  | [.str s, .int .u8 c] => some (.int .i64 (Lib.countByte s c.toNat.toUInt8))
  | _ => none
def indexByteA : List AV → Option AV
  | [.str s, .int .u8 c] => some (.int .i64 (Lib.indexByte s c.toNat.toUInt8))
  | _ => none

theorem str_byte {ρ : Rho} {s : List UInt8} {c : Int} {vs : Array Value} (h : VsRel ρ [.str s, .int .u8 c] vs.toList) : vs = #[.string ⟨s.toArray⟩, .int .u8 c] := by
  simp only [VsRel] at h
  obtain ⟨V1, r1, h1, h2, V2, r2, h3, h4, h5⟩ := h
  have e1 := str_rel h2
  have e2 := int_rel h4
  subst h5
  rw [h3] at h1
  rw [e1, e2] at h1
  exact Array.toList_inj.1 (by rw [h1])

theorem ext_count {P : Program} {f : FuncId} {fn : Func} (hf : P.funcs[f]? = some fn) (hname : (fn.name == "runtime.NumGoroutine") = false) (hb : fn.body.isNone = true) (hn : Extern.findNext fn = none)
    (he : Extern.find fn = some Extern.BytealgCount.count) : ExtOK P f countA := by
  intro args v hv ρ vs w hr
  unfold countA at hv
  split at hv
  · rename_i s c
    simp at hv; subst hv
    rw [str_byte hr]
    refine ⟨_, ext_run hf hname hb hn he (Lib.run_countString _ _ w), ?_⟩
    simp [VRel]
  · simp at hv
theorem ext_indexByte {P : Program} {f : FuncId} {fn : Func} (hf : P.funcs[f]? = some fn) (hname : (fn.name == "runtime.NumGoroutine") = false) (hb : fn.body.isNone = true) (hn : Extern.findNext fn = none)
    (he : Extern.find fn = some Extern.BytealgIndexByte.indexByte) : ExtOK P f indexByteA := by
  intro args v hv ρ vs w hr
  unfold indexByteA at hv
  split at hv
  · rename_i s c
    simp at hv; subst hv
    rw [str_byte hr]
    refine ⟨_, ext_run hf hname hb hn he (Lib.run_indexByteString _ _ w), ?_⟩
    simp [VRel]
  · simp at hv

def sameA : List AV → Option AV
  | [x] => some x
  | _ => none
theorem ext_same {P : Program} {f : FuncId} {fn : Func} (hf : P.funcs[f]? = some fn) (hname : (fn.name == "runtime.NumGoroutine") = false) (hb : fn.body.isNone = true) (hn : Extern.findNext fn = none)
    (he : Extern.find fn = some Extern.AbiNoEscape.same) : ExtOK P f sameA := by
  intro args v hv ρ vs w hr
  unfold sameA at hv
  split at hv
  · rename_i x
    simp at hv; subst hv
    simp only [VsRel] at hr
    obtain ⟨X, xs, e1, h1, rfl⟩ := hr
    have ev : vs = #[X] := Array.toList_inj.1 (by rw [e1])
    rw [ev]
    exact ⟨X, ext_run hf hname hb hn he rfl, h1⟩
  · simp at hv

def cmpA : List AV → Option AV
  | [.str s, .str u] => some (.int .i64 (Lib.compareBytes s u))
  | _ => none

theorem str_str {ρ : Rho} {s u : List UInt8} {vs : Array Value} (h : VsRel ρ [.str s, .str u] vs.toList) : vs = #[.string ⟨s.toArray⟩, .string ⟨u.toArray⟩] := by
  simp only [VsRel] at h
  obtain ⟨V1, r1, h1, h2, V2, r2, h3, h4, h5⟩ := h
  have e1 := str_rel h2
  have e2 := str_rel h4
  subst h5
  rw [h3] at h1
  rw [e1, e2] at h1
  exact Array.toList_inj.1 (by rw [h1])

theorem ext_cmp {P : Program} {f : FuncId} {fn : Func} (hf : P.funcs[f]? = some fn) (hname : (fn.name == "runtime.NumGoroutine") = false) (hb : fn.body.isNone = true) (hn : Extern.findNext fn = none)
    (he : Extern.find fn = some Extern.BytealgCompare.compare) : ExtOK P f cmpA := by
  intro args v hv ρ vs w hr
  unfold cmpA at hv
  split at hv
  · rename_i s u
    simp at hv; subst hv
    rw [str_str hr]
    refine ⟨_, ext_run hf hname hb hn he (Lib.run_compareString _ _ w), ?_⟩
    simp [VRel]
  · simp at hv

/-- A map in an interface, once more: the map's entries in a new block. -/
def cloneA : List AV → AH → Option (AV × AH)
  | [.ifc t (.map (some j))], h => match h.get j with
    | some (.map es clock) => some (.ifc t (.map (some h.next)), h.push (.map es clock))
    | _ => none
  | _, _ => none

theorem ext_clone {P : Program} {W0 : World} {f : FuncId} {fn : Func} (hf : P.funcs[f]? = some fn) (hname : (fn.name == "runtime.NumGoroutine") = false) (hb : fn.body.isNone = true) (hn : Extern.findNext fn = none)
    (he : Extern.find fn = some Extern.MapsClone.clone) : ∀ args h v h', cloneA args h = some (v, h') → ∀ (ρ : Rho) (vs : Array Value) W, Rel W0 ρ h W → VsRel ρ args vs.toList →
    ∃ V W' ρ', (callFunc f vs).run P W = .ok (.value V) W' ∧ ρ <+: ρ' ∧ Rel W0 ρ' h' W' ∧ VRel ρ' v V := by
  intro args h v h' hv ρ vs W R hr
  unfold cloneA at hv
  split at hv
  · rename_i t j
    split at hv
    · rename_i es clock hg
      simp at hv
      obtain ⟨rfl, rfl⟩ := hv
      simp only [VsRel, VRel] at hr
      obtain ⟨X, xs, e1, ⟨Y, rfl, r, hr1, rfl⟩, rfl⟩ := hr
      obtain ⟨r', hr2, _, es', hb2, hes⟩ := R.live j _ hg
      rw [hr1] at hr2; cases hr2
      have ev : vs = #[.iface t (.map (some r.b))] := Array.toList_inj.1 (by rw [e1])
      have hp : ρ <+: ρ ++ [⟨W.heap.size, 0, 0⟩] := List.prefix_append _ _
      refine ⟨.iface t (.map (some W.heap.size)), W.alloc (.map es' clock), ρ ++ [⟨W.heap.size, 0, 0⟩], ?_, hp, R.push (.map es clock) (.map es' clock) 0 0 (fun W' hW' => ⟨es', hW', hes.mono hp⟩), ?_⟩
      · rw [run_callFunc_extern hf hname hb hn he, ev]
        have hc : Extern.MapsClone.clone #[.iface t (.map (some r.b))] = (do
            match ← getObj r.b with
            | .map entries clock => do
              let x ← newObj (.map entries clock)
              pure (.iface t (.map (some x)))
            | _ => stuck "maps.clone: a map expected") := rfl
        rw [hc]
        have g1 : (getObj r.b).run P W = .ok (.map es' clock) W := by simp [getObj, Sem.run, hb2]
        simp only [Sem.run_bind, g1, Result.andThen_ok, run_newObj, Sem.run_pure]; rfl
      · simp only [VRel]
        exact ⟨_, rfl, ⟨W.heap.size, 0, 0⟩, by rw [← R.len]; simp, rfl⟩
    · simp at hv
  · simp at hv

/-- At the start nothing is our own. -/
theorem rel_start (W : World) : Rel W [] AH.empty W :=
  ⟨Below.refl _ _, rfl, fun k o hk => by simp at hk, fun k k' o o' r r' hk => by simp at hk, fun r hr => by simp at hr⟩

/-- A call that is made in a world: what comes of it. -/
theorem calls_of_acallE {C : Cx} {P : Program} {W : World} {f : FuncId} {args : List AV} {vs : Array Value} (hP : C.P = P) (hW : C.W0 = W) (ha : VsRel [] args vs.toList)
    (hc : ACall C f args AH.empty (fun v _ => v = .bool true) (fun _ _ => False)) : Calls P f vs W fun e w' => e = .returned (.bool true) ∧ Below W.heap.size W w' := by
  subst hP; subst hW
  refine (hc [] C.W0 vs (rel_start C.W0) ha).mono fun e w' he => ?_
  cases e with
  | returned V =>
    obtain ⟨ρ', v, h', _, hR, hr, rfl⟩ := he
    exact ⟨by rw [bool_rel hr], hR.below⟩
  | panicked chain =>
    obtain ⟨_, _, _, _, _, _, _, _, hf⟩ := he
    exact hf.elim
  | outgrown => exact he.elim

theorem calls_of_acall {P : Program} {W : World} {tt : Tr ATy} {n mask : Nat} {f : FuncId} {args : List AV} {vs : Array Value} (ha : VsRel [] args vs.toList)
    (hc : ACall (mkCx P W tt n mask) f args AH.empty (fun v _ => v = .bool true) (fun _ _ => False)) : Calls P f vs W fun e w' => e = .returned (.bool true) ∧ Below W.heap.size W w' :=
  calls_of_acallE rfl rfl ha hc

end Go.Proofs.Ytgcoipcnhmkeaaa.Ax
