/- AX, part 2: the types' table; the operations that change no memory. -/
import Derived.Test.YtgcoipcnhmkeaaaAx1
import Derived.Laws.Strings
import Derived.Laws.Entries
set_option linter.unusedVariables false
set_option linter.unusedSimpArgs false
namespace Go.Proofs.Ytgcoipcnhmkeaaa.Ax
open Go.RowKit

inductive AKind where
  | bool
  | int (k : IntKind)
  | str
  | ptr (e : TypeId)
  | slice (e : TypeId)
  | array (n : Nat) (e : TypeId)
  | map (k v : TypeId)
  | struct (fs : List (Nat × TypeId)) (plain : Bool)
  | func
  | iface (bare : Bool)
  | tuple
  | uptr
  | other

structure ATy where
  kind : AKind
  size : Nat
  bytes : Nat
  zero : Option (List AV)

def AKind.isAgg : AKind → Bool
  | .struct _ _ | .array _ _ => true
  | _ => false

def AKind.isOther : AKind → Bool
  | .other => true
  | _ => false

def KindRel (P : Program) (t : TypeId) : AKind → TypeDesc → Prop
  | .bool, d => d = .bool
  | .int k, d => d = .int k
  | .str, d => d = .string
  | .ptr e, d => d = .pointer e
  | .slice e, d => d = .slice e
  | .array n e, d => d = .array n e
  | .map k v, d => d = .map k v
  | .struct fs plain, d => ∃ F, d = .struct F ∧ F.toList.map (fun f => (f.offset, f.type)) = fs ∧
      (plain = true → (∀ f ∈ F.toList, f.name ≠ "_") ∧ P.stoodInHeld t = false ∧ P.eqGuardType P.depth t = false)
  | .func, d => ∃ a b c, d = .func a b c
  | .iface bare, d => ∃ ms, d = .interface ms ∧ bare = ms.isEmpty
  | .tuple, d => ∃ ts, d = .tuple ts
  | .uptr, d => d = .unsafePointer
  | .other, _ => True

/-- The zero value's cells, and its form. -/
def ZeroRel (agg : Bool) (zs : List AV) (z : Value) : Prop :=
  match agg with
  | true => ∃ vs, z = .agg vs ∧ VsRel [] zs vs.toList ∧ ∀ v ∈ vs.toList, v.oneCell' = true
  | false => ∃ v, zs = [v] ∧ VRel [] v z ∧ z.oneCell' = true

def TyOK (P : Program) (t : TypeId) (a : ATy) : Prop :=
  ∃ i d, P.info? t = some i ∧ P.underlying t = some d ∧ i.size = a.size ∧ i.bytes = a.bytes ∧ KindRel P t a.kind d ∧
    (∀ zs, a.zero = some zs → zs.length = a.size ∧ ∃ z, i.zero = some z ∧ ZeroRel a.kind.isAgg zs z)

/-- A program, the world at the call, what is known of types, functions and methods. -/
structure Cx where
  P : Program
  W0 : World
  ty : TypeId → Option ATy
  fn : FuncId → Option Func
  meth : TypeId → String → Option FuncId
  ext : FuncId → List AV → Option AV
  extE : FuncId → List AV → AH → Option (AV × AH)

structure Cx.OK (C : Cx) : Prop where
  ty : ∀ t a, C.ty t = some a → TyOK C.P t a
  fn : ∀ f F, C.fn f = some F → C.P.funcs[f]? = some F ∧ F.body.isSome = true ∧ (F.name == "runtime.NumGoroutine") = false
  meth : ∀ t n f, C.meth t n = some f → ∀ v w, (method (C.P.types.size + Made.depth) t v n).run C.P w = .ok (f, v) w
  ext : ∀ f args v, C.ext f args = some v → ∀ (ρ : Rho) (vs : Array Value) w, VsRel ρ args vs.toList → ∃ V, (callFunc f vs).run C.P w = .ok (.value V) w ∧ VRel ρ v V
  extE : ∀ f args h v h', C.extE f args h = some (v, h') → ∀ (ρ : Rho) (vs : Array Value) W, Rel C.W0 ρ h W → VsRel ρ args vs.toList →
    ∃ V W' ρ', (callFunc f vs).run C.P W = .ok (.value V) W' ∧ ρ <+: ρ' ∧ Rel C.W0 ρ' h' W' ∧ VRel ρ' v V

def Cx.kind (C : Cx) (t : TypeId) : AKind := ((C.ty t).map (·.kind)).getD .other
def Cx.size (C : Cx) (t : TypeId) : Option Nat := (C.ty t).map (·.size)
def Cx.zero (C : Cx) (t : TypeId) : Option (List AV) := (C.ty t).bind (·.zero)

section
variable {C : Cx} (ok : C.OK) {t : TypeId}

theorem kind_und (ok : C.OK) {k : AKind} (h : C.kind t = k) (hk : k ≠ .other) : ∃ d, C.P.underlying t = some d ∧ KindRel C.P t k d := by
  unfold Cx.kind at h
  cases ht : C.ty t with
  | none => rw [ht] at h; simp at h; exact absurd h.symm hk
  | some a =>
    rw [ht] at h; simp at h
    obtain ⟨i, d, _, hu, _, _, hkr, _⟩ := ok.ty t a ht
    exact ⟨d, hu, h ▸ hkr⟩

theorem run_und {P : Program} {t : TypeId} {d : TypeDesc} (h : P.underlying t = some d) (w : World) : (underlying t).run P w = .ok d w := Go.run_underlying h w

theorem run_sizeOf' (ok : C.OK) {n : Nat} (h : C.size t = some n) (w : World) : (sizeOf t).run C.P w = .ok n w := by
  unfold Cx.size at h
  cases ht : C.ty t with
  | none => rw [ht] at h; simp at h
  | some a =>
    rw [ht] at h; simp at h
    obtain ⟨i, d, hi, _, hs, _⟩ := ok.ty t a ht
    simp [sizeOf, typeInfo, hi, hs, h]

theorem run_isAgg' (ok : C.OK) {k : AKind} (h : C.kind t = k) (hk : k ≠ .other) (w : World) : (isAgg t).run C.P w = .ok k.isAgg w := by
  obtain ⟨d, hd, hr⟩ := kind_und ok h hk
  simp only [isAgg, Sem.run_bind, run_und hd, Result.andThen_ok]
  cases k <;> simp only [KindRel] at hr <;> first
    | (subst hr; rfl)
    | (obtain ⟨F, rfl, _⟩ := hr; rfl)
    | (obtain ⟨a, b, c, rfl⟩ := hr; rfl)
    | (obtain ⟨ts, rfl⟩ := hr; rfl)
    | exact absurd rfl hk

/-- A whole value out of its cells. -/
def ofCells (k : AKind) (cs : List AV) : AV := if k.isAgg then .agg cs else cs.headD .bad
end

/-! ### operands, environments -/

abbrev Env := List AV

structure ERel (ρ : Rho) (e : Env) (a : Act) : Prop where
  defers : a.defers = []
  vals : VsRel ρ e a.tmps.toList

theorem ERel.mono {ρ ρ' : Rho} {e : Env} {a : Act} (h : ρ <+: ρ') (r : ERel ρ e a) : ERel ρ' e a := ⟨r.defers, VsRel.mono h _ _ r.vals⟩

def ev (e : Env) : Operand → AV
  | .tmp t => e.getD t .undef
  | .const v => ofV v
  | .global g => .ptr (some (.base g 0))
  | .func f => .fn (.func f) [] []

theorem undef_rel (ρ : Rho) : VRel ρ AV.undef undef := by simp [VRel, VsRel, undef]

theorem VsRel.getD {ρ : Rho} {e : List AV} {l : List Value} (h : VsRel ρ e l) (t : Nat) : VRel ρ (e.getD t .undef) (l.getD t undef) := by
  simp only [List.getD_eq_getElem?_getD]
  cases he : e[t]? with
  | none =>
    have : l[t]? = none := by rw [List.getElem?_eq_none_iff] at he ⊢; rw [h.length]; exact he
    rw [this]; exact undef_rel ρ
  | some v =>
    obtain ⟨V, hV, hr⟩ := h.get t v he
    rw [hV]; exact hr

theorem ev_rel {ρ : Rho} {e : Env} {a : Act} (h : ERel ρ e a) (x : Operand) : VRel ρ (ev e x) (a.eval x) := by
  cases x with
  | tmp t =>
    have := h.vals.getD t
    simp only [ev, Act.eval]
    rw [show a.tmps.getD t undef = a.tmps.toList.getD t undef from by simp [Array.getD_eq_getD_getElem?, List.getD_eq_getElem?_getD]]
    exact this
  | const v => exact ofV_rel ρ v
  | global g => simp [ev, Act.eval, VRel, ARel]
  | func f => simp [ev, Act.eval, VRel, VsRel]

def putE (e : Env) (dst : Option Tmp) (v : AV) : Env :=
  match dst with
  | some d => e.set d v
  | none => e

theorem put_rel {ρ : Rho} {e : Env} {a : Act} (h : ERel ρ e a) (dst : Option Tmp) {v : AV} {V : Value} (hv : VRel ρ v V) : ERel ρ (putE e dst v) (a.put dst V) := by
  cases dst with
  | none => exact h
  | some d => exact ⟨h.defers, by simpa [Act.put, putE] using h.vals.set d hv⟩

/-! ### arithmetic -/

def aInt (op : BinOp) (k : IntKind) (x y : Int) : Option AV :=
  match op with
  | .add => some (.int k (k.wrap (x + y)))
  | .sub => some (.int k (k.wrap (x - y)))
  | .mul => some (.int k (k.wrap (x * y)))
  | .quo => if y = 0 then none else some (.int k (k.wrap (x.tdiv y)))
  | .rem => if y = 0 then none else some (.int k (x.tmod y))
  | .and => some (.int k (k.wrap (BitVec.ofInt k.bits x &&& BitVec.ofInt k.bits y).toNat))
  | .or => some (.int k (k.wrap (BitVec.ofInt k.bits x ||| BitVec.ofInt k.bits y).toNat))
  | .xor => some (.int k (k.wrap (BitVec.ofInt k.bits x ^^^ BitVec.ofInt k.bits y).toNat))
  | .andNot => some (.int k (k.wrap (BitVec.ofInt k.bits x &&& ~~~ BitVec.ofInt k.bits y).toNat))
  | .eql => some (.bool (x == y))
  | .neq => some (.bool (x != y))
  | .lss => some (.bool (decide (x < y)))
  | .leq => some (.bool (decide (x ≤ y)))
  | .gtr => some (.bool (decide (y < x)))
  | .geq => some (.bool (decide (y ≤ x)))
  | _ => none

def aShift (op : BinOp) (k : IntKind) (x y : Int) : Option AV :=
  if y < 0 then none else
  match op with
  | .shl => some (.int k (k.wrap (x * 2 ^ (min y.toNat k.bits))))
  | .shr => some (.int k (x.fdiv (2 ^ (min y.toNat k.bits))))
  | _ => none

def aStr (op : BinOp) (x y : List UInt8) : Option AV :=
  match op with
  | .add => if ((x.length + y.length : Nat) : Int) > IntKind.i64.max then none else some (.str (x ++ y))
  | .eql => some (.bool (x == y))
  | .neq => some (.bool (!(x == y)))
  | .lss => some (.bool (Op.bytesLess x y))
  | .leq => some (.bool (Op.bytesLess x y || x == y))
  | .gtr => some (.bool (!(Op.bytesLess x y || x == y)))
  | .geq => some (.bool (!Op.bytesLess x y))
  | _ => none

/-- '==' of scalars, of pointers and slices with nil. -/
def aEq1 : AV → AV → Option Bool
  | .bool a, .bool b => some (a == b)
  | .ptr none, .ptr b => some b.isNone
  | .ptr (some _), .ptr none => some false
  | .sl none _ _ _, .sl b _ _ _ => some b.isNone
  | .sl (some _) _ _ _, .sl none _ _ _ => some false
  | .map none, .map b => some b.isNone
  | .map (some _), .map none => some false
  | .nilfn, .nilfn => some true
  | .nilfn, .fn _ _ _ => some false
  | .fn _ _ _, .nilfn => some false
  | _, _ => none

def kindEq1 : AKind → AV → Bool
  | .bool, .bool _ => true
  | .ptr _, .ptr _ => true
  | .slice _, .sl _ _ _ _ => true
  | .map _ _, .map _ => true
  | .func, .nilfn => true
  | .func, .fn _ _ _ => true
  | _, _ => false

def aPart (C : Cx) (t : TypeId) (cs : List AV) (off : Nat) : Option AV :=
  match C.kind t, C.size t with
  | .other, _ => none
  | k, some n => if k.isAgg then some (.agg ((cs.drop off).take n)) else cs[off]?
  | _, none => none

/-- '==' of fields, 'q' telling of each. -/
@[simp] def aEqG (C : Cx) (q : TypeId → AV → AV → Option Bool) : List (Nat × TypeId) → List AV → List AV → Option Bool
  | [], _, _ => some true
  | (o, t) :: fs, xs, ys =>
    match aPart C t xs o, aPart C t ys o with
    | some x, some y =>
      match q t x y with
      | some true => aEqG C q fs xs ys
      | some false => some false
      | none => none
    | _, _ => none

/-- '==' of values of type t. -/
def aEqIn (C : Cx) : Nat → TypeId → AV → AV → Option Bool
  | 0, _, _, _ => none
  | n + 1, t, x, y =>
    match C.kind t, x, y with
    | .int _, .int k a, .int k' b => if k = k' then some (a == b) else none
    | .str, .str a, .str b => some (a == b)
    | .bool, .bool a, .bool b => some (a == b)
    | .struct fs true, .agg xs, .agg ys => aEqG C (aEqIn C n) fs xs ys
    | .array len el, .agg xs, .agg ys =>
      match C.size el with
      | some sz => aEqG C (aEqIn C n) ((List.range len).map fun i => (i * sz, el)) xs ys
      | none => none
    | _, _, _ => none
def aEqFs (C : Cx) (n : Nat) : List (Nat × TypeId) → List AV → List AV → Option Bool := aEqG C (aEqIn C n)

theorem run_part {C : Cx} (ok : C.OK) {ρ : Rho} {t : TypeId} {cs : List AV} {vs : Array Value} {off : Nat} {v : AV} (h : aPart C t cs off = some v) (hr : VsRel ρ cs vs.toList) (w : World) :
    ∃ V, (part t vs off).run C.P w = .ok V w ∧ VRel ρ v V := by
  unfold aPart at h
  have hk : C.kind t ≠ .other := by intro e; rw [e] at h; simp at h
  cases hs : C.size t with
  | none => rw [hs] at h; cases C.kind t <;> simp at h
  | some n =>
    have hag := run_isAgg' ok rfl hk w
    have hsz := run_sizeOf' ok hs w
    have h' : (if (C.kind t).isAgg = true then some (AV.agg ((cs.drop off).take n)) else cs[off]?) = some v := by
      rw [hs] at h
      generalize hkk : C.kind t = k at h hk ⊢
      cases k <;> first | exact absurd rfl hk | exact h
    simp only [part, Sem.run_bind, hag, Result.andThen_ok]
    cases hA : (C.kind t).isAgg with
    | true =>
      rw [hA] at h'; simp at h'; subst h'
      refine ⟨.agg (vs.extract off (off + n)), by simp [hsz], ?_⟩
      simp only [VRel]
      refine ⟨_, rfl, ?_⟩
      have := (hr.drop off).take n
      simpa [List.extract_eq_take_drop] using this
    | false =>
      rw [hA] at h'; simp at h'
      obtain ⟨V, hV, hv⟩ := hr.get off v h'
      have : vs[off]? = some V := by simpa using hV
      exact ⟨V, by simp [this], hv⟩

end Go.Proofs.Ytgcoipcnhmkeaaa.Ax
