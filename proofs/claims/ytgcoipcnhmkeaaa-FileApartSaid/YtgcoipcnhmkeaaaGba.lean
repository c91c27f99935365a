/- The texts Ax19, Ax20, Ax21, Ax22, Ax23, Ax24, as one. -/
import Derived.Test.YtgcoipcnhmkeaaaGb
import Derived.Scope
import Derived.Lib.Bytealg

/-! AX, part 19: code to conditions; closed runs -/
section
set_option linter.unusedVariables false
set_option linter.unusedSimpArgs false
namespace Go.Proofs.Ytgcoipcnhmkeaaa.Ax
open Go.RowKit

section
variable {C : Cx} {h : AH}

def condP (v : AV) (A B : Prop) : Prop :=
  match v with
  | .bool b => (b = true → A) ∧ (b = false → B)
  | _ => False

/-- What must hold ahead of a piece of code. -/
def wpc (C : Cx) : Code → Env → AH → Post → Prop
  | .skip, e, h, Q => Q .normal e h
  | .label _, e, h, Q => Q .normal e h
  | .region _ ops false, e, h, Q => opsWp C ops Q ops.toList e h
  | .region _ ops true, e, h, Q => drawB C ops = true ∧ ∀ c ∈ canons C ops, schedWp C ops Q c [] e h
  | .seq a b, e, h, Q => wpc C a e h (thenQ (fun e h => wpc C b e h Q) Q)
  | .cond c a b, e, h, Q => condP (ev e c) (wpc C a e h Q) (wpc C b e h Q)
  | .block id b, e, h, Q => wpc C b e h (blockQ id Q)
  | .loop b, e, h, Q => Exec C (.loop b) e h Q
  | .exit id, e, h, Q => Q (.exit id) e h
  | .ret, e, h, Q => Q .ret e h
  | .scope b, e, h, Q => wpc C b e h Q
  | _, _, _, _ => False

theorem exec_scope {c : Code} {e : Env} {Q : Post} (hx : Exec C c e h Q) : Exec C (.scope c) e h Q := by
  intro ρ a W R E
  refine wp_scope_straight (wp_mono (hx ρ a W R E) fun ex a' W' hq => ?_)
  cases ex with
  | goto l => exact hq.elim
  | _ => exact hq

theorem wpc_sound (ok : C.OK) : ∀ (c : Code) (e : Env) (h : AH) (Q : Post), wpc C c e h Q → Exec C c e h Q
  | .skip, e, h, Q, hw => exec_skip hw
  | .label _, e, h, Q, hw => exec_label hw
  | .region _ ops false, e, h, Q, hw => exec_region ok hw
  | .region _ ops true, e, h, Q, hw => exec_draw ok hw.1 hw.2
  | .seq a b, e, h, Q, hw => by
    refine exec_seq ((wpc_sound ok a e h _ hw).mono fun x e h hq => ?_)
    cases x with
    | normal => exact wpc_sound ok b e h Q hq
    | _ => exact hq
  | .cond c a b, e, h, Q, hw => by
    simp only [wpc] at hw
    unfold condP at hw
    split at hw
    · rename_i b' hb
      exact exec_cond hb (fun h1 => wpc_sound ok a e h Q (hw.1 h1)) (fun h1 => wpc_sound ok b e h Q (hw.2 h1))
    · exact hw.elim
  | .block id b, e, h, Q, hw => exec_block (wpc_sound ok b e h _ hw)
  | .loop b, e, h, Q, hw => hw
  | .exit id, e, h, Q, hw => exec_exit hw
  | .ret, e, h, Q, hw => exec_ret hw
  | .scope b, e, h, Q, hw => exec_scope (wpc_sound ok b e h Q hw)
  | .rangeFunc .., e, h, Q, hw => hw.elim
  | .goto _, e, h, Q, hw => hw.elim
  | .refuse _, e, h, Q, hw => hw.elim


/-! ### closed runs: is it so, whatever the machine draws? -/

def nextMB (h : AH) (it : AV) (K : AV → AH → Bool) : Bool :=
  match it with
  | .ptr (some (.new k 0)) => match h.get k with
    | some (.miter none _ _ _) => K (.tup [.bool false]) h
    | some (.miter (some m) since seen last) => match h.get m with
      | some (.map es clock) =>
        !(!seen.isEmpty && !es.isEmpty && es.all fun e => decide (e.born ≥ last)) &&
        (!(es.filter fun e => !seen.contains e.born && decide (e.born < since)).isEmpty || K (.tup [.bool false]) h) &&
        es.all fun e => seen.contains e.born || K (.tup [.bool true, e.key, e.val]) (h.set k (.miter (some m) since (seen ++ [e.born]) clock))
      | _ => false
    | _ => false
  | _ => false

/-- One operation; 'call': what calls come to. -/
def opB (C : Cx) (call : FuncId → List AV → AH → (AV → AH → Bool) → (AV → AH → Bool) → Bool) (o : Oper) (g : Operand → AV) (h : AH) (K Kp : AV → AH → Bool) : Bool :=
  match zb9 C o g h with
  | some v => K v h
  | none => match qu9 C o g h with
    | some r => K r.1 r.2
    | none => match qv9 C o g with
      | some r => (C.fn r.1).isSome && call r.1 r.2 h K Kp
      | none => match o.op with
        | .panic x => match g x with
          | .ifc t v => Kp (.ifc t v) h
          | _ => false
        | .next it false => nextMB h (g it) K
        | _ => false


/-- Equal values (of an operation that was done once more). -/
def sameV : AV → AV → Bool
  | .int k a, .int k' b => k = k' && a == b
  | .str a, .str b => a == b
  | .bool a, .bool b => a == b
  | .ptr a, .ptr b => a = b
  | .sl a l c g, .sl a' l' c' g' => a = a' && l == l' && c == c' && g = g'
  | .map a, .map b => a == b
  | .nilfn, .nilfn => true
  | .nilifc, .nilifc => true
  | .agg xs, .agg ys => sameVs xs ys
  | .tup xs, .tup ys => sameVs xs ys
  | _, _ => false
where
  sameVs : List AV → List AV → Bool
    | [], [] => true
    | x :: xs, y :: ys => sameV x y && sameVs xs ys
    | _, _ => false

mutual
theorem sameV_eq : (x y : AV) → sameV x y = true → x = y
  | .int k a, y, h => by cases y <;> simp [sameV] at h; obtain ⟨rfl, rfl⟩ := h; rfl
  | .str a, y, h => by cases y <;> simp [sameV] at h; subst h; rfl
  | .bool a, y, h => by cases y <;> simp [sameV] at h; subst h; rfl
  | .ptr a, y, h => by cases y <;> simp [sameV] at h; subst h; rfl
  | .sl a l c g, y, h => by cases y <;> simp [sameV] at h; obtain ⟨⟨⟨rfl, rfl⟩, rfl⟩, rfl⟩ := h; rfl
  | .map a, y, h => by cases y <;> simp [sameV] at h; subst h; rfl
  | .nilfn, y, h => by cases y <;> simp [sameV] at h; rfl
  | .nilifc, y, h => by cases y <;> simp [sameV] at h; rfl
  | .agg xs, y, h => by
    cases y <;> simp only [sameV] at h <;> first | (simp at h; done) | rw [sameVs_eq xs _ h]
  | .tup xs, y, h => by
    cases y <;> simp only [sameV] at h <;> first | (simp at h; done) | rw [sameVs_eq xs _ h]
  | .bad, y, h => by simp [sameV] at h
  | .fn .., y, h => by simp [sameV] at h
  | .ifc .., y, h => by simp [sameV] at h
theorem sameVs_eq : (xs ys : List AV) → sameV.sameVs xs ys = true → xs = ys
  | [], ys, h => by cases ys <;> simp [sameV.sameVs] at h; rfl
  | x :: xs, ys, h => by
    cases ys with
    | nil => simp [sameV.sameVs] at h
    | cons y ys =>
      simp only [sameV.sameVs, Bool.and_eq_true] at h
      rw [sameV_eq x y h.1, sameVs_eq xs ys h.2]
end

def again (C : Cx) (o : Oper) (g : Operand → AV) (h : AH) (v : AV) : Bool :=
  match zb9 C o g h with
  | some w => sameV w v
  | none => false




/-! ### closed runs are true -/
abbrev CallB := FuncId → List AV → AH → (AV → AH → Bool) → (AV → AH → Bool) → Bool

def CallOK (C : Cx) (call : CallB) : Prop :=
  ∀ f args h K Kp, call f args h K Kp = true → ACall C f args h (fun v h => K v h = true) (fun v h => Kp v h = true)

theorem nextMB_sound {it : AV} {K : AV → AH → Bool} (hk : nextMB h it K = true) : nextM h it (fun v h => K v h = true) := by
  unfold nextMB at hk
  unfold nextM
  split at hk
  case h_2 => simp at hk
  rename_i k
  simp only
  split at hk
  case h_3 => simp at hk
  · rename_i hg; simp only [hg]; exact hk
  · rename_i m since seen last hg
    simp only [hg]
    split at hk
    case h_2 => simp at hk
    rename_i es clock hgm
    simp only [hgm]
    simp only [Bool.and_eq_true, Bool.or_eq_true, Bool.not_eq_true', List.all_eq_true] at hk
    obtain ⟨⟨h1, h2⟩, h3⟩ := hk
    refine ⟨by simpa using h1, fun he => ?_, fun e he hs => ?_⟩
    · rcases h2 with h2 | h2
      · rw [he] at h2; simp at h2
      · exact h2
    · rcases h3 e he with h4 | h4
      · rw [hs] at h4; simp at h4
      · exact h4

theorem opB_sound {call : CallB} (hc : CallOK C call) {o : Oper} {g : Operand → AV} {K Kp : AV → AH → Bool} (hb : opB C call o g h K Kp = true) :
    opWp C o g h (fun v h => K v h = true) (fun v h => Kp v h = true) := by
  unfold opB at hb
  unfold opWp
  split at hb
  · rename_i v hv; simp only [hv]; exact hb
  · rename_i hv
    simp only [hv]
    split at hb
    · rename_i r hr; simp only [hr]; exact hb
    · rename_i hr
      simp only [hr]
      split at hb
      · rename_i r hcal
        simp only [hcal]
        simp only [Bool.and_eq_true] at hb
        exact ⟨hb.1, hc _ _ _ _ _ hb.2⟩
      · rename_i hcal
        simp only [hcal]
        split at hb
        · rename_i x heq
          simp only [heq]
          split at hb
          · rename_i t v hg; simp only [hg]; exact hb
          · simp at hb
        · rename_i it heq
          simp only [heq]
          exact nextMB_sound hb
        · simp at hb

theorem opWp_mono {o : Oper} {g : Operand → AV} {K Kp K' Kp' : AV → AH → Prop} (hw : opWp C o g h K Kp) (h1 : ∀ v h, K v h → K' v h) (h2 : ∀ v h, Kp v h → Kp' v h) : opWp C o g h K' Kp' := by
  unfold opWp at hw ⊢
  split at hw
  · rename_i v hv; exact h1 _ _ hw
  · rename_i hv
    split at hw
    · rename_i r hr; exact h1 _ _ hw
    · rename_i hr
      split at hw
      · rename_i r hcal
        exact ⟨hw.1, hw.2.mono h1 h2⟩
      · rename_i hcal
        split at hw
        · rename_i x heq
          split at hw
          · rename_i t v hg; exact h2 _ _ hw
          · exact hw.elim
        · rename_i it heq
          unfold nextM at hw ⊢
          split at hw
          · split at hw
            · exact h1 _ _ hw
            · split at hw
              · exact ⟨hw.1, fun e => h1 _ _ (hw.2.1 e), fun e he hs => h1 _ _ (hw.2.2 e he hs)⟩
              · exact hw.elim
            · exact hw.elim
          · exact hw.elim
        · exact hw.elim


theorem again_eq {o : Oper} {g : Operand → AV} {v : AV} (ha : again C o g h v = true) : zb9 C o g h = some v := by
  unfold again at ha
  split at ha
  · rename_i w hw
    rw [hw, sameV_eq _ _ ha]
  · simp at ha





end
end Go.Proofs.Ytgcoipcnhmkeaaa.Ax
end

/-! AX, part 20: a program's tables -/
section
set_option linter.unusedVariables false
set_option linter.unusedSimpArgs false
namespace Go.Proofs.Ytgcoipcnhmkeaaa.Ax
open Go.RowKit

deriving instance DecidableEq for AKind

def kindOf (P : Program) (t : TypeId) : TypeDesc → AKind
  | .bool => .bool
  | .int k => .int k
  | .string => .str
  | .pointer e => .ptr e
  | .slice e => .slice e
  | .array n e => .array n e
  | .map k v => .map k v
  | .struct F => .struct (F.toList.map fun f => (f.offset, f.type)) ((F.toList.all fun f => f.name != "_") && !P.stoodInHeld t && !P.eqGuardType P.depth t)
  | .func _ _ _ => .func
  | .interface ms => .iface ms.isEmpty
  | .tuple _ => .tuple
  | .unsafePointer => .uptr
  | _ => .other

theorem kindOf_rel (P : Program) (t : TypeId) (d : TypeDesc) : KindRel P t (kindOf P t d) d := by
  cases d with
  | struct F =>
    simp only [kindOf, KindRel]
    refine ⟨F, rfl, rfl, fun h => ?_⟩
    simp only [Bool.and_eq_true, Bool.not_eq_true', List.all_eq_true, bne_iff_ne] at h
    exact ⟨h.1.1, h.1.2, h.2⟩
  | func a b c => exact ⟨a, b, c, rfl⟩
  | interface ms => exact ⟨ms, rfl, rfl⟩
  | tuple ts => exact ⟨ts, rfl⟩
  | _ => simp [kindOf, KindRel]

/-- The cells of a zero value. -/
def zerosOf (agg : Bool) (size : Nat) (z : Value) : Option (List AV) :=
  if agg then match z with
    | .agg vs => if vs.size = size ∧ vs.toList.all (·.oneCell') = true then some (vs.toList.map qy9) else none
    | _ => none
  else if z.oneCell' = true ∧ size = 1 then some [qy9 z] else none

def tyOf (P : Program) (t : TypeId) : Option ATy :=
  match P.info? t, P.underlying t with
  | some i, some d => some { kind := kindOf P t d, size := i.size, bytes := i.bytes, zero := i.zero.bind (zerosOf (kindOf P t d).isAgg i.size) }
  | _, _ => none

theorem tyOf_ok {P : Program} {t : TypeId} {a : ATy} (h : tyOf P t = some a) : TyOK P t a := by
  unfold tyOf at h
  split at h
  · rename_i i d hi hd
    simp at h; subst h
    refine ⟨i, d, hi, hd, rfl, rfl, kindOf_rel P t d, fun zs hz => ?_⟩
    simp only [Option.bind_eq_some_iff] at hz
    obtain ⟨z, hz1, hz2⟩ := hz
    unfold zerosOf at hz2
    split at hz2
    · rename_i hA
      split at hz2
      · rename_i vs
        split at hz2
        · rename_i hc
          simp at hz2; subst hz2
          refine ⟨by simp [hc.1], _, hz1, ?_⟩
          rw [hA]
          refine ⟨vs, rfl, VsRel.map _ fun x _ => ofV_rel [] x, fun v hv => ?_⟩
          exact List.all_eq_true.1 hc.2 v hv
        · simp at hz2
      · simp at hz2
    · rename_i hA
      split at hz2
      · rename_i hc
        simp at hz2; subst hz2
        refine ⟨by simp [hc.2], _, hz1, ?_⟩
        have hA' : (kindOf P t d).isAgg = false := by simpa using hA
        rw [hA']
        exact ⟨_, rfl, ofV_rel [] z, hc.1⟩
      · simp at hz2
  · simp at h

def sameTy (a b : ATy) : Bool :=
  decide (a.kind = b.kind) && a.size == b.size && a.bytes == b.bytes && (match a.zero, b.zero with | none, _ => true | some x, some y => sameV.sameVs x y | _, _ => false)

theorem TyOK.same {P : Program} {t : TypeId} {a b : ATy} (h : sameTy a b = true) (hb : TyOK P t b) : TyOK P t a := by
  simp only [sameTy, Bool.and_eq_true, decide_eq_true_eq, beq_iff_eq] at h
  obtain ⟨⟨⟨h1, h2⟩, h3⟩, h4⟩ := h
  obtain ⟨i, d, a1, a2, a3, a4, a5, a6⟩ := hb
  refine ⟨i, d, a1, a2, by rw [h2]; exact a3, by rw [h3]; exact a4, by rw [h1]; exact a5, fun zs hz => ?_⟩
  rw [hz] at h4
  cases hb : b.zero with
  | none => rw [hb] at h4; simp at h4
  | some y =>
    rw [hb] at h4
    have := sameVs_eq _ _ h4
    subst this
    rw [h1, h2]
    exact a6 _ hb

def tabOK (P : Program) (tt : Tr ATy) (n : Nat) : Bool :=
  (List.range n).all fun t => match tt.get t with
    | none => true
    | some a => match tyOf P t with
      | some b => sameTy a b
      | none => false

def fnOK (P : Program) (mask m : Nat) : Bool :=
  decide (mask < 2 ^ m) && (List.range m).all fun f => !mask.testBit f || (match P.funcs[f]? with
    | some F => F.body.isSome && !(F.name == "runtime.NumGoroutine")
    | none => false)

/-- What is known of a program: its types by a table, its functions with a body by a mask. -/
def mkCxE (P : Program) (W0 : World) (tt : Tr ATy) (n mask : Nat) (meth : TypeId → String → Option FuncId) (ext : FuncId → List AV → Option AV) (extE : FuncId → List AV → AH → Option (AV × AH)) : Cx where
  P := P
  W0 := W0
  ty := fun t => if t < n then tt.get t else none
  fn := fun f => if mask.testBit f then P.funcs[f]? else none
  meth := meth
  ext := ext
  extE := extE

def MethOK (P : Program) (meth : TypeId → String → Option FuncId) : Prop := ∀ t n f, meth t n = some f → ∀ v w, (method (P.types.size + Made.depth) t v n).run P w = .ok (f, v) w
def ExtOK (P : Program) (f : FuncId) (e : List AV → Option AV) : Prop := ∀ args v, e args = some v → ∀ (ρ : Rho) (vs : Array Value) w, VsRel ρ args vs.toList → ∃ V, (callFunc f vs).run P w = .ok (.value V) w ∧ VRel ρ v V

def ExtEOK (P : Program) (W0 : World) (extE : FuncId → List AV → AH → Option (AV × AH)) : Prop := ∀ f args h v h', extE f args h = some (v, h') → ∀ (ρ : Rho) (vs : Array Value) W, Rel W0 ρ h W → VsRel ρ args vs.toList →
    ∃ V W' ρ', (callFunc f vs).run P W = .ok (.value V) W' ∧ ρ <+: ρ' ∧ Rel W0 ρ' h' W' ∧ VRel ρ' v V

theorem mkCxE_ok {P : Program} {W0 : World} {tt : Tr ATy} {n mask m : Nat} {meth : TypeId → String → Option FuncId} {ext : FuncId → List AV → Option AV} {extE : FuncId → List AV → AH → Option (AV × AH)} (h1 : tabOK P tt n = true) (h2 : fnOK P mask m = true)
    (h3 : MethOK P meth) (h4 : ∀ f, ExtOK P f (ext f)) (h5 : ExtEOK P W0 extE) : (mkCxE P W0 tt n mask meth ext extE).OK := by
  refine ⟨fun t a ht => ?_, fun f F hf => ?_, h3, fun f => h4 f, h5⟩
  · simp only [mkCxE] at ht
    split at ht
    · rename_i hlt
      simp only [tabOK, List.all_eq_true, List.mem_range] at h1
      have := h1 t hlt
      rw [ht] at this
      simp only at this
      split at this
      · rename_i b hb
        exact (tyOf_ok hb).same this
      · simp at this
    · simp at ht
  · simp only [mkCxE] at hf
    split at hf
    · rename_i hbit
      simp only [fnOK, Bool.and_eq_true, decide_eq_true_eq, List.all_eq_true, List.mem_range] at h2
      have hfm : f < m := by
        rcases Nat.lt_or_ge f m with h | h
        · exact h
        · have := Nat.testBit_lt_two_pow (Nat.lt_of_lt_of_le h2.1 (Nat.pow_le_pow_right (by omega) h))
          rw [hbit] at this; simp at this
      have := h2.2 f hfm
      rw [hbit, hf] at this
      simp only [Bool.not_true, Bool.false_or, Bool.and_eq_true, Bool.not_eq_true'] at this
      exact ⟨hf, this.1, this.2⟩
    · simp at hf


/-! ### library functions without a body -/
theorem ext_run {P : Program} {f : FuncId} {fn : Func} {e : Array Value → Sem Value} (hf : P.funcs[f]? = some fn) (hname : (fn.name == "runtime.NumGoroutine") = false) (hb : fn.body.isNone = true) (hn : Extern.findNext fn = none)
    (he : Extern.find fn = some e) {vs : Array Value} {V : Value} {w : World} (hr : (e vs).run P w = .ok V w) : (callFunc f vs).run P w = .ok (.value V) w := by
  rw [run_callFunc_extern hf hname hb hn he, hr]; rfl

def countA : List AV → Option AV
  | [.str s, .int .u8 c] => some (.int .i64 (Lib.countByte s c.toNat.toUInt8))
  | _ => none




def cmpA : List AV → Option AV
  | [.str s, .str u] => some (.int .i64 (Lib.compareBytes s u))
  | _ => none

theorem str_str {ρ : Rho} {s u : List UInt8} {vs : Array Value} (h : VsRel ρ [.str s, .str u] vs.toList) : vs = #[.string ⟨s.toArray⟩, .string ⟨u.toArray⟩] := by
  simp only [VsRel] at h
  obtain ⟨V1, r1, h1, h2, V2, r2, h3, h4, h5⟩ := h
  have e1 := str_rel h2
  have e2 := str_rel h4
  subst h5
  rw [h3] at h1
  rw [e1, e2] at h1
  exact Array.toList_inj.1 (by rw [h1])

theorem ext_cmp {P : Program} {f : FuncId} {fn : Func} (hf : P.funcs[f]? = some fn) (hname : (fn.name == "runtime.NumGoroutine") = false) (hb : fn.body.isNone = true) (hn : Extern.findNext fn = none)
    (he : Extern.find fn = some Extern.BytealgCompare.compare) : ExtOK P f cmpA := by
  intro args v hv ρ vs w hr
  unfold cmpA at hv
  split at hv
  · rename_i s u
    simp at hv; subst hv
    rw [str_str hr]
    refine ⟨_, ext_run hf hname hb hn he (Lib.run_compareString _ _ w), ?_⟩
    simp [VRel]
  · simp at hv

/-- A map in an interface, once more: the map's entries in a new block. -/
def cloneA : List AV → AH → Option (AV × AH)
  | [.ifc t (.map (some j))], h => match h.get j with
    | some (.map es clock) => some (.ifc t (.map (some h.next)), h.push (.map es clock))
    | _ => none
  | _, _ => none

theorem ext_clone {P : Program} {W0 : World} {f : FuncId} {fn : Func} (hf : P.funcs[f]? = some fn) (hname : (fn.name == "runtime.NumGoroutine") = false) (hb : fn.body.isNone = true) (hn : Extern.findNext fn = none)
    (he : Extern.find fn = some Extern.MapsClone.clone) : ∀ args h v h', cloneA args h = some (v, h') → ∀ (ρ : Rho) (vs : Array Value) W, Rel W0 ρ h W → VsRel ρ args vs.toList →
    ∃ V W' ρ', (callFunc f vs).run P W = .ok (.value V) W' ∧ ρ <+: ρ' ∧ Rel W0 ρ' h' W' ∧ VRel ρ' v V := by
  intro args h v h' hv ρ vs W R hr
  unfold cloneA at hv
  split at hv
  · rename_i t j
    split at hv
    · rename_i es clock hg
      simp at hv
      obtain ⟨rfl, rfl⟩ := hv
      simp only [VsRel, VRel] at hr
      obtain ⟨X, xs, e1, ⟨Y, rfl, r, hr1, rfl⟩, rfl⟩ := hr
      obtain ⟨r', hr2, _, es', hb2, hes⟩ := R.live j _ hg
      rw [hr1] at hr2; cases hr2
      have ev : vs = #[.iface t (.map (some r.b))] := Array.toList_inj.1 (by rw [e1])
      have hp : ρ <+: ρ ++ [⟨W.heap.size, 0, 0⟩] := List.prefix_append _ _
      refine ⟨.iface t (.map (some W.heap.size)), W.alloc (.map es' clock), ρ ++ [⟨W.heap.size, 0, 0⟩], ?_, hp, R.push (.map es clock) (.map es' clock) 0 0 (fun W' hW' => ⟨es', hW', hes.mono hp⟩), ?_⟩
      · rw [run_callFunc_extern hf hname hb hn he, ev]
        have hc : Extern.MapsClone.clone #[.iface t (.map (some r.b))] = (do
            match ← getObj r.b with
            | .map entries clock => do
              let x ← newObj (.map entries clock)
              pure (.iface t (.map (some x)))
            | _ => stuck "maps.clone: a map expected") := rfl
        rw [hc]
        have g1 : (getObj r.b).run P W = .ok (.map es' clock) W := by simp [getObj, Sem.run, hb2]
        simp only [Sem.run_bind, g1, Result.andThen_ok, run_newObj, Sem.run_pure]; rfl
      · simp only [VRel]
        exact ⟨_, rfl, ⟨W.heap.size, 0, 0⟩, by rw [← R.len]; simp, rfl⟩
    · simp at hv
  · simp at hv

/-- At the start nothing is our own. -/
theorem rel_start (W : World) : Rel W [] AH.empty W :=
  ⟨Below.refl _ _, rfl, fun k o hk => by simp at hk, fun k k' o o' r r' hk => by simp at hk, fun r hr => by simp at hr⟩

/-- A call that is made in a world: what comes of it. -/
theorem calls_of_acallE {C : Cx} {P : Program} {W : World} {f : FuncId} {args : List AV} {vs : Array Value} (hP : C.P = P) (hW : C.W0 = W) (ha : VsRel [] args vs.toList)
    (hc : ACall C f args AH.empty (fun v _ => v = .bool true) (fun _ _ => False)) : Calls P f vs W fun e w' => e = .returned (.bool true) ∧ Below W.heap.size W w' := by
  subst hP; subst hW
  refine (hc [] C.W0 vs (rel_start C.W0) ha).mono fun e w' he => ?_
  cases e with
  | returned V =>
    obtain ⟨ρ', v, h', _, hR, hr, rfl⟩ := he
    exact ⟨by rw [bool_rel hr], hR.below⟩
  | panicked chain =>
    obtain ⟨_, _, _, _, _, _, _, _, hf⟩ := he
    exact hf.elim
  | outgrown => exact he.elim


end Go.Proofs.Ytgcoipcnhmkeaaa.Ax
end

/-! AX, part 21: conditions by steps, for simp -/
section
set_option linter.unusedVariables false
set_option linter.unusedSimpArgs false
namespace Go.Proofs.Ytgcoipcnhmkeaaa.Ax
open Go.RowKit

inductive Fr where
  | seq (c : Code)
  | block (id : Nat)

def kq (C : Cx) (Q : Post) : List Fr → Post
  | [] => Q
  | .seq c :: ks => thenQ (fun e h => wpc C c e h (kq C Q ks)) (kq C Q ks)
  | .block id :: ks => blockQ id (kq C Q ks)

/-- A proposition that the elaborator does not look into. -/
structure Sealed (p : Prop) : Prop where
  out : p
theorem sealed (p : Prop) : Sealed p = p := propext ⟨fun h => h.out, fun h => ⟨h⟩⟩

def Wc (C : Cx) (Q : Post) (c : Code) (ks : List Fr) (e : Env) (h : AH) : Prop := Sealed (wpc C c e h (kq C Q ks))
def Nx (C : Cx) (Q : Post) (x : Ex) (ks : List Fr) (e : Env) (h : AH) : Prop := Sealed (kq C Q ks x e h)
def Rg (C : Cx) (Q : Post) (ops : Array Oper) (l : List Oper) (ks : List Fr) (e : Env) (h : AH) : Prop := Sealed (opsWp C ops (kq C Q ks) l e h)
def CallK (C : Cx) (Q : Post) (ops : Array Oper) (rest : List Oper) (ks : List Fr) (e : Env) (dst : Option Tmp) (f : FuncId) (args : List AV) (h : AH) : Prop :=
  Sealed <| (C.fn f).isSome = true ∧ ACall C f args h (fun v h' => Rg C Q ops rest ks (za9 e dst v) h') (fun v h' => kq C Q ks (.panic v) [] h')
def SlowK (C : Cx) (Q : Post) (ops : Array Oper) (o : Oper) (rest : List Oper) (ks : List Fr) (e : Env) (h : AH) : Prop :=
  Sealed <| opWp C o (ev e) h (fun v h' => Rg C Q ops rest ks (za9 e o.dst v) h') (fun v h' => kq C Q ks (.panic v) [] h')
def qt9 (C : Cx) (Q : Post) (ops : Array Oper) (o : Oper) (rest : List Oper) (ks : List Fr) (e : Env) (h : AH) : Prop :=
  match qu9 C o (ev e) h with
  | some r => Rg C Q ops rest ks (za9 e o.dst r.1) r.2
  | none => match qv9 C o (ev e) with
    | some r => CallK C Q ops rest ks e o.dst r.1 r.2 h
    | none => SlowK C Q ops o rest ks e h

def LoopK (C : Cx) (Q : Post) (b : Code) (ks : List Fr) (e : Env) (h : AH) : Prop := Sealed (Exec C (.loop b) e h (kq C Q ks))

section
variable {C : Cx} {Q : Post} {ks : List Fr} {e : Env} {h : AH}

theorem qa9 {a b : Code} : Wc C Q (.seq a b) ks e h = Wc C Q a (.seq b :: ks) e h := _root_.id rfl
theorem qb9 {id : Nat} {b : Code} : Wc C Q (.block id b) ks e h = Wc C Q b (.block id :: ks) e h := _root_.id rfl
theorem qc9 {b : Code} : Wc C Q (.scope b) ks e h = Wc C Q b ks e h := _root_.id rfl
theorem qd9 : Wc C Q .skip ks e h = Nx C Q .normal ks e h := _root_.id rfl
theorem qe9 {l : Nat} : Wc C Q (.label l) ks e h = Nx C Q .normal ks e h := _root_.id rfl
theorem qf9 {id : Nat} : Wc C Q (.exit id) ks e h = Nx C Q (.exit id) ks e h := _root_.id rfl
theorem qg9 : Wc C Q .ret ks e h = Nx C Q .ret ks e h := _root_.id rfl
theorem qh9 {b : Code} : Wc C Q (.loop b) ks e h = LoopK C Q b ks e h := _root_.id rfl
theorem qi9 {id : Nat} {ops : Array Oper} : Wc C Q (.region id ops false) ks e h = Rg C Q ops ops.toList ks e h := _root_.id rfl
theorem qj9 {c : Operand} {a b : Code} : Wc C Q (.cond c a b) ks e h = match ev e c with
    | .bool p => if p = true then Wc C Q a ks e h else Wc C Q b ks e h
    | _ => False := by
  simp only [Wc, wpc, condP, sealed]
  generalize ev e c = v
  cases v with
  | bool p => cases p <;> simp
  | _ => rfl

theorem qk9 {x : Ex} : Nx C Q x [] e h = Q x e h := sealed _
theorem ql9 {b : Code} : Nx C Q .normal (.seq b :: ks) e h = Wc C Q b ks e h := _root_.id rfl
theorem qm9 {b : Code} {id : Nat} : Nx C Q (.exit id) (.seq b :: ks) e h = Nx C Q (.exit id) ks e h := _root_.id rfl
theorem qn9 {b : Code} : Nx C Q .ret (.seq b :: ks) e h = Nx C Q .ret ks e h := _root_.id rfl
theorem qo9 {id : Nat} : Nx C Q .normal (.block id :: ks) e h = Nx C Q .normal ks e h := _root_.id rfl
theorem qp9 {id id' : Nat} : Nx C Q (.exit id') (.block id :: ks) e h = if id' = id then Nx C Q .normal ks e h else Nx C Q (.exit id') ks e h := by
  simp only [Nx, kq, blockQ, sealed]
theorem qq9 {id : Nat} : Nx C Q .ret (.block id :: ks) e h = Nx C Q .ret ks e h := _root_.id rfl

theorem qr9 {ops : Array Oper} : Rg C Q ops [] ks e h = Nx C Q .normal ks e h := _root_.id rfl
theorem qs9 {ops : Array Oper} {o : Oper} {rest : List Oper} : Rg C Q ops (o :: rest) ks e h = match qw9 ops e o with
    | some true => (match zb9 C o (ev e) h with
      | some v => Rg C Q ops rest ks (za9 e o.dst v) h
      | none => qt9 C Q ops o rest ks e h)
    | some false => Rg C Q ops rest ks (za9 e o.dst .undef) h
    | none => False := by
  simp only [Rg, sealed, opsWp]
  cases hw : qw9 ops e o with
  | none => rfl
  | some b =>
    cases b with
    | false => rfl
    | true =>
      simp only [qt9, Rg, CallK, SlowK, sealed, opWp]
      cases hv : zb9 C o (ev e) h with
      | some v => rfl
      | none =>
        simp only
        cases hf : qu9 C o (ev e) h with
        | some r => rfl
        | none =>
          simp only
          cases hc : qv9 C o (ev e) with
          | some r => rfl
          | none => rfl

theorem je9 {ops : Array Oper} {rest : List Oper} {dst : Option Tmp} {f : FuncId} {args : List AV} {K : AV → AH → Prop} (hf : (C.fn f).isSome = true) (hc : ACall C f args h K (fun _ _ => False))
    (hk : ∀ v h', K v h' → Rg C Q ops rest ks (za9 e dst v) h') : CallK C Q ops rest ks e dst f args h :=
  ⟨⟨hf, hc.mono hk fun _ _ h => h.elim⟩⟩





/-- Where a function ends. -/
def finQ (C : Cx) (rs : List ResultVar) (K Kp : AV → AH → Prop) : Post
  | .normal, e, h => match rs.mapM (zq9 C e h) with
    | some [v] => K v h
    | some vs => K (.tup vs) h
    | none => False
  | .ret, e, h => match rs.mapM (zq9 C e h) with
    | some [v] => K v h
    | some vs => K (.tup vs) h
    | none => False
  | .panic v, _, h => Kp v h
  | .exit _, _, _ => False

def qx9 (n : Nat) (args : List AV) : Env := args ++ List.replicate (n - args.length) .undef

theorem finQ_funQ {F : Func} {K Kp : AV → AH → Prop} : ∀ x e h, finQ C F.results.toList K Kp x e h → funQ C F K Kp x e h := by
  intro x e h hq
  cases x with
  | normal =>
    simp only [finQ] at hq
    simp only [funQ, resultsA]
    split at hq
    · rename_i v hv; simp only [hv]; exact ⟨v, rfl, hq⟩
    · rename_i vs hvs hv; simp only [hv]
      exact ⟨.tup vs, rfl, hq⟩
    · exact hq.elim
  | ret =>
    simp only [finQ] at hq
    simp only [funQ, resultsA]
    split at hq
    · rename_i v hv; simp only [hv]; exact ⟨v, rfl, hq⟩
    · rename_i vs hvs hv; simp only [hv]
      exact ⟨.tup vs, rfl, hq⟩
    · exact hq.elim
  | panic v => exact hq
  | exit id => exact hq

theorem wpc_mono (ok : C.OK) {c : Code} {Q Q' : Post} (hw : wpc C c e h Q) (hq : ∀ x e h, Q x e h → Q' x e h) : Exec C c e h Q' := (wpc_sound ok _ _ _ _ hw).mono hq

theorem jj9 (ok : C.OK) {f : FuncId} {F : Func} {c : Code} {n : Nat} {rs : List ResultVar} {args : List AV} {K Kp : AV → AH → Prop} (hf : C.fn f = some F) (hb : F.body = some c) (hn : F.ntmps = n) (hr : F.results.toList = rs)
    (hx : Wc C (finQ C rs K Kp) c [] (qx9 n args) h) : ACall C f args h K Kp := by
  subst hn; subst hr
  exact acall_body ok hf hb (wpc_mono ok hx.out finQ_funQ)

theorem zp9 {rs : List ResultVar} {K Kp : AV → AH → Prop} : finQ C rs K Kp .ret e h = match rs.mapM (zq9 C e h) with
    | some [v] => K v h
    | some vs => K (.tup vs) h
    | none => False := _root_.id rfl



/-- A loop, by an invariant that counts down. -/
theorem loopN (ok : C.OK) {b : Code} (I : Nat → Env → AH → Prop) (n : Nat) (h0 : I n e h)
    (round : ∀ n e h, I n e h → Wc C (thenQ (fun e' h' => ∃ m, m < n ∧ I m e' h') (kq C Q ks)) b [] e h) : LoopK C Q b ks e h := by
  classical
  refine ⟨exec_loop (fun e h => ∃ n, I n e h) (fun e h => if hx : ∃ n, I n e h then Classical.choose (least _ hx) else 0) ⟨n, h0⟩ fun e h hx => ?_⟩
  have hspec := Classical.choose_spec (least _ hx)
  generalize hk : Classical.choose (least _ hx) = k at hspec
  refine (wpc_sound ok _ _ _ _ (round k e h hspec.1).out).mono fun x e' h' hq => ?_
  cases x with
  | normal =>
    obtain ⟨m, hm, hI⟩ : ∃ m, m < k ∧ I m e' h' := hq
    have hx' : ∃ m, I m e' h' := ⟨m, hI⟩
    refine ⟨hx', ?_⟩
    have hle := (Classical.choose_spec (least _ hx')).2 m hI
    simp only [dif_pos hx, dif_pos hx', hk]
    omega
  | _ => exact hq


theorem zu9 {K : Env → AH → Prop} : thenQ K Q .normal e h = K e h := _root_.id rfl
theorem zv9 {K : Env → AH → Prop} {id : Nat} : thenQ K Q (.exit id) e h = Q (.exit id) e h := _root_.id rfl
theorem zw9 {K : Env → AH → Prop} : thenQ K Q .ret e h = Q .ret e h := _root_.id rfl
theorem zt9 {x : Ex} : kq C Q ks x e h = Nx C Q x ks e h := (sealed _).symm

theorem zd9 {k : IntKind} {x y : Int} : aInt .add k x y = some (.int k (k.wrap (x + y))) := _root_.id rfl
theorem ze9 {k : IntKind} {x y : Int} : aInt .sub k x y = some (.int k (k.wrap (x - y))) := _root_.id rfl
theorem zf9 {k : IntKind} {x y : Int} : aInt .mul k x y = some (.int k (k.wrap (x * y))) := _root_.id rfl
theorem zg9 {k : IntKind} {x y : Int} : aInt .quo k x y = if y = 0 then none else some (.int k (k.wrap (x.tdiv y))) := _root_.id rfl
theorem zh9 {k : IntKind} {x y : Int} : aInt .rem k x y = if y = 0 then none else some (.int k (x.tmod y)) := _root_.id rfl
theorem zi9 {k : IntKind} {x y : Int} : aInt .eql k x y = some (.bool (x == y)) := _root_.id rfl
theorem zj9 {k : IntKind} {x y : Int} : aInt .neq k x y = some (.bool (x != y)) := _root_.id rfl
theorem zk9 {k : IntKind} {x y : Int} : aInt .lss k x y = some (.bool (decide (x < y))) := _root_.id rfl
theorem zl9 {k : IntKind} {x y : Int} : aInt .leq k x y = some (.bool (decide (x ≤ y))) := _root_.id rfl
theorem zm9 {k : IntKind} {x y : Int} : aInt .gtr k x y = some (.bool (decide (y < x))) := _root_.id rfl
theorem zn9 {k : IntKind} {x y : Int} : aInt .geq k x y = some (.bool (decide (y ≤ x))) := _root_.id rfl

theorem wrap64 {x : Int} (h1 : -9223372036854775808 ≤ x) (h2 : x < 9223372036854775808) : IntKind.i64.wrap x = x := by
  rw [IntKind.wrap_i64]; omega
end
end Go.Proofs.Ytgcoipcnhmkeaaa.Ax
end

/-! AX, part 22: drawn regions of one order, by steps; bytes in memory -/
section
set_option linter.unusedVariables false
set_option linter.unusedSimpArgs false
namespace Go.Proofs.Ytgcoipcnhmkeaaa.Ax
open Go.RowKit

theorem opWp_pure {C : Cx} {o : Oper} {g : Operand → AV} {h : AH} {K Kp : AV → AH → Prop} (hE : isE C o = false) (hw : opWp C o g h K Kp) : ∃ v, zb9 C o g h = some v ∧ K v h := by
  unfold opWp at hw
  cases hv : zb9 C o g h with
  | some v => rw [hv] at hw; exact ⟨v, rfl, hw⟩
  | none =>
    rw [hv] at hw
    exfalso
    simp only at hw
    unfold isE at hE
    have hf : qu9 C o g h = none := by
      unfold qu9
      split
      all_goals first
        | rfl
        | (rename_i heq; rw [heq] at hE; simp at hE; done)
        | skip
      · rename_i s d x heq
        rw [heq] at hE
        unfold aConvE
        split
        · rfl
        · rename_i hk _ _; simp [hk] at hE
        · rfl
      · rename_i c heq
        rw [heq] at hE
        split
        all_goals first
          | rfl
          | (rename_i hc; simp [hc] at hE; done)
    have hc : qv9 C o g = none := by
      unfold qv9
      split
      · rename_i c heq
        rw [heq] at hE
        split <;> rename_i hc <;> simp [hc] at hE <;> rfl
      · rfl
    rw [hf, hc] at hw
    simp only at hw
    split at hw
    · rename_i heq; rw [heq] at hE; simp at hE
    · rename_i heq; rw [heq] at hE; simp at hE
    · exact hw

def readsReach (C : Cx) (ops : Array Oper) : List Nat → List Nat → Bool
  | [], _ => true
  | i :: rest, rs => (!isE C (opA ops i) || rs.all fun r => reach ops ops.size i r) && readsReach C ops rest (if !isE C (opA ops i) && isRead (opA ops i) then i :: rs else rs)

theorem sched_of_ops {C : Cx} {ops : Array Oper} {Q : Post} : ∀ (L : List Nat) (rs : List (Nat × AV × Env)) (rn : List Nat) (e : Env) (h : AH), (∀ r ∈ rs, r.1 ∈ rn) → readsReach C ops L rn = true → opsWp C ops Q (L.map (opA ops)) e h → schedWp C ops Q L rs e h
  | [], rs, rn, e, h, hr, hb, hw => hw
  | i :: rest, rs, rn, e, h, hr, hb, hw => by
    simp only [readsReach, Bool.and_eq_true] at hb
    simp only [List.map_cons, opsWp] at hw
    simp only [schedWp]
    split at hw
    · rename_i hwa
      simp only [hwa]
      cases hE : isE C (opA ops i) with
      | true =>
        simp only [if_true]
        simp only [hE, Bool.not_true, Bool.false_or, Bool.false_and, Bool.false_eq_true, if_false, List.all_eq_true] at hb
        refine opWp_mono hw (fun v h' hk => ⟨fun r hrm hrr => ?_, sched_of_ops rest rs rn _ h' hr hb.2 hk⟩) fun v h' hk => hk
        rw [hb.1 _ (hr r hrm)] at hrr; simp at hrr
      | false =>
        simp only [Bool.false_eq_true, if_false]
        obtain ⟨v, hv, hk⟩ := opWp_pure hE hw
        simp only [hv]
        simp only [hE, Bool.not_false, Bool.true_and, true_and] at hb
        refine sched_of_ops rest _ _ _ h (fun r hrm => ?_) hb.2 hk
        split at hrm
        · rename_i hR; rw [if_pos hR]
          simp only [List.mem_cons] at hrm ⊢
          rcases hrm with rfl | hrm
          · left; rfl
          · right; exact hr r hrm
        · rename_i hR; rw [if_neg hR]; exact hr r hrm
    · rename_i hwa
      simp only [hwa]
      have hrn : ∀ (x : List Nat), readsReach C ops rest x = true → (∀ r ∈ rs, r.1 ∈ x) → schedWp C ops Q rest rs (za9 e (opA ops i).dst .undef) h := fun x hx hrx => sched_of_ops rest rs x _ h hrx hx hw
      have := hrn _ hb.2 (fun r hrm => by
        have := hr r hrm
        split
        · exact List.mem_cons_of_mem _ this
        · exact this)
      split <;> exact this
    · exact hw.elim

/-- A drawn region with one order of its effects. -/
theorem draw1 {C : Cx} (ok : C.OK) {Q : Post} {ks : List Fr} {e : Env} {h : AH} {id : Nat} {ops : Array Oper} (L : List Nat) (hB : drawB C ops = true) (hc : canons C ops = [L]) (hv : readsReach C ops L [] = true)
    (hL : L.map (opA ops) = ops.toList) (hw : Rg C Q ops ops.toList ks e h) : Wc C Q (.region id ops true) ks e h := by
  refine ⟨⟨hB, fun c hcm => ?_⟩⟩
  rw [hc, List.mem_singleton] at hcm
  subst hcm
  exact sched_of_ops c [] [] e h (fun r hr => by simp at hr) hv (by rw [hL]; exact hw.out)

/-- The cells of bytes. -/
def bcells (l : List UInt8) : List AV := l.map fun b => .int .u8 b.toNat
theorem bcells_length (l : List UInt8) : (bcells l).length = l.length := by simp [bcells]
theorem bcells_get {l : List UInt8} {k : Nat} {x : UInt8} (h : l[k]? = some x) : (bcells l)[k]? = some (.int .u8 x.toNat) := by simp [bcells, h]
theorem bcells_put {l : List UInt8} {k : Nat} {n : Nat} (hk : k < l.length) (hn : n < 256) : overlay (bcells l) [.int .u8 (n : Int)] k = bcells (l.set k (UInt8.ofNat n)) := by
  have h1 : bcells (l.set k (UInt8.ofNat n)) = (bcells l).set k (.int .u8 (n : Int)) := by
    simp only [bcells, List.map_set]
    congr 2
    simp [Nat.mod_eq_of_lt hn]
  rw [h1, List.set_eq_take_append_cons_drop, if_pos (by rw [bcells_length]; exact hk)]
  simp [overlay]
theorem bcells_read (l : List UInt8) : (bcells l).mapM byteOf1 = some l := by
  induction l with
  | nil => rfl
  | cons b l ih =>
    simp only [bcells, List.map_cons, List.mapM_cons, byteOf1] at ih ⊢
    rw [ih]
    simp
end Go.Proofs.Ytgcoipcnhmkeaaa.Ax
end

/-! AX, part 23: calls that keep what was our own -/
section
set_option linter.unusedVariables false
set_option linter.unusedSimpArgs false
namespace Go.Proofs.Ytgcoipcnhmkeaaa.Ax
open Go.RowKit

/-- The heap has at most new objects. -/
def Keeps (h h' : AH) : Prop := h.next ≤ h'.next ∧ ∀ k, k < h.next → h'.get k = h.get k

theorem Keeps.refl (h : AH) : Keeps h h := ⟨Nat.le_refl _, fun _ _ => rfl⟩
theorem Keeps.trans {a b c : AH} (h1 : Keeps a b) (h2 : Keeps b c) : Keeps a c := ⟨Nat.le_trans h1.1 h2.1, fun k hk => (h2.2 k (Nat.lt_of_lt_of_le hk h1.1)).trans (h1.2 k hk)⟩
theorem Keeps.push (h : AH) (o : AObj) : Keeps h (h.push o) := ⟨by simp, fun k hk => by rw [AH.get_push, if_neg (by omega)]⟩
theorem Keeps.set {h h' : AH} (hx : Keeps h h') {k : Nat} (hk : h.next ≤ k) (o : AObj) : Keeps h (h'.set k o) := ⟨by simpa using hx.1, fun j hj => by rw [AH.get_set, if_neg (by omega)]; exact hx.2 j hj⟩



end Go.Proofs.Ytgcoipcnhmkeaaa.Ax
end

/-! AX, part 24: conditions may be weakened; a cut between two pieces of code -/
section
set_option linter.unusedVariables false
set_option linter.unusedSimpArgs false
namespace Go.Proofs.Ytgcoipcnhmkeaaa.Ax
open Go.RowKit

theorem opsWp_le {C : Cx} {ops : Array Oper} {Q Q' : Post} (hq : ∀ x e h, Q x e h → Q' x e h) : ∀ (l : List Oper) (e : Env) (h : AH), opsWp C ops Q l e h → opsWp C ops Q' l e h
  | [], e, h, hw => hq _ _ _ hw
  | o :: rest, e, h, hw => by
    simp only [opsWp] at hw ⊢
    split at hw
    · exact opWp_mono hw (fun v h' hk => opsWp_le hq rest _ _ hk) fun v h' hk => hq _ _ _ hk
    · exact opsWp_le hq rest _ _ hw
    · exact hw

theorem schedWp_le {C : Cx} {ops : Array Oper} {Q Q' : Post} (hq : ∀ x e h, Q x e h → Q' x e h) : ∀ (l : List Nat) (rs : List (Nat × AV × Env)) (e : Env) (h : AH), schedWp C ops Q l rs e h → schedWp C ops Q' l rs e h
  | [], rs, e, h, hw => hq _ _ _ hw
  | i :: rest, rs, e, h, hw => by
    simp only [schedWp] at hw ⊢
    cases hwa : qw9 ops e (opA ops i) with
    | none => rw [hwa] at hw; exact hw
    | some b =>
      rw [hwa] at hw
      cases b with
      | false =>
        simp only at hw ⊢
        split at hw
        · rename_i hi; rw [if_pos hi]; exact schedWp_le hq rest _ _ _ hw
        · rename_i hi; rw [if_neg hi]; exact schedWp_le hq rest _ _ _ hw
      | true =>
        simp only at hw ⊢
        split at hw
        · rename_i hi; rw [if_pos hi]
          exact opWp_mono hw (fun v h' hk => ⟨hk.1, schedWp_le hq rest _ _ _ hk.2⟩) fun v h' hk => hq _ _ _ hk
        · rename_i hi; rw [if_neg hi]
          cases hv : zb9 C (opA ops i) (ev e) h with
          | none => rw [hv] at hw; exact hw
          | some v => rw [hv] at hw; exact schedWp_le hq rest _ _ _ hw

theorem wpc_le {C : Cx} : ∀ (c : Code) {Q Q' : Post}, (∀ x e h, Q x e h → Q' x e h) → ∀ e h, wpc C c e h Q → wpc C c e h Q'
  | .skip, _, _, hq, e, h, hw => hq _ _ _ hw
  | .label _, _, _, hq, e, h, hw => hq _ _ _ hw
  | .region _ ops false, _, _, hq, e, h, hw => opsWp_le hq _ _ _ hw
  | .region _ ops true, _, _, hq, e, h, hw => ⟨hw.1, fun c hc => schedWp_le hq _ _ _ _ (hw.2 c hc)⟩
  | .seq a b, Q, Q', hq, e, h, hw => by
    simp only [wpc] at hw ⊢
    refine wpc_le a (fun x e h hx => ?_) e h hw
    cases x with
    | normal => exact wpc_le b hq e h hx
    | _ => exact hq _ _ _ hx
  | .cond c a b, _, _, hq, e, h, hw => by
    simp only [wpc, condP] at hw ⊢
    split at hw
    · rename_i b' hb
      exact ⟨fun h1 => wpc_le a hq e h (hw.1 h1), fun h1 => wpc_le b hq e h (hw.2 h1)⟩
    · exact hw.elim
  | .block id b, _, _, hq, e, h, hw => by
    simp only [wpc] at hw ⊢
    refine wpc_le b (fun x e h hx => ?_) e h hw
    cases x with
    | exit id' => simp only [blockQ] at hx ⊢; split at hx
                  · rename_i hi; rw [if_pos hi]; exact hq _ _ _ hx
                  · rename_i hi; rw [if_neg hi]; exact hq _ _ _ hx
    | _ => exact hq _ _ _ hx
  | .loop b, _, _, hq, e, h, hw => Exec.mono hw hq
  | .exit id, _, _, hq, e, h, hw => hq _ _ _ hw
  | .ret, _, _, hq, e, h, hw => hq _ _ _ hw
  | .scope b, _, _, hq, e, h, hw => wpc_le b hq e h hw
  | .goto _, _, _, _, _, _, hw => hw.elim

/-- A cut: what holds behind a piece of code. -/
theorem wc_cut {C : Cx} {Q : Post} {c : Code} {ks : List Fr} {e : Env} {h : AH} (R : Env → AH → Prop) (h1 : Wc C (thenQ R (kq C Q ks)) c [] e h) (h2 : ∀ e h, R e h → Nx C Q .normal ks e h) : Wc C Q c ks e h := by
  refine ⟨wpc_le c (fun x e h hx => ?_) e h h1.out⟩
  cases x with
  | normal => exact (h2 e h hx).out
  | _ => exact hx
end Go.Proofs.Ytgcoipcnhmkeaaa.Ax
end
