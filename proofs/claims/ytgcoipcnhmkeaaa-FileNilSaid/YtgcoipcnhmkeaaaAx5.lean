/- AX, part 5: comparing, converting, building, slicing, looking up: each with what the machine does. -/
import Derived.Test.YtgcoipcnhmkeaaaAx4
import Derived.Laws.BytesString
import Derived.Laws.Slices
import Derived.Lib.Builder
import Derived.Lib.UnsafeStr
set_option linter.unusedVariables false
set_option linter.unusedSimpArgs false
namespace Go.Proofs.Ytgcoipcnhmkeaaa.Ax
open Go.RowKit

section
variable {C : Cx} {ρ : Rho} {h : AH} {W : World}

def isConst : Operand → Bool
  | .const _ => true
  | _ => false

/-- '==' of type t. -/
def aEq (C : Cx) (ox oy : Operand) (t : TypeId) (x y : AV) : Option Bool :=
  match C.kind t, x, y with
  | .iface _, .nilifc, .nilifc => if isConst ox || isConst oy then some true else none
  | .iface _, .nilifc, .ifc _ _ => some false
  | .iface _, .ifc _ _, .nilifc => some false
  | .iface _, .ifc tx _, .ifc ty _ => if tx = ty then none else some false
  | .struct _ true, .agg xs, .agg ys => aEqIn C 100 t (.agg xs) (.agg ys)
  | .ptr e, .ptr (some a), .ptr (some b) => match C.size e with
    | some _ => if a = b then some true else none
    | none => none
  | k, x, y => if kindEq1 k x then aEq1 x y else none

def Value.plainCmp : Value → Bool
  | .int _ _ | .float _ _ | .complex _ _ _ | .string _ => false
  | _ => true

theorem binOp_eql (t : TypeId) (X Y : Value) (hX : Value.plainCmp X = true) : binOp .eql t X Y = (do pure (.bool (← Op.equal t X Y))) := by
  cases X <;> first | (simp [Value.plainCmp] at hX; done) | (cases Y <;> rfl)
theorem binOp_neq (t : TypeId) (X Y : Value) (hX : Value.plainCmp X = true) : binOp .neq t X Y = (do pure (.bool (!(← Op.equal t X Y)))) := by
  cases X <;> first | (simp [Value.plainCmp] at hX; done) | (cases Y <;> rfl)

theorem eqIn_nn {P : Program} {t : TypeId} {ms : Array (String × TypeId)} (hD : P.underlying t = some (.interface ms)) (d : Nat) (w : World) :
    (Op.equalIn (d + 1) t .nilIface .nilIface).run P w = .ok true w := by simp [Op.equalIn, run_und hD]
theorem eqIn_ni {P : Program} {t : TypeId} {ms : Array (String × TypeId)} (hD : P.underlying t = some (.interface ms)) (d : Nat) (t' : TypeId) (V : Value) (w : World) :
    (Op.equalIn (d + 1) t .nilIface (.iface t' V)).run P w = .ok false w := by simp [Op.equalIn, run_und hD]
theorem eqIn_in {P : Program} {t : TypeId} {ms : Array (String × TypeId)} (hD : P.underlying t = some (.interface ms)) (d : Nat) (t' : TypeId) (V : Value) (w : World) :
    (Op.equalIn (d + 1) t (.iface t' V) .nilIface).run P w = .ok false w := by simp [Op.equalIn, run_und hD]
theorem eqIn_ii {P : Program} {t : TypeId} {ms : Array (String × TypeId)} (hD : P.underlying t = some (.interface ms)) (d : Nat) (tx ty : TypeId) (hne : tx ≠ ty) (V V' : Value) (w : World) :
    (Op.equalIn (d + 1) t (.iface tx V) (.iface ty V')).run P w = .ok false w := by simp [Op.equalIn, run_und hD, hne]

theorem eqIn_pp {P : Program} {t e : TypeId} (hD : P.underlying t = some (.pointer e)) {n : Nat} {w : World} (hn : (sizeOf e).run P w = .ok n w) (d : Nat) (A : Addr) :
    (Op.equalIn (d + 1) t (.pointer (some A)) (.pointer (some A))).run P w = .ok true w := by
  simp [Op.equalIn, run_und hD, hn, sameAddr]

def simpleCmp : Value → Bool
  | .bool _ | .pointer _ | .slice _ _ _ | .map _ | .func _ _ _ | .nilFunc => true
  | _ => false

theorem simple_of {k : AKind} {x : AV} {X : Value} (h : kindEq1 k x = true) (hx : VRel ρ x X) : simpleCmp X = true := by
  cases x with
  | bool b => rw [bool_rel hx]; rfl
  | ptr a => cases a <;> simp only [VRel] at hx <;> (first | (obtain ⟨_, _, rfl⟩ := hx) | subst hx) <;> rfl
  | sl a len cap gr => cases a with
    | none => simp only [VRel] at hx; obtain ⟨_, _, _, rfl⟩ := hx; rfl
    | some a => cases a with
      | base b o => simp only [VRel] at hx; obtain ⟨_, rfl⟩ := hx; rfl
      | new k o => simp only [VRel] at hx; obtain ⟨_, _, _, _, rfl, _⟩ := hx; rfl
  | map r => cases r <;> simp only [VRel] at hx <;> (first | (obtain ⟨_, _, rfl⟩ := hx) | subst hx) <;> rfl
  | fn f a b => simp only [VRel] at hx; obtain ⟨_, _, rfl, _⟩ := hx; rfl
  | nilfn => simp only [VRel] at hx; subst hx; rfl
  | _ => cases k <;> simp [kindEq1] at h

theorem simple_plain {X : Value} (h : simpleCmp X = true) : Value.plainCmp X = true := by cases X <;> simp_all [simpleCmp, Value.plainCmp]
theorem simple_guard {X : Value} (h : simpleCmp X = true) (P : Program) (op : BinOp) (t : TypeId) (ox oy : Operand) (Y : Value) (w : World) : (eqGuard op t ox oy X Y).run P w = .ok () w := by
  cases X <;> first | (simp [simpleCmp] at h; done) | (cases op <;> simp [eqGuard])

/-- What a comparison comes to, with the guard ahead of it. -/
theorem run_aEq (ok : C.OK) {ox oy : Operand} {t : TypeId} {x y : AV} {X Y : Value} {b : Bool} (h : aEq C ox oy t x y = some b) (hx : VRel ρ x X) (hy : VRel ρ y Y) (w : World) :
    (∀ op, (eqGuard op t ox oy X Y).run C.P w = .ok () w) ∧ (Op.equal t X Y).run C.P w = .ok b w ∧ Value.plainCmp X = true := by
  unfold aEq at h
  split at h
  · rename_i bare hk
    split at h
    · rename_i hc
      simp at h; subst h
      simp only [VRel] at hx hy; subst hx; subst hy
      obtain ⟨D, hD, hr⟩ := kind_und ok hk (by simp)
      simp only [KindRel] at hr
      obtain ⟨ms, rfl, _⟩ := hr
      refine ⟨fun op => ?_, eqIn_nn hD 9999 w, rfl⟩
      cases ox <;> cases oy <;> first
        | (simp [isConst] at hc; done)
        | (cases op <;> simp [eqGuard]; done)
    · simp at h
  · rename_i bare t' v' hk
    simp at h; subst h
    simp only [VRel] at hx hy; subst hx; obtain ⟨V, rfl, _⟩ := hy
    obtain ⟨D, hD, hr⟩ := kind_und ok hk (by simp)
    simp only [KindRel] at hr
    obtain ⟨ms, rfl, _⟩ := hr
    exact ⟨fun op => by cases op <;> simp [eqGuard], eqIn_ni hD 9999 _ _ w, rfl⟩
  · rename_i bare t' v' hk
    simp at h; subst h
    simp only [VRel] at hx hy; subst hy; obtain ⟨V, rfl, _⟩ := hx
    obtain ⟨D, hD, hr⟩ := kind_und ok hk (by simp)
    simp only [KindRel] at hr
    obtain ⟨ms, rfl, _⟩ := hr
    exact ⟨fun op => by cases op <;> simp [eqGuard], eqIn_in hD 9999 _ _ w, rfl⟩
  · rename_i bare tx v' ty v'' hk
    split at h
    · simp at h
    · rename_i hne
      simp at h; subst h
      simp only [VRel] at hx hy; obtain ⟨V, rfl, _⟩ := hx; obtain ⟨V', rfl, _⟩ := hy
      obtain ⟨D, hD, hr⟩ := kind_und ok hk (by simp)
      simp only [KindRel] at hr
      obtain ⟨ms, rfl, _⟩ := hr
      exact ⟨fun op => by cases op <;> simp [eqGuard], eqIn_ii hD 9999 _ _ hne _ _ w, rfl⟩
  · rename_i fs xs ys hk
    obtain ⟨D, hD, hr⟩ := kind_und ok hk (by simp)
    simp only [KindRel] at hr
    obtain ⟨F, rfl, _, hp⟩ := hr
    obtain ⟨_, _, hg⟩ := hp trivial
    have he := run_eqIn ok 100 10000 (by omega) t _ _ b h X Y hx hy w
    simp only [VRel] at hx hy
    obtain ⟨vs, rfl, _⟩ := hx
    obtain ⟨us, rfl, _⟩ := hy
    exact ⟨fun op => run_eqGuard_agg w op t ox oy vs us hg, he, rfl⟩
  · rename_i e a b' hk
    split at h
    · rename_i n hn
      split at h
      · rename_i hab
        subst hab
        simp at h; subst h
        obtain ⟨D, hD, hr⟩ := kind_und ok hk (by simp)
        simp only [KindRel] at hr; subst hr
        simp only [VRel] at hx hy
        obtain ⟨A, h1, rfl⟩ := hx; obtain ⟨B, h2, rfl⟩ := hy
        rw [ARel.fun h1 h2]
        refine ⟨fun op => simple_guard rfl C.P op t ox oy _ w, ?_, rfl⟩
        show (Op.equalIn (9999 + 1) t _ _).run C.P w = _
        exact eqIn_pp hD (run_sizeOf' ok hn w) 9999 B
      · simp at h
    · simp at h
  · split at h
    · rename_i hk1
      have he := run_eq1 ok rfl hk1 h hx hy 9999 w
      have hs := simple_of hk1 hx
      exact ⟨fun op => simple_guard hs C.P op t ox oy Y w, he, simple_plain hs⟩
    · simp at h

def aBin (C : Cx) (op : BinOp) (t : TypeId) (ox oy : Operand) (x y : AV) : Option AV :=
  match x, y with
  | .int k a, .int k' b =>
    match op with
    | .shl | .shr => aShift op k a b
    | _ => if k = k' then aInt op k a b else none
  | .str a, .str b => aStr op a b
  | x, y =>
    match op with
    | .eql => (aEq C ox oy t x y).map .bool
    | .neq => (aEq C ox oy t x y).map fun b => .bool (!b)
    | _ => none

theorem run_aBin (ok : C.OK) {op : BinOp} {t : TypeId} {ox oy : Operand} {x y v : AV} {X Y : Value} (h : aBin C op t ox oy x y = some v) (hx : VRel ρ x X) (hy : VRel ρ y Y) (w : World) :
    ∃ V, (do eqGuard op t ox oy X Y; binOp op t X Y : Sem Value).run C.P w = .ok V w ∧ VRel ρ v V := by
  unfold aBin at h
  split at h
  · rename_i k a k' b
    rw [int_rel hx, int_rel hy]
    have hg : (eqGuard op t ox oy (.int k a) (.int k' b)).run C.P w = .ok () w := by cases op <;> simp [eqGuard]
    have : ∃ V, (binOp op t (.int k a) (.int k' b)).run C.P w = .ok V w ∧ VRel ρ v V := by
      split at h
      · exact run_aShift h C.P w
      · exact run_aShift h C.P w
      · split at h
        · rename_i e; subst e; exact run_aInt h C.P w
        · simp at h
    obtain ⟨V, hV, hr⟩ := this
    exact ⟨V, by simp [hg, hV], hr⟩
  · rename_i a b
    rw [str_rel hx, str_rel hy]
    have hg : (eqGuard op t ox oy (.string ⟨a.toArray⟩) (.string ⟨b.toArray⟩)).run C.P w = .ok () w := by cases op <;> simp [eqGuard]
    obtain ⟨V, hV, hr⟩ := run_aStr (t := t) h C.P w
    exact ⟨V, by simp [hg, hV], hr⟩
  · split at h
    · simp only [Option.map_eq_some_iff] at h
      obtain ⟨b, hb, rfl⟩ := h
      obtain ⟨hg, he, hp⟩ := run_aEq ok hb hx hy w
      exact ⟨.bool b, by simp [hg, binOp_eql t X Y hp, he], by simp [VRel]⟩
    · simp only [Option.map_eq_some_iff] at h
      obtain ⟨b, hb, rfl⟩ := h
      obtain ⟨hg, he, hp⟩ := run_aEq ok hb hx hy w
      exact ⟨.bool (!b), by simp [hg, binOp_neq t X Y hp, he], by simp [VRel]⟩
    · simp at h

def aUn (op : UnOp) (x : AV) : Option AV :=
  match op, x with
  | .neg, .int k n => some (.int k (k.wrap (0 - n)))
  | .xor, .int k n => some (.int k (k.wrap (BitVec.ofInt k.bits (if k.signed then -1 else k.max) ^^^ BitVec.ofInt k.bits n).toNat))
  | .not, .bool b => some (.bool (!b))
  | _, _ => none

theorem run_aUn {op : UnOp} {x v : AV} {X : Value} (h : aUn op x = some v) (hx : VRel ρ x X) (P : Program) (w : World) : ∃ V, (Op.unary op X).run P w = .ok V w ∧ VRel ρ v V := by
  unfold aUn at h
  split at h <;> simp at h <;> subst h
  · rw [int_rel hx]; exact ⟨_, by simp only [Op.unary, Op.intArith]; rfl, by simp [VRel]⟩
  · rw [int_rel hx]; exact ⟨_, by simp only [Op.unary, Op.intBits]; rfl, by simp [VRel]⟩
  · rw [bool_rel hx]; exact ⟨_, by simp only [Op.unary]; rfl, by simp [VRel]⟩

/-! ### conversions that make no memory -/
def byteOf1 : AV → Option UInt8
  | .int .u8 n => some (UInt8.ofNat n.toNat)
  | _ => none

def aConv (C : Cx) (h : AH) (s d : TypeId) (x : AV) : Option AV :=
  match C.kind s, C.kind d, x with
  | .other, _, _ => none
  | _, .int k, .int _ n => some (.int k (k.wrap n))
  | _, .str, .str l => some (.str l)
  | .slice e, .str, .sl none _ _ _ => match C.kind e with | .int .u8 => some (.str []) | _ => none
  | .slice e, .str, .sl (some a) len _ _ => match C.kind e with
    | .int .u8 => if len = 0 then some (.str []) else (aCells C h a len).bind fun vs => (vs.mapM byteOf1).map .str
    | _ => none
  | .ptr t, .uptr, .ptr (some (.new k o)) => match h.get k, C.size t with
    | some (.cells cs _), some n => if n ≠ 0 ∧ o < cs.length then some (.ptr (some (.new k o))) else none
    | _, _ => none
  | .uptr, .ptr u, .ptr (some (.new k 0)) => match h.get k, C.size u with
    | some (.cells cs t), some n => if t = u ∧ n ≠ 0 ∧ n ≤ cs.length then some (.ptr (some (.new k 0))) else none
    | _, _ => none
  | _, _, _ => none

theorem bytes_of (vs : List AV) (l : List UInt8) (Vs : List Value) (h : vs.mapM byteOf1 = some l) (hr : VsRel ρ vs Vs) : ∃ ns : List Int, Vs = ns.map (Value.int .u8) ∧ l = ns.map fun n => UInt8.ofNat n.toNat := by
  induction vs generalizing l Vs with
  | nil => simp [VsRel] at h hr; exact ⟨[], by simp [hr], by simp [h]⟩
  | cons v vs ih =>
    simp only [List.mapM_cons, bind, Option.bind_eq_some_iff] at h
    obtain ⟨y, hy, ys, hys, hp⟩ := h
    simp [pure] at hp; subst hp
    simp only [VsRel] at hr
    obtain ⟨X, Xs, rfl, h1, h2⟩ := hr
    obtain ⟨ns, rfl, rfl⟩ := ih ys Xs hys h2
    unfold byteOf1 at hy
    split at hy
    · rename_i n
      simp at hy; subst hy
      exact ⟨n :: ns, by simp [int_rel h1], by simp⟩
    · simp at hy

theorem foldl_push (l : List UInt8) : ∀ s : ByteArray, l.foldl (fun r n => r.push n) s = ⟨(s.data.toList ++ l).toArray⟩ := by
  induction l with
  | nil => intro s; simp
  | cons c l ih =>
    intro s
    rw [List.foldl_cons, ih]
    simp [ByteArray.push]

theorem info_size (ok : C.OK) {t : TypeId} {n : Nat} (h : C.size t = some n) : ∃ i, C.P.info? t = some i ∧ i.size = n := by
  unfold Cx.size at h
  cases ht : C.ty t with
  | none => rw [ht] at h; simp at h
  | some a =>
    rw [ht] at h; simp at h
    obtain ⟨i, d, hi, _, hs, _⟩ := ok.ty t a ht
    exact ⟨i, hi, by rw [hs, h]⟩

/-- A variable lies where a row of its type begins. -/
theorem liesAt_one {P : Program} {e : TypeId} (hc : P.cellsOf e ≠ 0) (count : Nat) (hn : 1 ≤ count) : liesAt P P.depth e count 0 e 1 = true := by
  have hd : P.depth = (2 * (P.types.size + Made.depth) + 1) + 1 := rfl
  rw [hd]
  simp only [liesAt, Bool.or_eq_true]
  left
  rw [hd]
  simp [rowAt, hc, hn, sameLayout]

theorem run_aConv (ok : C.OK) (R : Rel C.W0 ρ h W) {s d : TypeId} {x v : AV} {X : Value} (hv : aConv C h s d x = some v) (hx : VRel ρ x X) :
    ∃ V, (convert s d X).run C.P W = .ok V W ∧ VRel ρ v V := by
  unfold aConv at hv
  split at hv
  · simp at hv
  · rename_i ks kd k k' n hs hd
    simp at hv; subst hv
    obtain ⟨Ds, hDs, _⟩ := kind_und ok rfl (by exact hd)
    obtain ⟨D, hD, hr⟩ := kind_und ok hs (by simp)
    simp only [KindRel] at hr; subst hr
    rw [int_rel hx]
    exact ⟨_, by simp only [convert, Sem.run_bind, run_und hDs, run_und hD, Result.andThen_ok]; rfl, by simp [VRel]⟩
  · rename_i ks kd l hs hd
    simp at hv; subst hv
    obtain ⟨Ds, hDs, _⟩ := kind_und ok rfl (by exact hd)
    obtain ⟨D, hD, hr⟩ := kind_und ok hs (by simp)
    simp only [KindRel] at hr; subst hr
    rw [str_rel hx]
    exact ⟨_, by simp only [convert, Sem.run_bind, run_und hDs, run_und hD, Result.andThen_ok]; rfl, by simp [VRel]⟩
  · rename_i e len cap gr hs hd
    split at hv
    · rename_i he
      simp at hv; subst hv
      obtain ⟨Ds, hDs, hr1⟩ := kind_und ok hs (by simp)
      obtain ⟨D, hD, hr2⟩ := kind_und ok hd (by simp)
      obtain ⟨De, hDe, hr3⟩ := kind_und ok he (by simp)
      simp only [KindRel] at hr1 hr2 hr3; subst hr1; subst hr2; subst hr3
      simp only [VRel] at hx
      obtain ⟨_, _, _, rfl⟩ := hx
      exact ⟨.string ByteArray.empty, by rw [run_convert_bytes_string W s d e none 0 0 hDs hDe hD]; simp [Conv.bytesToString], by simp only [VRel]; rfl⟩
    · simp at hv
  · rename_i e a len cap gr hs hd
    split at hv
    · rename_i he
      obtain ⟨Ds, hDs, hr1⟩ := kind_und ok hs (by simp)
      obtain ⟨D, hD, hr2⟩ := kind_und ok hd (by simp)
      obtain ⟨De, hDe, hr3⟩ := kind_und ok he (by simp)
      simp only [KindRel] at hr1 hr2 hr3; subst hr1; subst hr2; subst hr3
      split at hv
      · rename_i e0
        subst e0
        simp at hv; subst hv
        have : ∃ A c, X = .slice (some A) 0 c := by
          cases a with
          | base b o => simp only [VRel] at hx; exact ⟨_, _, hx.2⟩
          | new k o => simp only [VRel] at hx; obtain ⟨r, A, c, _, h1, _⟩ := hx; exact ⟨_, _, h1⟩
        obtain ⟨A, c, rfl⟩ := this
        refine ⟨.string ByteArray.empty, ?_, by simp only [VRel]; rfl⟩
        rw [run_convert_bytes_string W s d e _ _ _ hDs hDe hD]
        have := run_bytesToString (P := C.P) W A 0 c [] (by simp [loadCells, loadCellsFrom])
        simpa using this
      · rename_i hne
        simp only [Option.bind_eq_some_iff, Option.map_eq_some_iff] at hv
        obtain ⟨vs, hvs, l, hl, rfl⟩ := hv
        obtain ⟨A, c, rfl, hA⟩ := sl_addr hx (by omega)
        obtain ⟨Vs, hrun, hrel⟩ := loadCells_rel R hA hvs
        obtain ⟨ns, hns, rfl⟩ := bytes_of vs l Vs.toList hl hrel
        refine ⟨_, ?_, by simp only [VRel]; rfl⟩
        rw [run_convert_bytes_string W s d e _ _ _ hDs hDe hD, run_bytesToString (P := C.P) W A len c ns (by rw [hrun, ← hns])]
        have := foldl_push (ns.map fun n => UInt8.ofNat n.toNat) ByteArray.empty
        rw [List.foldl_map] at this
        rw [this]
        rfl
    · simp at hv
  · rename_i t k o hs hd
    split at hv
    · rename_i cs bt n hg hn
      split at hv
      · rename_i hc
        simp at hv; subst hv
        obtain ⟨Ds, hDs, hr1⟩ := kind_und ok hs (by simp)
        obtain ⟨D, hD, hr2⟩ := kind_und ok hd (by simp)
        simp only [KindRel] at hr1 hr2; subst hr1; subst hr2
        obtain ⟨j, hj, hjn⟩ := info_size ok hn
        have hx' := hx
        simp only [VRel] at hx
        obtain ⟨A, ⟨r, hr, rfl⟩, rfl⟩ := hx
        obtain ⟨r', hr', _, c, fr, hb, hz, hlen, _⟩ := R.live k _ hg
        rw [hr] at hr'; cases hr'
        refine ⟨_, Lib.run_to_unsafe W _ hDs hD hj (by omega) (show W.shape? r.b = some (bt, c.size) by simp [World.shape?, hb]) (by show r.s + o < c.size; omega), hx'⟩
      · simp at hv
    · simp at hv
  · rename_i u k hs hd
    split at hv
    · rename_i cs bt n hg hn
      split at hv
      · rename_i hc
        obtain ⟨rfl, hn0, hle⟩ := hc
        simp at hv; subst hv
        obtain ⟨Ds, hDs, hr1⟩ := kind_und ok hs (by simp)
        obtain ⟨D, hD, hr2⟩ := kind_und ok hd (by simp)
        simp only [KindRel] at hr1 hr2; subst hr1; subst hr2
        obtain ⟨j, hj, hjn⟩ := info_size ok hn
        have hx' := hx
        simp only [VRel] at hx
        obtain ⟨A, ⟨r, hr, rfl⟩, rfl⟩ := hx
        obtain ⟨r', hr', _, c, fr, hb, hz, hlen, _⟩ := R.live k _ hg
        rw [hr] at hr'; cases hr'
        have h0 := R.home r (List.mem_of_getElem? hr)
        have hcs : C.P.cellsOf bt = n := by simp [Program.cellsOf, hj, hjn]
        refine ⟨_, Lib.run_from_unsafe W _ hDs hD hj (show W.shape? r.b = some (bt, c.size) by simp [World.shape?, hb]) ?_, hx'⟩
        rw [h0, hcs]
        refine liesAt_one (by omega) _ ?_
        exact (Nat.one_le_div_iff (by omega)).2 (by omega)
      · simp at hv
    · simp at hv
  · simp at hv

end
end Go.Proofs.Ytgcoipcnhmkeaaa.Ax
