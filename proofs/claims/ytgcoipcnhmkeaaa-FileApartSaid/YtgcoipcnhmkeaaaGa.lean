/- The texts Ax1, Ax2, Ax3, Ax4, Ax5, Ax6, Ax7, Ax8, Ax9, Ax10, Ax11, Ax12, Ax13, Ax14, Ax15, as one. -/
import Derived.Below
import Derived.WalkKit
import Derived.Laws.Strings
import Derived.Laws.Entries
import Derived.Laws.StructEq
import Derived.Laws.BytesString
import Derived.Laws.Slices
import Derived.Lib.Builder
import Derived.Lib.UnsafeStr
import Derived.Laws.AppendOwn
import Derived.Lib.ConvBytes
import Derived.Laws.RangeString

/-! AX, part 1: abstract values, the abstract heap, what relates them to the machine's world -/
section
set_option linter.unusedVariables false
set_option linter.unusedSimpArgs false
namespace Go.Proofs.Ytgcoipcnhmkeaaa.Ax
open Go.RowKit

/-- An address: in memory that was there (base), or in an own block. -/
inductive AA where
  | base (b off : Nat)
  | new (k off : Nat)
  deriving DecidableEq, Inhabited

def AA.add : AA → Nat → AA
  | .base b o, n => .base b (o + n)
  | .new k o, n => .new k (o + n)

inductive AV where
  | bad
  | bool (b : Bool)
  | int (k : IntKind) (n : Int)
  | str (s : List UInt8)
  | ptr (a : Option AA)
  | sl (a : Option AA) (len cap : Nat) (gr : Option Nat)
  | map (r : Option Nat)
  | fn (f : Fn) (first captured : List AV)
  | nilfn
  | ifc (t : TypeId) (v : AV)
  | nilifc
  | agg (cs : List AV)
  | tup (vs : List AV)
  deriving Inhabited

abbrev AV.undef : AV := .tup []
abbrev AV.i (n : Int) : AV := .int .i64 n

/-- Of each own block: the machine's block, the first cell's place, the machine's block's cells.
('sl .. gr': 'none': the capacity is 'cap'; 'some n': it is 'cap' or more, an element has n cells.) -/
structure RE where
  b : Nat
  s : Nat
  z : Nat
abbrev Rho := List RE

def ARel (ρ : Rho) : AA → Addr → Prop
  | .base b o, A => A = ⟨b, o, none⟩
  | .new k o, A => ∃ r, ρ[k]? = some r ∧ A = ⟨r.b, r.s + o, none⟩

mutual
def VRel (ρ : Rho) : AV → Value → Prop
  | .bad, _ => True
  | .bool b, V => V = .bool b
  | .int k n, V => V = .int k n
  | .str l, V => V = .string ⟨l.toArray⟩
  | .ptr none, V => V = .pointer none
  | .ptr (some a), V => ∃ A, ARel ρ a A ∧ V = .pointer (some A)
  | .sl none len cap gr, V => len = 0 ∧ cap = 0 ∧ gr = none ∧ V = .slice none 0 0
  | .sl (some (.base b o)) len cap gr, V => gr = none ∧ ∃ A, V = .slice (some A) len cap ∧ (A = ⟨b, o, none⟩ ∨ len = 0 ∧ cap = 0)
  | .sl (some (.new k o)) len cap gr, V => ∃ r A cap', ρ[k]? = some r ∧ V = .slice (some A) len cap' ∧ len ≤ cap' ∧ cap ≤ cap' ∧ (gr = none → cap' = cap) ∧
      (A = ⟨r.b, r.s + o, none⟩ ∧ (∀ n, gr = some n → r.s + o + cap' * n ≤ r.z) ∨ cap' = 0)
  | .map none, V => V = .map none
  | .map (some k), V => ∃ r, ρ[k]? = some r ∧ V = .map (some r.b)
  | .fn f xs ys, V => ∃ vs ws, V = .func f vs ws ∧ VsRel ρ xs vs.toList ∧ VsRel ρ ys ws.toList
  | .nilfn, V => V = .nilFunc
  | .ifc t v, V => ∃ x, V = .iface t x ∧ VRel ρ v x
  | .nilifc, V => V = .nilIface
  | .agg cs, V => ∃ vs, V = .agg vs ∧ VsRel ρ cs vs.toList
  | .tup cs, V => ∃ vs, V = .tuple vs ∧ VsRel ρ cs vs.toList
def VsRel (ρ : Rho) : List AV → List Value → Prop
  | [], l => l = []
  | v :: vs, l => ∃ x xs, l = x :: xs ∧ VRel ρ v x ∧ VsRel ρ vs xs
end

theorem get?_prefix {ρ ρ' : Rho} (h : ρ <+: ρ') {k : Nat} {r : RE} (hr : ρ[k]? = some r) : ρ'[k]? = some r := by
  obtain ⟨t, rfl⟩ := h
  rw [List.getElem?_append_left (List.getElem?_eq_some_iff.1 hr).1]
  exact hr

theorem ARel.mono {ρ ρ' : Rho} (h : ρ <+: ρ') {a : AA} {A : Addr} (ha : ARel ρ a A) : ARel ρ' a A := by
  cases a with
  | base b o => exact ha
  | new k o => obtain ⟨r, hr, hA⟩ := ha; exact ⟨r, get?_prefix h hr, hA⟩

mutual
theorem VRel.mono {ρ ρ' : Rho} (h : ρ <+: ρ') : (v : AV) → (V : Value) → VRel ρ v V → VRel ρ' v V
  | .bad, _, _ => by simp [VRel]
  | .bool b, V, hv => by simpa [VRel] using hv
  | .int k n, V, hv => by simpa [VRel] using hv
  | .str l, V, hv => by simpa [VRel] using hv
  | .ptr none, V, hv => by simpa [VRel] using hv
  | .ptr (some a), V, hv => by
    simp only [VRel] at hv ⊢
    obtain ⟨A, hA, hV⟩ := hv
    exact ⟨A, hA.mono h, hV⟩
  | .sl none len cap gr, V, hv => by simpa [VRel] using hv
  | .sl (some (.base b o)) len cap gr, V, hv => by simpa [VRel] using hv
  | .sl (some (.new k o)) len cap gr, V, hv => by
    simp only [VRel] at hv ⊢
    obtain ⟨r, A, cap', hr, hrest⟩ := hv
    exact ⟨r, A, cap', get?_prefix h hr, hrest⟩
  | .map none, V, hv => by simpa [VRel] using hv
  | .map (some k), V, hv => by
    simp only [VRel] at hv ⊢
    obtain ⟨r, hr, hV⟩ := hv
    exact ⟨r, get?_prefix h hr, hV⟩
  | .fn f xs ys, V, hv => by
    simp only [VRel] at hv ⊢
    obtain ⟨vs, ws, hV, h1, h2⟩ := hv
    exact ⟨vs, ws, hV, VsRel.mono h xs _ h1, VsRel.mono h ys _ h2⟩
  | .nilfn, V, hv => by simpa [VRel] using hv
  | .ifc t v, V, hv => by
    simp only [VRel] at hv ⊢
    obtain ⟨x, hV, hx⟩ := hv
    exact ⟨x, hV, VRel.mono h v x hx⟩
  | .nilifc, V, hv => by simpa [VRel] using hv
  | .agg cs, V, hv => by
    simp only [VRel] at hv ⊢
    obtain ⟨vs, hV, h1⟩ := hv
    exact ⟨vs, hV, VsRel.mono h cs _ h1⟩
  | .tup cs, V, hv => by
    simp only [VRel] at hv ⊢
    obtain ⟨vs, hV, h1⟩ := hv
    exact ⟨vs, hV, VsRel.mono h cs _ h1⟩
theorem VsRel.mono {ρ ρ' : Rho} (h : ρ <+: ρ') : (vs : List AV) → (l : List Value) → VsRel ρ vs l → VsRel ρ' vs l
  | [], l, hl => by simpa [VsRel] using hl
  | v :: vs, l, hl => by
    simp only [VsRel] at hl ⊢
    obtain ⟨x, xs, rfl, h1, h2⟩ := hl
    exact ⟨x, xs, rfl, VRel.mono h v x h1, VsRel.mono h vs xs h2⟩
end

theorem VsRel.length {ρ : Rho} : {vs : List AV} → {l : List Value} → VsRel ρ vs l → l.length = vs.length
  | [], l, h => by simp only [VsRel] at h; simp [h]
  | v :: vs, l, h => by
    simp only [VsRel] at h
    obtain ⟨x, xs, rfl, _, h2⟩ := h
    simp [VsRel.length h2]

theorem VsRel.get {ρ : Rho} : {vs : List AV} → {l : List Value} → VsRel ρ vs l → ∀ (i : Nat) (v : AV), vs[i]? = some v → ∃ V, l[i]? = some V ∧ VRel ρ v V
  | [], l, h, i, v, hi => by simp at hi
  | w :: vs, l, h, i, v, hi => by
    simp only [VsRel] at h
    obtain ⟨x, xs, rfl, h1, h2⟩ := h
    cases i with
    | zero => simp at hi; subst hi; exact ⟨x, by simp, h1⟩
    | succ i => simp at hi; simpa using VsRel.get h2 i v hi

theorem VsRel.of_get {ρ : Rho} : {vs : List AV} → {l : List Value} → l.length = vs.length → (∀ (i : Nat) (v : AV), vs[i]? = some v → ∃ V, l[i]? = some V ∧ VRel ρ v V) → VsRel ρ vs l
  | [], l, hl, _ => by simp only [VsRel]; simpa using hl
  | w :: vs, l, hl, h => by
    cases l with
    | nil => simp at hl
    | cons x xs =>
      simp only [VsRel]
      refine ⟨x, xs, rfl, ?_, VsRel.of_get (by simpa using hl) fun i v hi => ?_⟩
      · obtain ⟨V, hV, hr⟩ := h 0 w (by simp)
        simp at hV; subst hV; exact hr
      · simpa using h (i + 1) v (by simpa using hi)

theorem VsRel.append {ρ : Rho} : {vs ws : List AV} → {l m : List Value} → VsRel ρ vs l → VsRel ρ ws m → VsRel ρ (vs ++ ws) (l ++ m)
  | [], ws, l, m, h1, h2 => by simp only [VsRel] at h1; subst h1; simpa using h2
  | v :: vs, ws, l, m, h1, h2 => by
    simp only [VsRel] at h1
    obtain ⟨x, xs, rfl, h3, h4⟩ := h1
    simp only [List.cons_append, VsRel]
    exact ⟨x, xs ++ m, rfl, h3, h4.append h2⟩

theorem VsRel.take {ρ : Rho} {vs : List AV} {l : List Value} (h : VsRel ρ vs l) (n : Nat) : VsRel ρ (vs.take n) (l.take n) := by
  have hl := h.length
  refine VsRel.of_get (by simp [hl]) fun i v hi => ?_
  rw [List.getElem?_take] at hi ⊢
  split at hi
  · rename_i hlt
    simp only [hlt, if_true]
    exact h.get i v hi
  · simp at hi

theorem VsRel.drop {ρ : Rho} {vs : List AV} {l : List Value} (h : VsRel ρ vs l) (n : Nat) : VsRel ρ (vs.drop n) (l.drop n) := by
  have hl := h.length
  refine VsRel.of_get (by simp [hl]) fun i v hi => ?_
  rw [List.getElem?_drop] at hi ⊢
  exact h.get _ v hi

theorem VsRel.set {ρ : Rho} {vs : List AV} {l : List Value} (h : VsRel ρ vs l) (n : Nat) {v : AV} {V : Value} (hv : VRel ρ v V) : VsRel ρ (vs.set n v) (l.set n V) := by
  have hl := h.length
  refine VsRel.of_get (by simp [hl]) fun i w hi => ?_
  rw [List.getElem?_set] at hi ⊢
  rw [hl]
  split at hi
  · rename_i e
    split at hi
    · rename_i hlt
      simp only [e, if_true]
      simp at hi; subst hi
      exact ⟨V, by simp [← e, hlt], hv⟩
    · simp at hi
  · rename_i e
    simp only [e, if_false]
    exact h.get i w hi

theorem VsRel.replicate {ρ : Rho} {v : AV} {V : Value} (h : VRel ρ v V) (n : Nat) : VsRel ρ (List.replicate n v) (List.replicate n V) := by
  refine VsRel.of_get (by simp) fun i w hi => ?_
  rw [List.getElem?_replicate] at hi ⊢
  split at hi
  · rename_i hlt
    simp at hi; subst hi
    exact ⟨V, by simp [hlt], h⟩
  · simp at hi

/-- A value that is read out of memory that was there, or a constant. -/
def qz9 : Nat → Value → AV
  | 0, _ => .bad
  | _ + 1, .bool b => .bool b
  | _ + 1, .int k n => .int k n
  | _ + 1, .string s => .str s.data.toList
  | _ + 1, .pointer none => .ptr none
  | _ + 1, .pointer (some ⟨b, o, none⟩) => .ptr (some (.base b o))
  | _ + 1, .slice none 0 0 => .sl none 0 0 none
  | _ + 1, .slice (some a) 0 0 => .sl (some (.base a.block a.off)) 0 0 none
  | _ + 1, .slice (some ⟨b, o, none⟩) len cap => .sl (some (.base b o)) len cap none
  | _ + 1, .map none => .map none
  | _ + 1, .nilFunc => .nilfn
  | _ + 1, .nilIface => .nilifc
  | n + 1, .iface t v => .ifc t (qz9 n v)
  | n + 1, .agg cs => .agg (cs.toList.map (qz9 n))
  | n + 1, .tuple cs => .tup (cs.toList.map (qz9 n))
  | n + 1, .func f xs ys => .fn f (xs.toList.map (qz9 n)) (ys.toList.map (qz9 n))
  | _ + 1, _ => .bad

theorem VsRel.map {ρ : Rho} {f : Value → AV} (l : List Value) (h : ∀ x ∈ l, VRel ρ (f x) x) : VsRel ρ (l.map f) l := by
  refine VsRel.of_get (by simp) fun i v hi => ?_
  simp only [List.getElem?_map, Option.map_eq_some_iff] at hi
  obtain ⟨x, hx, rfl⟩ := hi
  exact ⟨x, hx, h x (List.mem_of_getElem? hx)⟩

theorem ofVn_rel (ρ : Rho) : (n : Nat) → (v : Value) → VRel ρ (qz9 n v) v
  | 0, _ => by simp [qz9, VRel]
  | n + 1, v => by
    cases v with
    | pointer a =>
      cases a with
      | none => simp [qz9, VRel]
      | some a =>
        obtain ⟨b, o, sp⟩ := a
        cases sp <;> simp [qz9, VRel, ARel]
    | slice a len cap =>
      cases a with
      | none => cases len <;> cases cap <;> simp [qz9, VRel]
      | some a =>
        obtain ⟨b, o, sp⟩ := a
        cases sp <;> cases len <;> cases cap <;> simp [qz9, VRel]
    | map r => cases r <;> simp [qz9, VRel]
    | iface t v => simp only [qz9, VRel]; exact ⟨v, rfl, ofVn_rel ρ n v⟩
    | agg cs => simp only [qz9, VRel]; exact ⟨cs, rfl, VsRel.map _ fun x _ => ofVn_rel ρ n x⟩
    | tuple cs => simp only [qz9, VRel]; exact ⟨cs, rfl, VsRel.map _ fun x _ => ofVn_rel ρ n x⟩
    | func f xs ys => simp only [qz9, VRel]; exact ⟨xs, ys, rfl, VsRel.map _ fun x _ => ofVn_rel ρ n x, VsRel.map _ fun x _ => ofVn_rel ρ n x⟩
    | string s => simp [qz9, VRel]
    | _ => simp [qz9, VRel]

abbrev qy9 : Value → AV := qz9 4
theorem ofV_rel (ρ : Rho) (v : Value) : VRel ρ (qy9 v) v := ofVn_rel ρ 4 v

/-! ### a store of own blocks -/

inductive Tr (α : Type) where
  | leaf
  | node (v : Option α) (l r : Tr α)

def Tr.get {α : Type} : Tr α → Nat → Option α
  | .leaf, _ => none
  | .node v _ _, 0 => v
  | .node _ l r, n + 1 => if n % 2 = 0 then l.get (n / 2) else r.get (n / 2)

/-- 'fuel' more than the number of digits. -/
def Tr.setF {α : Type} : Nat → Tr α → Nat → Option α → Tr α
  | 0, t, _, _ => t
  | _ + 1, .leaf, 0, x => .node x .leaf .leaf
  | f + 1, .leaf, n + 1, x => if n % 2 = 0 then .node none (Tr.setF f .leaf (n / 2) x) .leaf else .node none .leaf (Tr.setF f .leaf (n / 2) x)
  | _ + 1, .node _ l r, 0, x => .node x l r
  | f + 1, .node v l r, n + 1, x => if n % 2 = 0 then .node v (Tr.setF f l (n / 2) x) r else .node v l (Tr.setF f r (n / 2) x)
def Tr.set {α : Type} (t : Tr α) (n : Nat) (x : Option α) : Tr α := Tr.setF (n + 1) t n x

theorem Tr.get_leaf {α : Type} (n : Nat) : (Tr.leaf : Tr α).get n = none := by simp [Tr.get]

theorem Tr.get_setF {α : Type} (x : Option α) : ∀ (f : Nat) (t : Tr α) (n m : Nat), n < f → (Tr.setF f t n x).get m = if m = n then x else t.get m := by
  intro f
  induction f with
  | zero => intro t n m h; omega
  | succ f ih =>
    intro t n m h
    cases t with
    | leaf =>
      cases n with
      | zero => cases m with
        | zero => simp [Tr.setF, Tr.get]
        | succ m => simp [Tr.setF, Tr.get]
      | succ n =>
        cases m with
        | zero => by_cases e : n % 2 = 0 <;> simp [Tr.setF, Tr.get, e]
        | succ m =>
          by_cases e : n % 2 = 0
          · simp only [Tr.setF, e, if_true, Tr.get]
            by_cases e' : m % 2 = 0
            · simp only [e', if_true]
              rw [ih _ _ _ (by omega)]
              by_cases hm : m = n
              · subst hm; simp
              · have : ¬ m / 2 = n / 2 := by omega
                simp [hm, this, Tr.get]
            · have hm : ¬ m = n := fun hh => e' (hh ▸ e)
              simp [e', hm]
          · simp only [Tr.setF, e, if_false, Tr.get]
            by_cases e' : m % 2 = 0
            · have hm : ¬ m = n := fun hh => e (hh ▸ e')
              simp [e', hm]
            · simp only [e', if_false]
              rw [ih _ _ _ (by omega)]
              by_cases hm : m = n
              · subst hm; simp
              · have : ¬ m / 2 = n / 2 := by omega
                simp [hm, this, Tr.get]
    | node v l r =>
      cases n with
      | zero => cases m with
        | zero => simp [Tr.setF, Tr.get]
        | succ m => simp [Tr.setF, Tr.get]
      | succ n =>
        cases m with
        | zero => by_cases e : n % 2 = 0 <;> simp [Tr.setF, Tr.get, e]
        | succ m =>
          by_cases e : n % 2 = 0
          · simp only [Tr.setF, e, if_true, Tr.get]
            by_cases e' : m % 2 = 0
            · simp only [e', if_true]
              rw [ih _ _ _ (by omega)]
              by_cases hm : m = n
              · subst hm; simp
              · have : ¬ m / 2 = n / 2 := by omega
                simp [hm, this]
            · have hm : ¬ m = n := fun hh => e' (hh ▸ e)
              simp [e', hm]
          · simp only [Tr.setF, e, if_false, Tr.get]
            by_cases e' : m % 2 = 0
            · have hm : ¬ m = n := fun hh => e (hh ▸ e')
              simp [e', hm]
            · simp only [e', if_false]
              rw [ih _ _ _ (by omega)]
              by_cases hm : m = n
              · subst hm; simp
              · have : ¬ m / 2 = n / 2 := by omega
                simp [hm, this]

theorem Tr.get_set {α : Type} (t : Tr α) (n m : Nat) (x : Option α) : (t.set n x).get m = if m = n then x else t.get m :=
  Tr.get_setF x (n + 1) t n m (by omega)

structure AEnt where
  key : AV
  val : AV
  born : Nat

inductive AObj where
  | cells (cs : List AV) (t : TypeId)
  | map (es : List AEnt) (clock : Nat)
  | siter (s : List UInt8) (pos : Nat)
  | miter (m : Option Nat) (since : Nat) (seen : List Nat) (last : Nat)

structure AH where
  mem : Tr AObj
  next : Nat

def AH.get (h : AH) (k : Nat) : Option AObj := h.mem.get k
def AH.set (h : AH) (k : Nat) (o : AObj) : AH := { h with mem := h.mem.set k (some o) }
def AH.kill (h : AH) (k : Nat) : AH := { h with mem := h.mem.set k none }
def AH.push (h : AH) (o : AObj) : AH := { mem := h.mem.set h.next (some o), next := h.next + 1 }
def AH.empty : AH := { mem := .leaf, next := 0 }

@[simp] theorem AH.get_set (h : AH) (k m : Nat) (o : AObj) : (h.set k o).get m = if m = k then some o else h.get m := by simp [AH.get, AH.set, Tr.get_set]
@[simp] theorem AH.get_kill (h : AH) (k m : Nat) : (h.kill k).get m = if m = k then none else h.get m := by simp [AH.get, AH.kill, Tr.get_set]
@[simp] theorem AH.get_push (h : AH) (m : Nat) (o : AObj) : (h.push o).get m = if m = h.next then some o else h.get m := by simp [AH.get, AH.push, Tr.get_set]
@[simp] theorem AH.get_empty (m : Nat) : AH.empty.get m = none := by simp [AH.get, AH.empty, Tr.get]
@[simp] theorem AH.next_set (h : AH) (k : Nat) (o : AObj) : (h.set k o).next = h.next := rfl
@[simp] theorem AH.next_kill (h : AH) (k : Nat) : (h.kill k).next = h.next := rfl
@[simp] theorem AH.next_push (h : AH) (o : AObj) : (h.push o).next = h.next + 1 := rfl
@[simp] theorem AH.next_empty : AH.empty.next = 0 := rfl

/-! ### the world behind an abstract heap -/

def EntRel (ρ : Rho) (a : AEnt) (e : MapEntry) : Prop := VRel ρ a.key e.key ∧ VRel ρ a.val e.val ∧ a.born = e.born

def EntsRel (ρ : Rho) : List AEnt → List MapEntry → Prop
  | [], l => l = []
  | a :: as, l => ∃ e es, l = e :: es ∧ EntRel ρ a e ∧ EntsRel ρ as es

def ORel (W : World) (ρ : Rho) (r : RE) : AObj → Prop
  | .cells cs t => ∃ c fr, W.heap[r.b]? = some (.cells c t fr) ∧ c.size = r.z ∧ r.s + cs.length ≤ r.z ∧
      (∀ (i : Nat) (v : AV), cs[i]? = some v → ∃ V, c[r.s + i]? = some V ∧ VRel ρ v V) ∧ (∀ j, j < c.size → ¬ (fr.1 ≤ j ∧ j < fr.2))
  | .map es clock => ∃ es', W.heap[r.b]? = some (.map es' clock) ∧ EntsRel ρ es es'.toList
  | .siter s pos => r.s = 0 ∧ W.heap[r.b]? = some (.stringIter ⟨s.toArray⟩ pos)
  | .miter m since seen last => r.s = 0 ∧ ∃ m', W.heap[r.b]? = some (.mapIter m' since seen.toArray last) ∧ (match m with | none => m' = none | some k => ∃ r', ρ[k]? = some r' ∧ m' = some r'.b)

structure Rel (W0 : World) (ρ : Rho) (h : AH) (W : World) : Prop where
  below : Below W0.heap.size W0 W
  len : ρ.length = h.next
  live : ∀ k o, h.get k = some o → ∃ r, ρ[k]? = some r ∧ W0.heap.size ≤ r.b ∧ ORel W ρ r o
  inj : ∀ k k' o o' r r', h.get k = some o → h.get k' = some o' → ρ[k]? = some r → ρ[k']? = some r' → r.b = r'.b → k = k'
  home : ∀ r ∈ ρ, r.s = 0

theorem EntsRel.mono {ρ ρ' : Rho} (h : ρ <+: ρ') : {as : List AEnt} → {es : List MapEntry} → EntsRel ρ as es → EntsRel ρ' as es
  | [], es, he => by simpa [EntsRel] using he
  | a :: as, es, he => by
    simp only [EntsRel] at he ⊢
    obtain ⟨e, es, rfl, ⟨h1, h2, h3⟩, h4⟩ := he
    exact ⟨e, es, rfl, ⟨h1.mono h, h2.mono h, h3⟩, h4.mono h⟩

theorem ORel.mono {W : World} {ρ ρ' : Rho} (h : ρ <+: ρ') {r : RE} {o : AObj} (ho : ORel W ρ r o) : ORel W ρ' r o := by
  cases o with
  | cells cs t =>
    obtain ⟨c, fr, h1, h2, h3, h4, h5⟩ := ho
    exact ⟨c, fr, h1, h2, h3, fun i v hi => let ⟨V, a, b⟩ := h4 i v hi; ⟨V, a, b.mono h⟩, h5⟩
  | map es clock => obtain ⟨es', h1, h2⟩ := ho; exact ⟨es', h1, h2.mono h⟩
  | siter s pos => exact ho
  | miter m since seen last =>
    obtain ⟨h0, m', h1, h2⟩ := ho
    refine ⟨h0, m', h1, ?_⟩
    cases m with
    | none => exact h2
    | some k => obtain ⟨r', hr, hm⟩ := h2; exact ⟨r', get?_prefix h hr, hm⟩

/-- What an own block's object says hangs on that block alone. -/
theorem ORel.world {W W' : World} {ρ : Rho} {r : RE} {o : AObj} (he : W'.heap[r.b]? = W.heap[r.b]?) (ho : ORel W ρ r o) : ORel W' ρ r o := by
  cases o with
  | cells cs t => obtain ⟨c, fr, h1, h2⟩ := ho; exact ⟨c, fr, he.trans h1, h2⟩
  | map es clock => obtain ⟨es', h1, h2⟩ := ho; exact ⟨es', he.trans h1, h2⟩
  | siter s pos => exact ⟨ho.1, he.trans ho.2⟩
  | miter m since seen last => obtain ⟨h0, m', h1, h2⟩ := ho; exact ⟨h0, m', he.trans h1, h2⟩

theorem ORel.lt {W : World} {ρ : Rho} {r : RE} {o : AObj} (ho : ORel W ρ r o) : r.b < W.heap.size := by
  rcases Nat.lt_or_ge r.b W.heap.size with h | h
  · exact h
  · have e := Array.getElem?_eq_none h
    cases o with
    | cells cs t => obtain ⟨c, fr, h1, _⟩ := ho; rw [e] at h1; cases h1
    | map es clock => obtain ⟨es', h1, _⟩ := ho; rw [e] at h1; cases h1
    | siter s pos => have h1 : W.heap[r.b]? = _ := ho.2; rw [e] at h1; cases h1
    | miter m since seen last => obtain ⟨_, m', h1, _⟩ := ho; rw [e] at h1; cases h1

theorem Rel.get_lt {W0 W : World} {ρ : Rho} {h : AH} (R : Rel W0 ρ h W) {k : Nat} {o : AObj} (hk : h.get k = some o) : k < h.next := by
  obtain ⟨r, hr, _⟩ := R.live k o hk
  rw [← R.len]
  exact (List.getElem?_eq_some_iff.1 hr).1

/-- A draw. -/
theorem Rel.drew {W0 W : World} {ρ : Rho} {h : AH} (R : Rel W0 ρ h W) : Rel W0 ρ h W.drew :=
  ⟨R.below.drew, R.len, fun k o hk => let ⟨r, hr, hb, ho⟩ := R.live k o hk; ⟨r, hr, hb, ho.world rfl⟩, R.inj, R.home⟩

/-- A new block. -/
theorem Rel.push {W0 W : World} {ρ : Rho} {h : AH} (R : Rel W0 ρ h W) (o : AObj) (O : Obj) (s z : Nat)
    (ho : ∀ W', W'.heap[W.heap.size]? = some O → ORel W' (ρ ++ [⟨W.heap.size, s, z⟩]) ⟨W.heap.size, s, z⟩ o) (hs : s = 0 := by rfl) :
    Rel W0 (ρ ++ [⟨W.heap.size, s, z⟩]) (h.push o) (W.alloc O) := by
  have hp : ρ <+: ρ ++ [⟨W.heap.size, s, z⟩] := List.prefix_append _ _
  have hsz : W0.heap.size ≤ W.heap.size := R.below.size
  refine ⟨R.below.alloc hsz O, by simp [R.len], fun k o' hk => ?_, fun k k' o1 o2 r r' hk hk' hr hr' hb => ?_, fun r hr => by
    rcases List.mem_append.1 hr with hr | hr
    · exact R.home r hr
    · simp only [List.mem_singleton] at hr; rw [hr]; exact hs⟩
  · rw [AH.get_push] at hk
    split at hk
    · rename_i e
      cases hk
      refine ⟨⟨W.heap.size, s, z⟩, ?_, hsz, ho _ ?_⟩
      · rw [e, ← R.len]; simp
      · show (W.heap.push O)[W.heap.size]? = _; simp
    · obtain ⟨r, hr, hb, hO⟩ := R.live k o' hk
      refine ⟨r, get?_prefix hp hr, hb, ORel.mono hp (hO.world ?_)⟩
      show (W.heap.push O)[r.b]? = _
      rw [Array.getElem?_push, if_neg (by have := hO.lt; omega)]
  · have key : ∀ (k : Nat) (o : AObj) (r : RE), h.get k = some o → (ρ ++ [⟨W.heap.size, s, z⟩])[k]? = some r → ρ[k]? = some r ∧ r.b < W.heap.size := by
      intro k o r hk hr
      obtain ⟨r0, hr0, hb0, hO⟩ := R.live k o hk
      have := get?_prefix hp hr0
      rw [hr] at this
      cases this
      exact ⟨hr0, hO.lt⟩
    have last : ∀ (r : RE), (ρ ++ [⟨W.heap.size, s, z⟩])[h.next]? = some r → r.b = W.heap.size := by
      intro r hr
      rw [← R.len] at hr
      simp at hr
      rw [← hr]
    rw [AH.get_push] at hk hk'
    split at hk <;> split at hk'
    · rename_i e e'; omega
    · rename_i e e'
      subst e
      obtain ⟨_, h2⟩ := key k' o2 r' hk' hr'
      have := last r hr
      omega
    · rename_i e e'
      subst e'
      obtain ⟨_, h2⟩ := key k o1 r hk hr
      have := last r' hr'
      omega
    · obtain ⟨h1, _⟩ := key k o1 r hk hr
      obtain ⟨h2, _⟩ := key k' o2 r' hk' hr'
      exact R.inj k k' o1 o2 r r' hk hk' h1 h2 hb

/-- An own block is written. -/
theorem Rel.set {W0 W W' : World} {ρ : Rho} {h : AH} (R : Rel W0 ρ h W) {k : Nat} {o0 : AObj} (hk : h.get k = some o0) (o : AObj) {r : RE} (hr : ρ[k]? = some r)
    (hW : ∀ j, j ≠ r.b → W'.heap[j]? = W.heap[j]?) (hs : W'.heap.size = W.heap.size) (h1 : W'.os = W.os) (h2 : W'.tape = W.tape) (h3 : W'.output = W.output)
    (ho : ORel W' ρ r o) : Rel W0 ρ (h.set k o) W' := by
  obtain ⟨r0, hr0, hb0, hO⟩ := R.live k o0 hk
  rw [hr] at hr0; cases hr0
  refine ⟨R.below.trans ⟨h1, h2, h3, by omega, fun j hj => hW j (by omega)⟩, R.len, fun k' o' hk' => ?_, fun k1 k2 o1 o2 r1 r2 hk1 hk2 => ?_, R.home⟩
  · rw [AH.get_set] at hk'
    split at hk'
    · rename_i e; cases hk'; subst e; exact ⟨r, hr, hb0, ho⟩
    · rename_i e
      obtain ⟨r', hr', hb', hO'⟩ := R.live k' o' hk'
      refine ⟨r', hr', hb', hO'.world (hW _ fun he => e (R.inj k' k o' o0 r' r hk' hk hr' hr he))⟩
  · have : ∀ j oj, (h.set k o).get j = some oj → ∃ oj', h.get j = some oj' := by
      intro j oj hj
      rw [AH.get_set] at hj
      split at hj
      · rename_i e; subst e; exact ⟨o0, hk⟩
      · exact ⟨oj, hj⟩
    obtain ⟨o1', e1⟩ := this k1 o1 hk1
    obtain ⟨o2', e2⟩ := this k2 o2 hk2
    exact R.inj k1 k2 o1' o2' r1 r2 e1 e2

/-- An own block is no more looked at. -/
theorem Rel.kill {W0 W : World} {ρ : Rho} {h : AH} (R : Rel W0 ρ h W) (k : Nat) : Rel W0 ρ (h.kill k) W := by
  have sub : ∀ j o, (h.kill k).get j = some o → h.get j = some o := by
    intro j o hj
    rw [AH.get_kill] at hj
    split at hj
    · cases hj
    · exact hj
  exact ⟨R.below, R.len, fun j o hj => R.live j o (sub j o hj), fun k1 k2 o1 o2 r1 r2 h1 h2 => R.inj k1 k2 o1 o2 r1 r2 (sub _ _ h1) (sub _ _ h2), R.home⟩

/-- An own block goes on under another number (an append in its own place). -/
theorem Rel.move {W0 W W' : World} {ρ : Rho} {h : AH} (R : Rel W0 ρ h W) {k : Nat} {o0 : AObj} (hk : h.get k = some o0) (o : AObj) {r : RE} (hr : ρ[k]? = some r) (s : Nat)
    (hW : ∀ j, j ≠ r.b → W'.heap[j]? = W.heap[j]?) (hs : W'.heap.size = W.heap.size) (h1 : W'.os = W.os) (h2 : W'.tape = W.tape) (h3 : W'.output = W.output)
    (ho : ORel W' (ρ ++ [⟨r.b, s, r.z⟩]) ⟨r.b, s, r.z⟩ o) (hs : s = 0) : Rel W0 (ρ ++ [⟨r.b, s, r.z⟩]) ((h.kill k).push o) W' := by
  obtain ⟨r0, hr0, hb0, hO⟩ := R.live k o0 hk
  rw [hr] at hr0; cases hr0
  have hp : ρ <+: ρ ++ [⟨r.b, s, r.z⟩] := List.prefix_append _ _
  have hkn := R.get_lt hk
  have old : ∀ j oj, ((h.kill k).push o).get j = some oj → j ≠ h.next → h.get j = some oj ∧ j ≠ k := by
    intro j oj hj hne
    rw [AH.get_push, AH.next_kill, if_neg hne, AH.get_kill] at hj
    split at hj
    · cases hj
    · rename_i e; exact ⟨hj, e⟩
  have new : ∀ oj, ((h.kill k).push o).get h.next = some oj → oj = o := by
    intro oj hj
    rw [AH.get_push, AH.next_kill, if_pos rfl] at hj
    exact (Option.some.inj hj).symm
  have rnew : ∀ r', (ρ ++ [⟨r.b, s, r.z⟩])[h.next]? = some r' → r' = ⟨r.b, s, r.z⟩ := by
    intro r' hr'
    rw [← R.len] at hr'
    simp at hr'
    exact hr'.symm
  refine ⟨R.below.trans ⟨h1, h2, h3, by omega, fun j hj => hW j (by omega)⟩, by simp [R.len], fun j oj hj => ?_, fun k1 k2 o1 o2 r1 r2 hk1 hk2 hr1 hr2 hb => ?_, fun r1 hr1 => by
    rcases List.mem_append.1 hr1 with hr1 | hr1
    · exact R.home r1 hr1
    · simp only [List.mem_singleton] at hr1; rw [hr1]; exact hs⟩
  · by_cases e : j = h.next
    · subst e
      cases new oj hj
      refine ⟨⟨r.b, s, r.z⟩, by rw [← R.len]; simp, hb0, ho⟩
    · obtain ⟨hj', hne⟩ := old j oj hj e
      obtain ⟨r', hr', hb', hO'⟩ := R.live j oj hj'
      exact ⟨r', get?_prefix hp hr', hb', ORel.mono hp (hO'.world (hW _ fun he => hne (R.inj j k oj o0 r' r hj' hk hr' hr he)))⟩
  · have down : ∀ j oj rj, h.get j = some oj → (ρ ++ [⟨r.b, s, r.z⟩])[j]? = some rj → ρ[j]? = some rj := by
      intro j oj rj hj hrj
      obtain ⟨r', hr', _⟩ := R.live j oj hj
      have := get?_prefix hp hr'
      rw [hrj] at this; cases this; exact hr'
    by_cases e1 : k1 = h.next <;> by_cases e2 : k2 = h.next
    · omega
    · subst e1
      obtain ⟨h2', hne⟩ := old k2 o2 hk2 e2
      cases rnew r1 hr1
      exact absurd (R.inj k2 k o2 o0 r2 r h2' hk (down _ _ _ h2' hr2) hr hb.symm) hne
    · subst e2
      obtain ⟨h1', hne⟩ := old k1 o1 hk1 e1
      cases rnew r2 hr2
      exact absurd (R.inj k1 k o1 o0 r1 r h1' hk (down _ _ _ h1' hr1) hr hb) hne
    · obtain ⟨h1', _⟩ := old k1 o1 hk1 e1
      obtain ⟨h2', _⟩ := old k2 o2 hk2 e2
      exact R.inj k1 k2 o1 o2 r1 r2 h1' h2' (down _ _ _ h1' hr1) (down _ _ _ h2' hr2) hb

end Go.Proofs.Ytgcoipcnhmkeaaa.Ax
end

/-! AX, part 2: the types' table; the operations that change no memory -/
section
set_option linter.unusedVariables false
set_option linter.unusedSimpArgs false
namespace Go.Proofs.Ytgcoipcnhmkeaaa.Ax
open Go.RowKit

inductive AKind where
  | bool
  | int (k : IntKind)
  | str
  | ptr (e : TypeId)
  | slice (e : TypeId)
  | array (n : Nat) (e : TypeId)
  | map (k v : TypeId)
  | struct (fs : List (Nat × TypeId)) (plain : Bool)
  | func
  | iface (bare : Bool)
  | tuple
  | uptr
  | other

structure ATy where
  kind : AKind
  size : Nat
  bytes : Nat
  zero : Option (List AV)

def AKind.isAgg : AKind → Bool
  | .struct _ _ | .array _ _ => true
  | _ => false

def AKind.isOther : AKind → Bool
  | .other => true
  | _ => false

def KindRel (P : Program) (t : TypeId) : AKind → TypeDesc → Prop
  | .bool, d => d = .bool
  | .int k, d => d = .int k
  | .str, d => d = .string
  | .ptr e, d => d = .pointer e
  | .slice e, d => d = .slice e
  | .array n e, d => d = .array n e
  | .map k v, d => d = .map k v
  | .struct fs plain, d => ∃ F, d = .struct F ∧ F.toList.map (fun f => (f.offset, f.type)) = fs ∧
      (plain = true → (∀ f ∈ F.toList, f.name ≠ "_") ∧ P.stoodInHeld t = false ∧ P.eqGuardType P.depth t = false)
  | .func, d => ∃ a b c, d = .func a b c
  | .iface bare, d => ∃ ms, d = .interface ms ∧ bare = ms.isEmpty
  | .tuple, d => ∃ ts, d = .tuple ts
  | .uptr, d => d = .unsafePointer
  | .other, _ => True

/-- The zero value's cells, and its form. -/
def ZeroRel (agg : Bool) (zs : List AV) (z : Value) : Prop :=
  match agg with
  | true => ∃ vs, z = .agg vs ∧ VsRel [] zs vs.toList ∧ ∀ v ∈ vs.toList, v.oneCell' = true
  | false => ∃ v, zs = [v] ∧ VRel [] v z ∧ z.oneCell' = true

def TyOK (P : Program) (t : TypeId) (a : ATy) : Prop :=
  ∃ i d, P.info? t = some i ∧ P.underlying t = some d ∧ i.size = a.size ∧ i.bytes = a.bytes ∧ KindRel P t a.kind d ∧
    (∀ zs, a.zero = some zs → zs.length = a.size ∧ ∃ z, i.zero = some z ∧ ZeroRel a.kind.isAgg zs z)

/-- A program, the world at the call, what is known of types, functions and methods. -/
structure Cx where
  P : Program
  W0 : World
  ty : TypeId → Option ATy
  fn : FuncId → Option Func
  meth : TypeId → String → Option FuncId
  ext : FuncId → List AV → Option AV
  extE : FuncId → List AV → AH → Option (AV × AH)

structure Cx.OK (C : Cx) : Prop where
  ty : ∀ t a, C.ty t = some a → TyOK C.P t a
  fn : ∀ f F, C.fn f = some F → C.P.funcs[f]? = some F ∧ F.body.isSome = true ∧ (F.name == "runtime.NumGoroutine") = false
  meth : ∀ t n f, C.meth t n = some f → ∀ v w, (method (C.P.types.size + Made.depth) t v n).run C.P w = .ok (f, v) w
  ext : ∀ f args v, C.ext f args = some v → ∀ (ρ : Rho) (vs : Array Value) w, VsRel ρ args vs.toList → ∃ V, (callFunc f vs).run C.P w = .ok (.value V) w ∧ VRel ρ v V
  extE : ∀ f args h v h', C.extE f args h = some (v, h') → ∀ (ρ : Rho) (vs : Array Value) W, Rel C.W0 ρ h W → VsRel ρ args vs.toList →
    ∃ V W' ρ', (callFunc f vs).run C.P W = .ok (.value V) W' ∧ ρ <+: ρ' ∧ Rel C.W0 ρ' h' W' ∧ VRel ρ' v V

def Cx.kind (C : Cx) (t : TypeId) : AKind := ((C.ty t).map (·.kind)).getD .other
def Cx.size (C : Cx) (t : TypeId) : Option Nat := (C.ty t).map (·.size)
def Cx.zero (C : Cx) (t : TypeId) : Option (List AV) := (C.ty t).bind (·.zero)

section
variable {C : Cx} (ok : C.OK) {t : TypeId}

theorem kind_und (ok : C.OK) {k : AKind} (h : C.kind t = k) (hk : k ≠ .other) : ∃ d, C.P.underlying t = some d ∧ KindRel C.P t k d := by
  unfold Cx.kind at h
  cases ht : C.ty t with
  | none => rw [ht] at h; simp at h; exact absurd h.symm hk
  | some a =>
    rw [ht] at h; simp at h
    obtain ⟨i, d, _, hu, _, _, hkr, _⟩ := ok.ty t a ht
    exact ⟨d, hu, h ▸ hkr⟩

theorem run_und {P : Program} {t : TypeId} {d : TypeDesc} (h : P.underlying t = some d) (w : World) : (underlying t).run P w = .ok d w := Go.run_underlying h w

theorem run_sizeOf' (ok : C.OK) {n : Nat} (h : C.size t = some n) (w : World) : (sizeOf t).run C.P w = .ok n w := by
  unfold Cx.size at h
  cases ht : C.ty t with
  | none => rw [ht] at h; simp at h
  | some a =>
    rw [ht] at h; simp at h
    obtain ⟨i, d, hi, _, hs, _⟩ := ok.ty t a ht
    simp [sizeOf, typeInfo, hi, hs, h]

theorem run_isAgg' (ok : C.OK) {k : AKind} (h : C.kind t = k) (hk : k ≠ .other) (w : World) : (isAgg t).run C.P w = .ok k.isAgg w := by
  obtain ⟨d, hd, hr⟩ := kind_und ok h hk
  simp only [isAgg, Sem.run_bind, run_und hd, Result.andThen_ok]
  cases k <;> simp only [KindRel] at hr <;> first
    | (subst hr; rfl)
    | (obtain ⟨F, rfl, _⟩ := hr; rfl)
    | (obtain ⟨a, b, c, rfl⟩ := hr; rfl)
    | (obtain ⟨ts, rfl⟩ := hr; rfl)
    | exact absurd rfl hk

end

/-! ### operands, environments -/

abbrev Env := List AV

structure ERel (ρ : Rho) (e : Env) (a : Act) : Prop where
  defers : a.defers = []
  vals : VsRel ρ e a.tmps.toList

theorem ERel.mono {ρ ρ' : Rho} {e : Env} {a : Act} (h : ρ <+: ρ') (r : ERel ρ e a) : ERel ρ' e a := ⟨r.defers, VsRel.mono h _ _ r.vals⟩

def ev (e : Env) : Operand → AV
  | .tmp t => e.getD t .undef
  | .const v => qy9 v
  | .global g => .ptr (some (.base g 0))
  | .func f => .fn (.func f) [] []

theorem undef_rel (ρ : Rho) : VRel ρ AV.undef undef := by simp [VRel, VsRel, undef]

theorem VsRel.getD {ρ : Rho} {e : List AV} {l : List Value} (h : VsRel ρ e l) (t : Nat) : VRel ρ (e.getD t .undef) (l.getD t undef) := by
  simp only [List.getD_eq_getElem?_getD]
  cases he : e[t]? with
  | none =>
    have : l[t]? = none := by rw [List.getElem?_eq_none_iff] at he ⊢; rw [h.length]; exact he
    rw [this]; exact undef_rel ρ
  | some v =>
    obtain ⟨V, hV, hr⟩ := h.get t v he
    rw [hV]; exact hr

theorem ev_rel {ρ : Rho} {e : Env} {a : Act} (h : ERel ρ e a) (x : Operand) : VRel ρ (ev e x) (a.eval x) := by
  cases x with
  | tmp t =>
    have := h.vals.getD t
    simp only [ev, Act.eval]
    rw [show a.tmps.getD t undef = a.tmps.toList.getD t undef from by simp [Array.getD_eq_getD_getElem?, List.getD_eq_getElem?_getD]]
    exact this
  | const v => exact ofV_rel ρ v
  | global g => simp [ev, Act.eval, VRel, ARel]
  | func f => simp [ev, Act.eval, VRel, VsRel]

def za9 (e : Env) (dst : Option Tmp) (v : AV) : Env :=
  match dst with
  | some d => e.set d v
  | none => e

theorem put_rel {ρ : Rho} {e : Env} {a : Act} (h : ERel ρ e a) (dst : Option Tmp) {v : AV} {V : Value} (hv : VRel ρ v V) : ERel ρ (za9 e dst v) (a.put dst V) := by
  cases dst with
  | none => exact h
  | some d => exact ⟨h.defers, by simpa [Act.put, za9] using h.vals.set d hv⟩

/-! ### arithmetic -/

def aInt (op : BinOp) (k : IntKind) (x y : Int) : Option AV :=
  match op with
  | .add => some (.int k (k.wrap (x + y)))
  | .sub => some (.int k (k.wrap (x - y)))
  | .mul => some (.int k (k.wrap (x * y)))
  | .quo => if y = 0 then none else some (.int k (k.wrap (x.tdiv y)))
  | .rem => if y = 0 then none else some (.int k (x.tmod y))
  | .and => some (.int k (k.wrap (BitVec.ofInt k.bits x &&& BitVec.ofInt k.bits y).toNat))
  | .or => some (.int k (k.wrap (BitVec.ofInt k.bits x ||| BitVec.ofInt k.bits y).toNat))
  | .xor => some (.int k (k.wrap (BitVec.ofInt k.bits x ^^^ BitVec.ofInt k.bits y).toNat))
  | .andNot => some (.int k (k.wrap (BitVec.ofInt k.bits x &&& ~~~ BitVec.ofInt k.bits y).toNat))
  | .eql => some (.bool (x == y))
  | .neq => some (.bool (x != y))
  | .lss => some (.bool (decide (x < y)))
  | .leq => some (.bool (decide (x ≤ y)))
  | .gtr => some (.bool (decide (y < x)))
  | .geq => some (.bool (decide (y ≤ x)))
  | _ => none

def aShift (op : BinOp) (k : IntKind) (x y : Int) : Option AV :=
  if y < 0 then none else
  match op with
  | .shl => some (.int k (k.wrap (x * 2 ^ (min y.toNat k.bits))))
  | .shr => some (.int k (x.fdiv (2 ^ (min y.toNat k.bits))))
  | _ => none

def aStr (op : BinOp) (x y : List UInt8) : Option AV :=
  match op with
  | .add => if ((x.length + y.length : Nat) : Int) > IntKind.i64.max then none else some (.str (x ++ y))
  | .eql => some (.bool (x == y))
  | .neq => some (.bool (!(x == y)))
  | .lss => some (.bool (Op.bytesLess x y))
  | .leq => some (.bool (Op.bytesLess x y || x == y))
  | .gtr => some (.bool (!(Op.bytesLess x y || x == y)))
  | .geq => some (.bool (!Op.bytesLess x y))
  | _ => none

/-- '==' of scalars, of pointers and slices with nil. -/
def aEq1 : AV → AV → Option Bool
  | .bool a, .bool b => some (a == b)
  | .ptr none, .ptr b => some b.isNone
  | .ptr (some _), .ptr none => some false
  | .sl none _ _ _, .sl b _ _ _ => some b.isNone
  | .sl (some _) _ _ _, .sl none _ _ _ => some false
  | .map none, .map b => some b.isNone
  | .map (some _), .map none => some false
  | .nilfn, .nilfn => some true
  | .nilfn, .fn _ _ _ => some false
  | .fn _ _ _, .nilfn => some false
  | _, _ => none

def kindEq1 : AKind → AV → Bool
  | .bool, .bool _ => true
  | .ptr _, .ptr _ => true
  | .slice _, .sl _ _ _ _ => true
  | .map _ _, .map _ => true
  | .func, .nilfn => true
  | .func, .fn _ _ _ => true
  | _, _ => false

def aPart (C : Cx) (t : TypeId) (cs : List AV) (off : Nat) : Option AV :=
  match C.kind t, C.size t with
  | .other, _ => none
  | k, some n => if k.isAgg then some (.agg ((cs.drop off).take n)) else cs[off]?
  | _, none => none

/-- '==' of fields, 'q' telling of each. -/
@[simp] def aEqG (C : Cx) (q : TypeId → AV → AV → Option Bool) : List (Nat × TypeId) → List AV → List AV → Option Bool
  | [], _, _ => some true
  | (o, t) :: fs, xs, ys =>
    match aPart C t xs o, aPart C t ys o with
    | some x, some y =>
      match q t x y with
      | some true => aEqG C q fs xs ys
      | some false => some false
      | none => none
    | _, _ => none

/-- '==' of values of type t. -/
def aEqIn (C : Cx) : Nat → TypeId → AV → AV → Option Bool
  | 0, _, _, _ => none
  | n + 1, t, x, y =>
    match C.kind t, x, y with
    | .int _, .int k a, .int k' b => if k = k' then some (a == b) else none
    | .str, .str a, .str b => some (a == b)
    | .bool, .bool a, .bool b => some (a == b)
    | .struct fs true, .agg xs, .agg ys => aEqG C (aEqIn C n) fs xs ys
    | .array len el, .agg xs, .agg ys =>
      match C.size el with
      | some sz => aEqG C (aEqIn C n) ((List.range len).map fun i => (i * sz, el)) xs ys
      | none => none
    | _, _, _ => none
def aEqFs (C : Cx) (n : Nat) : List (Nat × TypeId) → List AV → List AV → Option Bool := aEqG C (aEqIn C n)

theorem run_part {C : Cx} (ok : C.OK) {ρ : Rho} {t : TypeId} {cs : List AV} {vs : Array Value} {off : Nat} {v : AV} (h : aPart C t cs off = some v) (hr : VsRel ρ cs vs.toList) (w : World) :
    ∃ V, (part t vs off).run C.P w = .ok V w ∧ VRel ρ v V := by
  unfold aPart at h
  have hk : C.kind t ≠ .other := by intro e; rw [e] at h; simp at h
  cases hs : C.size t with
  | none => rw [hs] at h; cases C.kind t <;> simp at h
  | some n =>
    have hag := run_isAgg' ok rfl hk w
    have hsz := run_sizeOf' ok hs w
    have h' : (if (C.kind t).isAgg = true then some (AV.agg ((cs.drop off).take n)) else cs[off]?) = some v := by
      rw [hs] at h
      generalize hkk : C.kind t = k at h hk ⊢
      cases k <;> first | exact absurd rfl hk | exact h
    simp only [part, Sem.run_bind, hag, Result.andThen_ok]
    cases hA : (C.kind t).isAgg with
    | true =>
      rw [hA] at h'; simp at h'; subst h'
      refine ⟨.agg (vs.extract off (off + n)), by simp [hsz], ?_⟩
      simp only [VRel]
      refine ⟨_, rfl, ?_⟩
      have := (hr.drop off).take n
      simpa [List.extract_eq_take_drop] using this
    | false =>
      rw [hA] at h'; simp at h'
      obtain ⟨V, hV, hv⟩ := hr.get off v h'
      have : vs[off]? = some V := by simpa using hV
      exact ⟨V, by simp [this], hv⟩

end Go.Proofs.Ytgcoipcnhmkeaaa.Ax
end

/-! AX, part 3: the operations that change no memory, run by the machine -/
section
set_option linter.unusedVariables false
set_option linter.unusedSimpArgs false
namespace Go.Proofs.Ytgcoipcnhmkeaaa.Ax
open Go.RowKit

def scal : AV → Value
  | .bool b => .bool b
  | .int k n => .int k n
  | .str l => .string ⟨l.toArray⟩
  | _ => undef

section
variable {C : Cx} {ρ : Rho}

theorem str_rel {l : List UInt8} {V : Value} (h : VRel ρ (.str l) V) : V = .string ⟨l.toArray⟩ := by simpa [VRel] using h
theorem int_rel {k : IntKind} {n : Int} {V : Value} (h : VRel ρ (.int k n) V) : V = .int k n := by simpa [VRel] using h
theorem bool_rel {b : Bool} {V : Value} (h : VRel ρ (.bool b) V) : V = .bool b := by simpa [VRel] using h

theorem ba_size (l : List UInt8) : (ByteArray.mk l.toArray).size = l.length := by simp [ByteArray.size]

theorem run_aInt {op : BinOp} {t : TypeId} {k : IntKind} {x y : Int} {v : AV} (h : aInt op k x y = some v) (P : Program) (w : World) :
    ∃ V, (binOp op t (.int k x) (.int k y)).run P w = .ok V w ∧ VRel ρ v V := by
  refine ⟨scal v, ?_⟩
  cases op <;> simp only [aInt] at h <;> first
    | (simp at h; done)
    | (split at h
       · simp at h
       · rename_i hy
         cases h
         exact ⟨by simp [binOp, Op.intDiv, hy, scal], by simp [VRel, scal]⟩)
    | (cases h; exact ⟨by simp [binOp, Op.intArith, Op.intBits, Op.intCmp, scal], by simp [VRel, scal]⟩)

theorem run_aShift {op : BinOp} {t : TypeId} {k yk : IntKind} {x y : Int} {v : AV} (h : aShift op k x y = some v) (P : Program) (w : World) :
    ∃ V, (binOp op t (.int k x) (.int yk y)).run P w = .ok V w ∧ VRel ρ v V := by
  refine ⟨scal v, ?_⟩
  unfold aShift at h
  split at h
  · simp at h
  · rename_i hy
    cases op <;> simp at h
    · subst h; exact ⟨by simp [binOp, Op.shift, hy, scal], by simp [VRel, scal]⟩
    · subst h; exact ⟨by simp [binOp, Op.shift, hy, scal], by simp [VRel, scal]⟩

theorem run_aStr {op : BinOp} {t : TypeId} {x y : List UInt8} {v : AV} (h : aStr op x y = some v) (P : Program) (w : World) :
    ∃ V, (binOp op t (.string ⟨x.toArray⟩) (.string ⟨y.toArray⟩)).run P w = .ok V w ∧ VRel ρ v V := by
  refine ⟨scal v, ?_⟩
  cases op <;> simp only [aStr] at h <;> first
    | (simp at h; done)
    | (cases h; exact ⟨by simp [binOp, Op.stringOp, scal], by simp [VRel, scal]⟩)
    | (split at h
       · simp at h
       · rename_i hlen
         cases h
         refine ⟨?_, by simp [VRel, scal]⟩
         simp only [binOp, Op.stringOp, ba_size]
         rw [if_neg hlen]
         simp [scal, ByteArray.ext_iff])

theorem ARel.fun {ρ : Rho} {a : AA} {A B : Addr} (h1 : ARel ρ a A) (h2 : ARel ρ a B) : A = B := by
  cases a with
  | base b o => exact Eq.trans h1 (Eq.symm h2)
  | new k o => obtain ⟨r, hr, rfl⟩ := h1; obtain ⟨r', hr', rfl⟩ := h2; rw [hr] at hr'; cases hr'; rfl

theorem run_eq1 {t : TypeId} {x y : AV} {X Y : Value} {k : AKind} {b : Bool} (ok : C.OK) (hk : C.kind t = k) (h1 : kindEq1 k x = true) (h : aEq1 x y = some b)
    (hx : VRel ρ x X) (hy : VRel ρ y Y) (d : Nat) (w : World) : (Op.equalIn (d + 1) t X Y).run C.P w = .ok b w := by
  have hko : k ≠ .other := by intro e; subst e; simp [kindEq1] at h1
  obtain ⟨D, hD, hr⟩ := kind_und ok hk hko
  have hu := run_und hD w
  unfold aEq1 at h
  split at h <;> (try simp at h) <;> (cases k <;> simp [kindEq1] at h1) <;> simp only [KindRel] at hr <;> (try obtain ⟨_, _, _, rfl⟩ := hr) <;> (try subst hr) <;> subst h
  · rw [bool_rel hx, bool_rel hy]; simp [Op.equalIn, hu]
  · rename_i b' _
    simp only [VRel] at hx; subst hx
    cases b' with
    | none => simp only [VRel] at hy; subst hy; simp [Op.equalIn, hu]
    | some a => simp only [VRel] at hy; obtain ⟨A, _, rfl⟩ := hy; simp [Op.equalIn, hu]
  · simp only [VRel] at hx hy; obtain ⟨A, _, rfl⟩ := hx; subst hy; simp [Op.equalIn, hu]
  · rename_i b' _ _ _ _
    simp only [VRel] at hx; obtain ⟨_, _, _, rfl⟩ := hx
    cases b' with
    | none => simp only [VRel] at hy; obtain ⟨_, _, _, rfl⟩ := hy; simp [Op.equalIn, hu]
    | some a => cases a with
      | base b o => simp only [VRel] at hy; obtain ⟨_, _, rfl, _⟩ := hy; simp [Op.equalIn, hu]
      | new k o => simp only [VRel] at hy; obtain ⟨_, A, _, _, rfl, _⟩ := hy; simp [Op.equalIn, hu]
  · rename_i a _ _ _ _ _ _ _
    simp only [VRel] at hy; obtain ⟨_, _, _, rfl⟩ := hy
    cases a with
    | base b o => simp only [VRel] at hx; obtain ⟨_, _, rfl, _⟩ := hx; simp [Op.equalIn, hu]
    | new k o => simp only [VRel] at hx; obtain ⟨_, A, _, _, rfl, _⟩ := hx; simp [Op.equalIn, hu]
  · rename_i b' _ _
    simp only [VRel] at hx; subst hx
    cases b' with
    | none => simp only [VRel] at hy; subst hy; simp [Op.equalIn, hu]
    | some a => simp only [VRel] at hy; obtain ⟨r, _, rfl⟩ := hy; simp [Op.equalIn, hu]
  · simp only [VRel] at hx hy; obtain ⟨r, _, rfl⟩ := hx; subst hy; simp [Op.equalIn, hu]
  · simp only [VRel] at hx hy; subst hx; subst hy; simp [Op.equalIn, hu]
  · simp only [VRel] at hx hy; subst hx; obtain ⟨_, _, rfl, _⟩ := hy; simp [Op.equalIn, hu]
  · simp only [VRel] at hx hy; subst hy; obtain ⟨_, _, rfl, _⟩ := hx; simp [Op.equalIn, hu]

def eqAll (d : Nat) (xs ys : Array Value) : List (Nat × TypeId) → Sem Bool
  | [] => pure true
  | (o, t) :: fs => do
      let a ← part t xs o
      let b ← part t ys o
      let r ← Op.equalIn d t a b
      if (!r) = true then pure false else eqAll d xs ys fs

theorem eqFields_eqAll (d : Nat) (xs ys : Array Value) : ∀ (fs : List Field), (∀ f ∈ fs, f.name ≠ "_") → Op.eqFields d xs ys fs = eqAll d xs ys (fs.map fun f => (f.offset, f.type))
  | [], _ => rfl
  | f :: fs, h => by
    simp only [Op.eqFields, List.map_cons, eqAll]
    rw [if_pos (h f (by simp)), eqFields_eqAll d xs ys fs (fun g hg => h g (by simp [hg]))]

theorem run_equalIn_array {P : Program} (w : World) (d : Nat) (t el : TypeId) (len sz : Nat) (xs ys : Array Value) (ht : P.underlying t = some (.array len el)) (hs : ∀ w, (sizeOf el).run P w = .ok sz w) :
    (Op.equalIn (d + 1) t (.agg xs) (.agg ys)).run P w = (eqAll d xs ys ((List.range len).map fun i => (i * sz, el))).run P w := by
  simp only [Op.equalIn, Sem.run_bind, Go.run_underlying ht, Result.andThen_ok, hs]
  rw [Std.Legacy.Range.forIn_eq_forIn_range']
  simp only [Std.Legacy.Range.size, Nat.sub_zero, Nat.add_sub_cancel, Nat.div_one, ← List.range_eq_range']
  generalize List.range len = fs
  induction fs generalizing w with
  | nil => simp [eqAll]
  | cons f fs ih =>
    simp only [List.forIn_cons, List.map_cons, eqAll, Sem.run_bind]
    generalize (part el xs (f * sz)).run P w = r1
    cases r1 with
    | ok a w1 =>
      simp only [Result.andThen_ok]
      generalize (part el ys (f * sz)).run P w1 = r2
      cases r2 with
      | ok b w2 =>
        simp only [Result.andThen_ok]
        generalize (Op.equalIn d el a b).run P w2 = r3
        cases r3 with
        | ok r w3 =>
          cases r
          · simp only [Result.andThen_ok, Bool.not_false, if_true, Sem.run_pure]
          · simp only [Result.andThen_ok, Bool.not_true, Bool.false_eq_true, if_false, Sem.run_pure]
            exact ih w3
        | halt x w3 => simp [Result.andThen]
      | halt x w2 => simp [Result.andThen]
    | halt x w1 => simp [Result.andThen]

mutual
theorem run_eqIn (ok : C.OK) : (n d : Nat) → n ≤ d → (t : TypeId) → (x y : AV) → (b : Bool) → aEqIn C n t x y = some b → (X Y : Value) → VRel ρ x X → VRel ρ y Y → (w : World) →
    (Op.equalIn d t X Y).run C.P w = .ok b w
  | 0, _, _, _, _, _, _, h, _, _, _, _, _ => by simp [aEqIn] at h
  | n + 1, d, hd, t, x, y, b, h, X, Y, hx, hy, w => by
    obtain ⟨d, rfl⟩ : ∃ d', d = d' + 1 := ⟨d - 1, by omega⟩
    unfold aEqIn at h
    split at h
    · rename_i k0 k a k' b' hk
      split at h
      · rename_i e
        subst e
        simp at h; subst h
        obtain ⟨D, hD, hr⟩ := kind_und ok hk (by simp)
        simp only [KindRel] at hr; subst hr
        rw [int_rel hx, int_rel hy]
        exact run_equalIn_int w d t k _ a b' hD
      · simp at h
    · rename_i a b' hk
      simp at h; subst h
      obtain ⟨D, hD, hr⟩ := kind_und ok hk (by simp)
      simp only [KindRel] at hr; subst hr
      rw [str_rel hx, str_rel hy, run_equalIn_string w d t _ _ hD]
      simp
    · rename_i a b' hk
      simp at h; subst h
      obtain ⟨D, hD, hr⟩ := kind_und ok hk (by simp)
      simp only [KindRel] at hr; subst hr
      rw [bool_rel hx, bool_rel hy]
      exact run_equalIn_bool w d t a b' hD
    · rename_i fs xs ys hk
      obtain ⟨D, hD, hr⟩ := kind_und ok hk (by simp)
      simp only [KindRel] at hr
      obtain ⟨F, rfl, hF, hp⟩ := hr
      obtain ⟨hn, hst, _⟩ := hp trivial
      simp only [VRel] at hx hy
      obtain ⟨vs, rfl, hvs⟩ := hx
      obtain ⟨us, rfl, hus⟩ := hy
      have hfo : C.P.fieldsOf t = F := by simp [Program.fieldsOf, hD]
      rw [run_equalIn_struct w d t vs us (by rw [hfo]; exact hD) hst, hfo, eqFields_eqAll d vs us _ hn, hF]
      exact run_eqFs ok n d (by omega) fs xs ys b h vs us hvs hus w
    · rename_i len el xs ys hk
      split at h
      · rename_i sz hsz
        obtain ⟨D, hD, hr⟩ := kind_und ok hk (by simp)
        simp only [KindRel] at hr; subst hr
        simp only [VRel] at hx hy
        obtain ⟨vs, rfl, hvs⟩ := hx
        obtain ⟨us, rfl, hus⟩ := hy
        rw [run_equalIn_array w d t el len sz vs us hD (fun w => run_sizeOf' ok hsz w)]
        exact run_eqFs ok n d (by omega) _ xs ys b h vs us hvs hus w
      · simp at h
    · simp at h
theorem run_eqFs (ok : C.OK) : (n d : Nat) → n ≤ d → (fs : List (Nat × TypeId)) → (xs ys : List AV) → (b : Bool) → aEqFs C n fs xs ys = some b → (vs us : Array Value) → VsRel ρ xs vs.toList → VsRel ρ ys us.toList →
    (w : World) → (eqAll d vs us fs).run C.P w = .ok b w
  | n, d, _, [], xs, ys, b, h, vs, us, _, _, w => by simp [aEqFs, aEqG] at h; subst h; simp [eqAll]
  | n, d, hd, (o, t) :: fs, xs, ys, b, h, vs, us, hv, hu, w => by
    simp only [aEqFs, aEqG] at h
    split at h
    · rename_i x y hx hy
      obtain ⟨X, hX, hXr⟩ := run_part ok hx hv w
      obtain ⟨Y, hY, hYr⟩ := run_part ok hy hu w
      simp only [eqAll, Sem.run_bind, hX, hY, Result.andThen_ok]
      split at h
      · rename_i hr
        rw [run_eqIn ok n d hd t x y true hr X Y hXr hYr w]
        simpa using run_eqFs ok n d hd fs xs ys b h vs us hv hu w
      · rename_i hr
        simp at h; subst h
        rw [run_eqIn ok n d hd t x y false hr X Y hXr hYr w]
        simp
      · simp at h
    · simp at h
end

end

end Go.Proofs.Ytgcoipcnhmkeaaa.Ax
end

/-! AX, part 4: reading memory, parts of values, places: each with what the machine does -/
section
set_option linter.unusedVariables false
set_option linter.unusedSimpArgs false
namespace Go.Proofs.Ytgcoipcnhmkeaaa.Ax
open Go.RowKit

section
variable {C : Cx} {ρ : Rho} {h : AH} {W : World}

/-! ### loads -/
def aCell (C : Cx) (h : AH) : AA → Option AV
  | .base b o => (C.W0.cell? ⟨b, o, none⟩).map qy9
  | .new k o => match h.get k with
    | some (.cells cs _) => cs[o]?
    | _ => none

def aCells (C : Cx) (h : AH) (a : AA) (n : Nat) : Option (List AV) :=
  match a with
  | .base _ _ => (List.range n).mapM fun i => aCell C h (a.add i)
  | .new k o => match h.get k with
    | some (.cells cs _) => if o + n ≤ cs.length then some ((cs.drop o).take n) else none
    | _ => none

theorem add_addr (b o n : Nat) : Addr.add ⟨b, o, none⟩ n = ⟨b, o + n, none⟩ := by
  unfold Addr.add; split
  · rename_i e; subst e; simp
  · rfl

theorem ARel.add {a : AA} {A : Addr} (ha : ARel ρ a A) (n : Nat) : ARel ρ (a.add n) (A.add n) := by
  cases a with
  | base b o => simp only [ARel] at ha; subst ha; rw [add_addr]; rfl
  | new k o => obtain ⟨r, hr, rfl⟩ := ha; rw [add_addr]; exact ⟨r, hr, by simp only [Nat.add_assoc]⟩

theorem base_cell (R : Rel C.W0 ρ h W) {b o : Nat} {V : Value} (hc : C.W0.cell? ⟨b, o, none⟩ = some V) : W.cell? ⟨b, o, none⟩ = some V := by
  have hlt := World.block_lt_of_cell? _ _ hc
  rw [R.below.cell hlt]
  exact hc

theorem cell_rel (R : Rel C.W0 ρ h W) {a : AA} {A : Addr} (ha : ARel ρ a A) {v : AV} (hv : aCell C h a = some v) : ∃ V, W.cell? A = some V ∧ VRel ρ v V := by
  cases a with
  | base b o =>
    simp only [ARel] at ha; subst ha
    simp only [aCell, Option.map_eq_some_iff] at hv
    obtain ⟨V, hV, rfl⟩ := hv
    exact ⟨V, base_cell R hV, ofV_rel ρ V⟩
  | new k o =>
    obtain ⟨r, hr, rfl⟩ := ha
    simp only [aCell] at hv
    split at hv
    · rename_i cs t hk
      obtain ⟨r', hr', _, c, fr, hb, _, _, hall, _⟩ := R.live k _ hk
      rw [hr] at hr'; cases hr'
      obtain ⟨V, hV, hrel⟩ := hall o v hv
      exact ⟨V, by simp [World.cell?, hb, hV], hrel⟩
    · simp at hv

theorem aCells_get {a : AA} {n : Nat} {vs : List AV} (hv : aCells C h a n = some vs) : vs.length = n ∧ ∀ i, i < n → aCell C h (a.add i) = vs[i]? := by
  cases a with
  | base b o =>
    simp only [aCells] at hv
    have key : ∀ (l : List Nat) (vs : List AV), (l.mapM fun i => aCell C h (AA.add (.base b o) i)) = some vs → vs.length = l.length ∧ ∀ i, i < l.length → aCell C h (AA.add (.base b o) (l.getD i 0)) = vs[i]? := by
      intro l
      induction l with
      | nil => intro vs hvs; simp at hvs; subst hvs; simp
      | cons x l ih =>
        intro vs hvs
        simp only [List.mapM_cons, bind, Option.bind_eq_some_iff] at hvs
        obtain ⟨y, hy, ys, hys, hp⟩ := hvs
        simp [pure] at hp; subst hp
        obtain ⟨h1, h2⟩ := ih ys hys
        refine ⟨by simp [h1], fun i hi => ?_⟩
        cases i with
        | zero => simpa using hy
        | succ i => simpa using h2 i (by simpa using hi)
    obtain ⟨h1, h2⟩ := key _ vs hv
    simp at h1
    refine ⟨h1, fun i hi => ?_⟩
    have := h2 i (by simpa using hi)
    simpa [List.getD_eq_getElem?_getD, hi] using this
  | new k o =>
    simp only [aCells] at hv
    split at hv
    · rename_i cs t hk
      split at hv
      · rename_i hle
        simp at hv; subst hv
        refine ⟨by simp; omega, fun i hi => ?_⟩
        simp only [AA.add, aCell, hk]
        rw [List.getElem?_take, if_pos hi, List.getElem?_drop]
      · simp at hv
    · simp at hv

theorem loadFrom_rel (P : Program) (A : Addr) : ∀ (n i : Nat) (acc : Array Value) (vs : List AV), vs.length = n → (∀ j v, vs[j]? = some v → ∃ V, W.cell? (A.add (i + j)) = some V ∧ VRel ρ v V) →
    ∃ Vs, (loadCellsFrom A i n acc).run P W = .ok (acc ++ Vs) W ∧ VsRel ρ vs Vs.toList
  | 0, i, acc, vs, hl, _ => by
    have : vs = [] := List.length_eq_zero_iff.1 hl
    subst this
    exact ⟨#[], by simp [loadCellsFrom], by simp [VsRel]⟩
  | n + 1, i, acc, vs, hl, hall => by
    cases vs with
    | nil => simp at hl
    | cons v vs =>
      obtain ⟨V, hV, hrel⟩ := hall 0 v (by simp)
      obtain ⟨Vs, hrun, hrs⟩ := loadFrom_rel P A n (i + 1) (acc.push V) vs (by simpa using hl) (fun j v' hj => by
        have := hall (j + 1) v' (by simpa using hj)
        rwa [show i + 1 + j = i + (j + 1) by omega])
      refine ⟨#[V] ++ Vs, ?_, by simp only [VsRel]; exact ⟨V, Vs.toList, by simp, hrel, hrs⟩⟩
      simp only [Nat.add_zero] at hV
      simp only [loadCellsFrom, Sem.run_bind, run_load, hV, Result.andThen_ok, hrun]
      simp

theorem loadCells_rel (R : Rel C.W0 ρ h W) {a : AA} {A : Addr} (ha : ARel ρ a A) {n : Nat} {vs : List AV} (hv : aCells C h a n = some vs) :
    ∃ Vs, (loadCells A n).run C.P W = .ok Vs W ∧ VsRel ρ vs Vs.toList := by
  obtain ⟨h1, h2⟩ := aCells_get hv
  obtain ⟨Vs, hr, hrel⟩ := loadFrom_rel (W := W) (ρ := ρ) C.P A n 0 #[] vs h1 (fun j v hj => by
    have hjn : j < n := by rw [← h1]; exact (List.getElem?_eq_some_iff.1 hj).1
    simp only [Nat.zero_add]
    exact cell_rel R (ha.add j) ((h2 j hjn).trans hj))
  exact ⟨Vs, by simpa [loadCells] using hr, hrel⟩

/-- What a variable of type t at a holds. -/
def aLoad (C : Cx) (h : AH) (t : TypeId) (a : AA) : Option AV :=
  match C.ty t with
  | none => none
  | some y => if y.kind.isOther then none else if y.kind.isAgg then (aCells C h a y.size).map .agg else aCell C h a

theorem run_aLoad (ok : C.OK) (R : Rel C.W0 ρ h W) {t : TypeId} {a : AA} {A : Addr} (ha : ARel ρ a A) {v : AV} (hv : aLoad C h t a = some v) :
    ∃ V, (loadVar t A).run C.P W = .ok V W ∧ VRel ρ v V := by
  unfold aLoad at hv
  cases ht : C.ty t with
  | none => rw [ht] at hv; simp at hv
  | some y =>
    rw [ht] at hv
    simp only at hv
    have hk : C.kind t = y.kind := by simp [Cx.kind, ht]
    have hs : C.size t = some y.size := by simp [Cx.size, ht]
    split at hv
    · simp at hv
    · rename_i hno
      have hne : y.kind ≠ .other := by intro e; simp [e, AKind.isOther] at hno
      simp only [loadVar, Sem.run_bind, run_isAgg' ok hk hne W, Result.andThen_ok]
      cases hA : y.kind.isAgg with
      | true =>
        rw [hA] at hv
        simp only [if_true, Option.map_eq_some_iff] at hv
        obtain ⟨vs, hvs, rfl⟩ := hv
        obtain ⟨Vs, hrun, hrel⟩ := loadCells_rel R ha hvs
        exact ⟨.agg Vs, by simp [run_sizeOf' ok hs W, hrun], by simp only [VRel]; exact ⟨Vs, rfl, hrel⟩⟩
      | false =>
        rw [hA] at hv
        simp at hv
        obtain ⟨V, hV, hrel⟩ := cell_rel R ha hv
        exact ⟨V, by simp [hV], hrel⟩

/-! ### parts and places -/
def aOff (C : Cx) (s : TypeId) (f : Nat) : Option (Nat × TypeId) :=
  match C.kind s with
  | .struct fs _ => fs[f]?
  | _ => none

theorem und_struct (ok : C.OK) {s : TypeId} {f o : Nat} {t : TypeId} (hf : aOff C s f = some (o, t)) :
    ∃ F fl, C.P.underlying s = some (.struct F) ∧ F[f]? = some fl ∧ fl.offset = o ∧ fl.type = t := by
  unfold aOff at hf
  split at hf
  · rename_i fs pl hk
    obtain ⟨D, hD, hr⟩ := kind_und ok hk (by simp)
    simp only [KindRel] at hr
    obtain ⟨F, rfl, hF, _⟩ := hr
    rw [← hF] at hf
    simp only [List.getElem?_map, Option.map_eq_some_iff, Prod.mk.injEq] at hf
    obtain ⟨fl, hfl, h1, h2⟩ := hf
    exact ⟨F, fl, hD, by simpa using hfl, h1, h2⟩
  · simp at hf

def aField (C : Cx) (s : TypeId) (x : AV) (f : Nat) : Option AV :=
  match x, aOff C s f with
  | .agg cs, some (o, t) => aPart C t cs o
  | _, _ => none

theorem run_aField (ok : C.OK) {s : TypeId} {x v : AV} {f : Nat} {X : Value} (hv : aField C s x f = some v) (hx : VRel ρ x X) (w : World) :
    ∃ V, (Instr.field s X f).run C.P w = .ok V w ∧ VRel ρ v V := by
  unfold aField at hv
  split at hv
  · rename_i cs o t ho
    obtain ⟨F, fl, hD, hfl, rfl, rfl⟩ := und_struct ok ho
    simp only [VRel] at hx
    obtain ⟨vs, rfl, hvs⟩ := hx
    obtain ⟨V, hV, hrel⟩ := run_part ok hv hvs w
    exact ⟨V, by simp [Instr.field, run_und hD, hfl, asAgg, hV], hrel⟩
  · simp at hv

def aFieldAddr (C : Cx) (s : TypeId) (x : AV) (f : Nat) : Option AV :=
  match x, aOff C s f with
  | .ptr (some a), some (o, t) => match C.size t with
    | some (_ + 1) => some (.ptr (some (a.add o)))
    | _ => none
  | _, _ => none

theorem run_aFieldAddr (ok : C.OK) {s : TypeId} {x v : AV} {f : Nat} {X : Value} (hv : aFieldAddr C s x f = some v) (hx : VRel ρ x X) (w : World) :
    ∃ V, (Instr.fieldAt s X f).run C.P w = .ok V w ∧ VRel ρ v V := by
  unfold aFieldAddr at hv
  split at hv
  · rename_i a o t ho
    split at hv
    · rename_i n hn
      simp at hv; subst hv
      obtain ⟨F, fl, hD, hfl, rfl, rfl⟩ := und_struct ok ho
      simp only [VRel] at hx
      obtain ⟨A, hA, rfl⟩ := hx
      exact ⟨.pointer (some (A.add fl.offset)), by simp [Instr.fieldAt, run_und hD, hfl, Instr.sureAddr, fieldPlace, run_sizeOf' ok hn], by simp only [VRel]; exact ⟨_, hA.add _, rfl⟩⟩
    · simp at hv
  · simp at hv

def aIndexAddr (C : Cx) (t : TypeId) (x i : AV) : Option AV :=
  match C.kind t, x, i with
  | .array n el, .ptr (some a), .int _ i => match C.size el with
    | some sz => if 0 ≤ i ∧ i < n then some (.ptr (some (a.add (i.toNat * sz)))) else none
    | none => none
  | .slice el, .sl (some a) len _ _, .int _ i => match C.size el with
    | some sz => if 0 ≤ i ∧ i < len then some (.ptr (some (a.add (i.toNat * sz)))) else none
    | none => none
  | _, _, _ => none

/-- A slice's address, where it has an element. -/
theorem sl_addr {a : AA} {len cap : Nat} {gr : Option Nat} {X : Value} (hx : VRel ρ (.sl (some a) len cap gr) X) (hl : 0 < len) : ∃ A cap', X = .slice (some A) len cap' ∧ ARel ρ a A := by
  cases a with
  | base b o =>
    simp only [VRel] at hx
    obtain ⟨_, A, h1, h2⟩ := hx
    refine ⟨A, _, h1, ?_⟩
    rcases h2 with rfl | h2
    · rfl
    · omega
  | new k o =>
    simp only [VRel] at hx
    obtain ⟨r, A, cap', hr, hX, h1, h2, h3, h4⟩ := hx
    rcases h4 with ⟨hA, _⟩ | h0
    · exact ⟨A, cap', hX, ⟨r, hr, hA⟩⟩
    · omega

theorem run_aIndexAddr (ok : C.OK) {t : TypeId} {x i v : AV} {X I : Value} (hv : aIndexAddr C t x i = some v) (hx : VRel ρ x X) (hi : VRel ρ i I) (w : World) :
    ∃ V, (Instr.indexAt t X I).run C.P w = .ok V w ∧ VRel ρ v V := by
  unfold aIndexAddr at hv
  split at hv
  · rename_i n el a k i hk
    rw [int_rel hi]
    split at hv
    · rename_i sz hsz
      split at hv
      · rename_i hb
        simp at hv; subst hv
        obtain ⟨D, hD, hr⟩ := kind_und ok hk (by simp)
        simp only [KindRel] at hr; subst hr
        simp only [VRel] at hx
        obtain ⟨A, hA, rfl⟩ := hx
        refine ⟨.pointer (some (A.add (i.toNat * sz))), ?_, by simp only [VRel]; exact ⟨_, hA.add _, rfl⟩⟩
        simp [Instr.indexAt, asIntOf, run_und hD, Instr.sureAddr, hb, run_sizeOf' ok hsz]
      · simp at hv
    · simp at hv
  · rename_i el a len cap gr k i hk
    rw [int_rel hi]
    split at hv
    · rename_i sz hsz
      split at hv
      · rename_i hb
        simp at hv; subst hv
        obtain ⟨D, hD, hr⟩ := kind_und ok hk (by simp)
        simp only [KindRel] at hr; subst hr
        obtain ⟨A, cap', rfl, hA⟩ := sl_addr hx (by omega)
        refine ⟨.pointer (some (A.add (i.toNat * sz))), ?_, by simp only [VRel]; exact ⟨_, hA.add _, rfl⟩⟩
        simp [Instr.indexAt, asIntOf, run_und hD, hb, run_sizeOf' ok hsz]
      · simp at hv
    · simp at hv
  · simp at hv

def aIndex (C : Cx) (t : TypeId) (x i : AV) : Option AV :=
  match C.kind t, x, i with
  | .array n el, .agg cs, .int _ i => match C.size el with
    | some sz => if 0 ≤ i ∧ i < n then aPart C el cs (i.toNat * sz) else none
    | none => none
  | .str, .str s, .int _ i => if 0 ≤ i then (s[i.toNat]?).map fun b => .int .u8 b.toNat else none
  | _, _, _ => none

theorem run_aIndex (ok : C.OK) {t : TypeId} {x i v : AV} {X I : Value} (hv : aIndex C t x i = some v) (hx : VRel ρ x X) (hi : VRel ρ i I) (w : World) :
    ∃ V, (Instr.index t X I).run C.P w = .ok V w ∧ VRel ρ v V := by
  unfold aIndex at hv
  split at hv
  · rename_i n el cs k i hk
    rw [int_rel hi]
    split at hv
    · rename_i sz hsz
      split at hv
      · rename_i hb
        obtain ⟨D, hD, hr⟩ := kind_und ok hk (by simp)
        simp only [KindRel] at hr; subst hr
        simp only [VRel] at hx
        obtain ⟨vs, rfl, hvs⟩ := hx
        obtain ⟨V, hV, hrel⟩ := run_part ok hv hvs w
        exact ⟨V, by simp [Instr.index, asIntOf, run_und hD, hb, run_sizeOf' ok hsz, hV], hrel⟩
      · simp at hv
    · simp at hv
  · rename_i s k i hk
    rw [int_rel hi, str_rel hx]
    split at hv
    · rename_i hb
      simp only [Option.map_eq_some_iff] at hv
      obtain ⟨b, hs, rfl⟩ := hv
      obtain ⟨D, hD, hr⟩ := kind_und ok hk (by simp)
      simp only [KindRel] at hr; subst hr
      refine ⟨.int .u8 b.toNat, ?_, by simp [VRel]⟩
      have hlt := (List.getElem?_eq_some_iff.1 hs).1
      have hg : (ByteArray.mk s.toArray)[i.toNat]? = some b := by
        rw [getElem?_pos (ByteArray.mk s.toArray) i.toNat (by rw [ba_size]; exact hlt)]
        congr 1
        exact (List.getElem?_eq_some_iff.1 hs).2
      simp [Instr.index, asIntOf, run_und hD, hb, hg]
    · simp at hv
  · simp at hv

def zo9 (x : AV) (i : Nat) : Option AV :=
  match x with
  | .tup vs => vs[i]?
  | _ => none

theorem run_aExtract {x v : AV} {i : Nat} {X : Value} (hv : zo9 x i = some v) (hx : VRel ρ x X) (P : Program) (w : World) : ∃ V, (Instr.extract X i).run P w = .ok V w ∧ VRel ρ v V := by
  unfold zo9 at hv
  split at hv
  · rename_i vs
    simp only [VRel] at hx
    obtain ⟨us, rfl, hus⟩ := hx
    obtain ⟨V, hV, hrel⟩ := hus.get i v hv
    have hV' : us[i]? = some V := by simpa using hV
    exact ⟨V, by simp [Instr.extract, hV'], hrel⟩
  · simp at hv

end
end Go.Proofs.Ytgcoipcnhmkeaaa.Ax
end

/-! AX, part 5: comparing, converting, building, slicing, looking up: each with what the machine does -/
section
set_option linter.unusedVariables false
set_option linter.unusedSimpArgs false
namespace Go.Proofs.Ytgcoipcnhmkeaaa.Ax
open Go.RowKit

section
variable {C : Cx} {ρ : Rho} {h : AH} {W : World}

def isConst : Operand → Bool
  | .const _ => true
  | _ => false

/-- '==' of type t. -/
def aEq (C : Cx) (ox oy : Operand) (t : TypeId) (x y : AV) : Option Bool :=
  match C.kind t, x, y with
  | .iface _, .nilifc, .nilifc => if isConst ox || isConst oy then some true else none
  | .iface _, .nilifc, .ifc _ _ => some false
  | .iface _, .ifc _ _, .nilifc => some false
  | .iface _, .ifc tx _, .ifc ty _ => if tx = ty then none else some false
  | .struct _ true, .agg xs, .agg ys => aEqIn C 100 t (.agg xs) (.agg ys)
  | .ptr e, .ptr (some a), .ptr (some b) => match C.size e with
    | some _ => if a = b then some true else none
    | none => none
  | k, x, y => if kindEq1 k x then aEq1 x y else none

def Value.plainCmp : Value → Bool
  | .int _ _ | .float _ _ | .complex _ _ _ | .string _ => false
  | _ => true

theorem binOp_eql (t : TypeId) (X Y : Value) (hX : Value.plainCmp X = true) : binOp .eql t X Y = (do pure (.bool (← Op.equal t X Y))) := by
  cases X <;> first | (simp [Value.plainCmp] at hX; done) | (cases Y <;> rfl)
theorem binOp_neq (t : TypeId) (X Y : Value) (hX : Value.plainCmp X = true) : binOp .neq t X Y = (do pure (.bool (!(← Op.equal t X Y)))) := by
  cases X <;> first | (simp [Value.plainCmp] at hX; done) | (cases Y <;> rfl)

theorem eqIn_nn {P : Program} {t : TypeId} {ms : Array (String × TypeId)} (hD : P.underlying t = some (.interface ms)) (d : Nat) (w : World) :
    (Op.equalIn (d + 1) t .nilIface .nilIface).run P w = .ok true w := by simp [Op.equalIn, run_und hD]
theorem eqIn_ni {P : Program} {t : TypeId} {ms : Array (String × TypeId)} (hD : P.underlying t = some (.interface ms)) (d : Nat) (t' : TypeId) (V : Value) (w : World) :
    (Op.equalIn (d + 1) t .nilIface (.iface t' V)).run P w = .ok false w := by simp [Op.equalIn, run_und hD]
theorem eqIn_in {P : Program} {t : TypeId} {ms : Array (String × TypeId)} (hD : P.underlying t = some (.interface ms)) (d : Nat) (t' : TypeId) (V : Value) (w : World) :
    (Op.equalIn (d + 1) t (.iface t' V) .nilIface).run P w = .ok false w := by simp [Op.equalIn, run_und hD]
theorem eqIn_ii {P : Program} {t : TypeId} {ms : Array (String × TypeId)} (hD : P.underlying t = some (.interface ms)) (d : Nat) (tx ty : TypeId) (hne : tx ≠ ty) (V V' : Value) (w : World) :
    (Op.equalIn (d + 1) t (.iface tx V) (.iface ty V')).run P w = .ok false w := by simp [Op.equalIn, run_und hD, hne]

theorem eqIn_pp {P : Program} {t e : TypeId} (hD : P.underlying t = some (.pointer e)) {n : Nat} {w : World} (hn : (sizeOf e).run P w = .ok n w) (d : Nat) (A : Addr) :
    (Op.equalIn (d + 1) t (.pointer (some A)) (.pointer (some A))).run P w = .ok true w := by
  simp [Op.equalIn, run_und hD, hn, sameAddr]

def simpleCmp : Value → Bool
  | .bool _ | .pointer _ | .slice _ _ _ | .map _ | .func _ _ _ | .nilFunc => true
  | _ => false

theorem simple_of {k : AKind} {x : AV} {X : Value} (h : kindEq1 k x = true) (hx : VRel ρ x X) : simpleCmp X = true := by
  cases x with
  | bool b => rw [bool_rel hx]; rfl
  | ptr a => cases a <;> simp only [VRel] at hx <;> (first | (obtain ⟨_, _, rfl⟩ := hx) | subst hx) <;> rfl
  | sl a len cap gr => cases a with
    | none => simp only [VRel] at hx; obtain ⟨_, _, _, rfl⟩ := hx; rfl
    | some a => cases a with
      | base b o => simp only [VRel] at hx; obtain ⟨_, _, rfl, _⟩ := hx; rfl
      | new k o => simp only [VRel] at hx; obtain ⟨_, _, _, _, rfl, _⟩ := hx; rfl
  | map r => cases r <;> simp only [VRel] at hx <;> (first | (obtain ⟨_, _, rfl⟩ := hx) | subst hx) <;> rfl
  | fn f a b => simp only [VRel] at hx; obtain ⟨_, _, rfl, _⟩ := hx; rfl
  | nilfn => simp only [VRel] at hx; subst hx; rfl
  | _ => cases k <;> simp [kindEq1] at h

theorem simple_plain {X : Value} (h : simpleCmp X = true) : Value.plainCmp X = true := by cases X <;> simp_all [simpleCmp, Value.plainCmp]
theorem simple_guard {X : Value} (h : simpleCmp X = true) (P : Program) (op : BinOp) (t : TypeId) (ox oy : Operand) (Y : Value) (w : World) : (eqGuard op t ox oy X Y).run P w = .ok () w := by
  cases X <;> first | (simp [simpleCmp] at h; done) | (cases op <;> simp [eqGuard])

/-- What a comparison comes to, with the guard ahead of it. -/
theorem run_aEq (ok : C.OK) {ox oy : Operand} {t : TypeId} {x y : AV} {X Y : Value} {b : Bool} (h : aEq C ox oy t x y = some b) (hx : VRel ρ x X) (hy : VRel ρ y Y) (w : World) :
    (∀ op, (eqGuard op t ox oy X Y).run C.P w = .ok () w) ∧ (Op.equal t X Y).run C.P w = .ok b w ∧ Value.plainCmp X = true := by
  unfold aEq at h
  split at h
  · rename_i bare hk
    split at h
    · rename_i hc
      simp at h; subst h
      simp only [VRel] at hx hy; subst hx; subst hy
      obtain ⟨D, hD, hr⟩ := kind_und ok hk (by simp)
      simp only [KindRel] at hr
      obtain ⟨ms, rfl, _⟩ := hr
      refine ⟨fun op => ?_, eqIn_nn hD 9999 w, rfl⟩
      cases ox <;> cases oy <;> first
        | (simp [isConst] at hc; done)
        | (cases op <;> simp [eqGuard]; done)
    · simp at h
  · rename_i bare t' v' hk
    simp at h; subst h
    simp only [VRel] at hx hy; subst hx; obtain ⟨V, rfl, _⟩ := hy
    obtain ⟨D, hD, hr⟩ := kind_und ok hk (by simp)
    simp only [KindRel] at hr
    obtain ⟨ms, rfl, _⟩ := hr
    exact ⟨fun op => by cases op <;> simp [eqGuard], eqIn_ni hD 9999 _ _ w, rfl⟩
  · rename_i bare t' v' hk
    simp at h; subst h
    simp only [VRel] at hx hy; subst hy; obtain ⟨V, rfl, _⟩ := hx
    obtain ⟨D, hD, hr⟩ := kind_und ok hk (by simp)
    simp only [KindRel] at hr
    obtain ⟨ms, rfl, _⟩ := hr
    exact ⟨fun op => by cases op <;> simp [eqGuard], eqIn_in hD 9999 _ _ w, rfl⟩
  · rename_i bare tx v' ty v'' hk
    split at h
    · simp at h
    · rename_i hne
      simp at h; subst h
      simp only [VRel] at hx hy; obtain ⟨V, rfl, _⟩ := hx; obtain ⟨V', rfl, _⟩ := hy
      obtain ⟨D, hD, hr⟩ := kind_und ok hk (by simp)
      simp only [KindRel] at hr
      obtain ⟨ms, rfl, _⟩ := hr
      exact ⟨fun op => by cases op <;> simp [eqGuard], eqIn_ii hD 9999 _ _ hne _ _ w, rfl⟩
  · rename_i fs xs ys hk
    obtain ⟨D, hD, hr⟩ := kind_und ok hk (by simp)
    simp only [KindRel] at hr
    obtain ⟨F, rfl, _, hp⟩ := hr
    obtain ⟨_, _, hg⟩ := hp trivial
    have he := run_eqIn ok 100 10000 (by omega) t _ _ b h X Y hx hy w
    simp only [VRel] at hx hy
    obtain ⟨vs, rfl, _⟩ := hx
    obtain ⟨us, rfl, _⟩ := hy
    exact ⟨fun op => run_eqGuard_agg w op t ox oy vs us hg, he, rfl⟩
  · rename_i e a b' hk
    split at h
    · rename_i n hn
      split at h
      · rename_i hab
        subst hab
        simp at h; subst h
        obtain ⟨D, hD, hr⟩ := kind_und ok hk (by simp)
        simp only [KindRel] at hr; subst hr
        simp only [VRel] at hx hy
        obtain ⟨A, h1, rfl⟩ := hx; obtain ⟨B, h2, rfl⟩ := hy
        rw [ARel.fun h1 h2]
        refine ⟨fun op => simple_guard rfl C.P op t ox oy _ w, ?_, rfl⟩
        show (Op.equalIn (9999 + 1) t _ _).run C.P w = _
        exact eqIn_pp hD (run_sizeOf' ok hn w) 9999 B
      · simp at h
    · simp at h
  · split at h
    · rename_i hk1
      have he := run_eq1 ok rfl hk1 h hx hy 9999 w
      have hs := simple_of hk1 hx
      exact ⟨fun op => simple_guard hs C.P op t ox oy Y w, he, simple_plain hs⟩
    · simp at h

def zc9 (C : Cx) (op : BinOp) (t : TypeId) (ox oy : Operand) (x y : AV) : Option AV :=
  match x, y with
  | .int k a, .int k' b =>
    match op with
    | .shl | .shr => aShift op k a b
    | _ => if k = k' then aInt op k a b else none
  | .str a, .str b => aStr op a b
  | x, y =>
    match op with
    | .eql => (aEq C ox oy t x y).map .bool
    | .neq => (aEq C ox oy t x y).map fun b => .bool (!b)
    | _ => none

theorem run_aBin (ok : C.OK) {op : BinOp} {t : TypeId} {ox oy : Operand} {x y v : AV} {X Y : Value} (h : zc9 C op t ox oy x y = some v) (hx : VRel ρ x X) (hy : VRel ρ y Y) (w : World) :
    ∃ V, (do eqGuard op t ox oy X Y; binOp op t X Y : Sem Value).run C.P w = .ok V w ∧ VRel ρ v V := by
  unfold zc9 at h
  split at h
  · rename_i k a k' b
    rw [int_rel hx, int_rel hy]
    have hg : (eqGuard op t ox oy (.int k a) (.int k' b)).run C.P w = .ok () w := by cases op <;> simp [eqGuard]
    have : ∃ V, (binOp op t (.int k a) (.int k' b)).run C.P w = .ok V w ∧ VRel ρ v V := by
      split at h
      · exact run_aShift h C.P w
      · exact run_aShift h C.P w
      · split at h
        · rename_i e; subst e; exact run_aInt h C.P w
        · simp at h
    obtain ⟨V, hV, hr⟩ := this
    exact ⟨V, by simp [hg, hV], hr⟩
  · rename_i a b
    rw [str_rel hx, str_rel hy]
    have hg : (eqGuard op t ox oy (.string ⟨a.toArray⟩) (.string ⟨b.toArray⟩)).run C.P w = .ok () w := by cases op <;> simp [eqGuard]
    obtain ⟨V, hV, hr⟩ := run_aStr (t := t) h C.P w
    exact ⟨V, by simp [hg, hV], hr⟩
  · split at h
    · simp only [Option.map_eq_some_iff] at h
      obtain ⟨b, hb, rfl⟩ := h
      obtain ⟨hg, he, hp⟩ := run_aEq ok hb hx hy w
      exact ⟨.bool b, by simp [hg, binOp_eql t X Y hp, he], by simp [VRel]⟩
    · simp only [Option.map_eq_some_iff] at h
      obtain ⟨b, hb, rfl⟩ := h
      obtain ⟨hg, he, hp⟩ := run_aEq ok hb hx hy w
      exact ⟨.bool (!b), by simp [hg, binOp_neq t X Y hp, he], by simp [VRel]⟩
    · simp at h

def aUn (op : UnOp) (x : AV) : Option AV :=
  match op, x with
  | .neg, .int k n => some (.int k (k.wrap (0 - n)))
  | .xor, .int k n => some (.int k (k.wrap (BitVec.ofInt k.bits (if k.signed then -1 else k.max) ^^^ BitVec.ofInt k.bits n).toNat))
  | .not, .bool b => some (.bool (!b))
  | _, _ => none

theorem run_aUn {op : UnOp} {x v : AV} {X : Value} (h : aUn op x = some v) (hx : VRel ρ x X) (P : Program) (w : World) : ∃ V, (Op.unary op X).run P w = .ok V w ∧ VRel ρ v V := by
  unfold aUn at h
  split at h <;> simp at h <;> subst h
  · rw [int_rel hx]; exact ⟨_, by simp only [Op.unary, Op.intArith]; rfl, by simp [VRel]⟩
  · rw [int_rel hx]; exact ⟨_, by simp only [Op.unary, Op.intBits]; rfl, by simp [VRel]⟩
  · rw [bool_rel hx]; exact ⟨_, by simp only [Op.unary]; rfl, by simp [VRel]⟩

/-! ### conversions that make no memory -/
def byteOf1 : AV → Option UInt8
  | .int .u8 n => some (UInt8.ofNat n.toNat)
  | _ => none

def aConv (C : Cx) (h : AH) (s d : TypeId) (x : AV) : Option AV :=
  match C.kind s, C.kind d, x with
  | .other, _, _ => none
  | _, .int k, .int _ n => some (.int k (k.wrap n))
  | _, .str, .str l => some (.str l)
  | .slice e, .str, .sl none _ _ _ => match C.kind e with | .int .u8 => some (.str []) | _ => none
  | .slice e, .str, .sl (some a) len _ _ => match C.kind e with
    | .int .u8 => if len = 0 then some (.str []) else (aCells C h a len).bind fun vs => (vs.mapM byteOf1).map .str
    | _ => none
  | .ptr t, .uptr, .ptr (some (.new k o)) => match h.get k, C.size t with
    | some (.cells cs _), some n => if n ≠ 0 ∧ o < cs.length then some (.ptr (some (.new k o))) else none
    | _, _ => none
  | .uptr, .ptr u, .ptr (some (.new k 0)) => match h.get k, C.size u with
    | some (.cells cs t), some n => if t = u ∧ n ≠ 0 ∧ n ≤ cs.length then some (.ptr (some (.new k 0))) else none
    | _, _ => none
  | _, _, _ => none

theorem bytes_of (vs : List AV) (l : List UInt8) (Vs : List Value) (h : vs.mapM byteOf1 = some l) (hr : VsRel ρ vs Vs) : ∃ ns : List Int, Vs = ns.map (Value.int .u8) ∧ l = ns.map fun n => UInt8.ofNat n.toNat := by
  induction vs generalizing l Vs with
  | nil => simp [VsRel] at h hr; exact ⟨[], by simp [hr], by simp [h]⟩
  | cons v vs ih =>
    simp only [List.mapM_cons, bind, Option.bind_eq_some_iff] at h
    obtain ⟨y, hy, ys, hys, hp⟩ := h
    simp [pure] at hp; subst hp
    simp only [VsRel] at hr
    obtain ⟨X, Xs, rfl, h1, h2⟩ := hr
    obtain ⟨ns, rfl, rfl⟩ := ih ys Xs hys h2
    unfold byteOf1 at hy
    split at hy
    · rename_i n
      simp at hy; subst hy
      exact ⟨n :: ns, by simp [int_rel h1], by simp⟩
    · simp at hy

theorem foldl_push (l : List UInt8) : ∀ s : ByteArray, l.foldl (fun r n => r.push n) s = ⟨(s.data.toList ++ l).toArray⟩ := by
  induction l with
  | nil => intro s; simp
  | cons c l ih =>
    intro s
    rw [List.foldl_cons, ih]
    simp [ByteArray.push]

theorem info_size (ok : C.OK) {t : TypeId} {n : Nat} (h : C.size t = some n) : ∃ i, C.P.info? t = some i ∧ i.size = n := by
  unfold Cx.size at h
  cases ht : C.ty t with
  | none => rw [ht] at h; simp at h
  | some a =>
    rw [ht] at h; simp at h
    obtain ⟨i, d, hi, _, hs, _⟩ := ok.ty t a ht
    exact ⟨i, hi, by rw [hs, h]⟩

/-- A variable lies where a row of its type begins. -/
theorem liesAt_one {P : Program} {e : TypeId} (hc : P.cellsOf e ≠ 0) (count : Nat) (hn : 1 ≤ count) : liesAt P P.depth e count 0 e 1 = true := by
  have hd : P.depth = (2 * (P.types.size + Made.depth) + 1) + 1 := rfl
  rw [hd]
  simp only [liesAt, Bool.or_eq_true]
  left
  rw [hd]
  simp [rowAt, hc, hn, sameLayout]

theorem run_aConv (ok : C.OK) (R : Rel C.W0 ρ h W) {s d : TypeId} {x v : AV} {X : Value} (hv : aConv C h s d x = some v) (hx : VRel ρ x X) :
    ∃ V, (convert s d X).run C.P W = .ok V W ∧ VRel ρ v V := by
  unfold aConv at hv
  split at hv
  · simp at hv
  · rename_i ks kd k k' n hs hd
    simp at hv; subst hv
    obtain ⟨Ds, hDs, _⟩ := kind_und ok rfl (by exact hd)
    obtain ⟨D, hD, hr⟩ := kind_und ok hs (by simp)
    simp only [KindRel] at hr; subst hr
    rw [int_rel hx]
    exact ⟨_, by simp only [convert, Sem.run_bind, run_und hDs, run_und hD, Result.andThen_ok]; rfl, by simp [VRel]⟩
  · rename_i ks kd l hs hd
    simp at hv; subst hv
    obtain ⟨Ds, hDs, _⟩ := kind_und ok rfl (by exact hd)
    obtain ⟨D, hD, hr⟩ := kind_und ok hs (by simp)
    simp only [KindRel] at hr; subst hr
    rw [str_rel hx]
    exact ⟨_, by simp only [convert, Sem.run_bind, run_und hDs, run_und hD, Result.andThen_ok]; rfl, by simp [VRel]⟩
  · rename_i e len cap gr hs hd
    split at hv
    · rename_i he
      simp at hv; subst hv
      obtain ⟨Ds, hDs, hr1⟩ := kind_und ok hs (by simp)
      obtain ⟨D, hD, hr2⟩ := kind_und ok hd (by simp)
      obtain ⟨De, hDe, hr3⟩ := kind_und ok he (by simp)
      simp only [KindRel] at hr1 hr2 hr3; subst hr1; subst hr2; subst hr3
      simp only [VRel] at hx
      obtain ⟨_, _, _, rfl⟩ := hx
      exact ⟨.string ByteArray.empty, by rw [run_convert_bytes_string W s d e none 0 0 hDs hDe hD]; simp [Conv.bytesToString], by simp only [VRel]; rfl⟩
    · simp at hv
  · rename_i e a len cap gr hs hd
    split at hv
    · rename_i he
      obtain ⟨Ds, hDs, hr1⟩ := kind_und ok hs (by simp)
      obtain ⟨D, hD, hr2⟩ := kind_und ok hd (by simp)
      obtain ⟨De, hDe, hr3⟩ := kind_und ok he (by simp)
      simp only [KindRel] at hr1 hr2 hr3; subst hr1; subst hr2; subst hr3
      split at hv
      · rename_i e0
        subst e0
        simp at hv; subst hv
        have : ∃ A c, X = .slice (some A) 0 c := by
          cases a with
          | base b o => simp only [VRel] at hx; obtain ⟨_, A, h1, _⟩ := hx; exact ⟨_, _, h1⟩
          | new k o => simp only [VRel] at hx; obtain ⟨r, A, c, _, h1, _⟩ := hx; exact ⟨_, _, h1⟩
        obtain ⟨A, c, rfl⟩ := this
        refine ⟨.string ByteArray.empty, ?_, by simp only [VRel]; rfl⟩
        rw [run_convert_bytes_string W s d e _ _ _ hDs hDe hD]
        have := run_bytesToString (P := C.P) W A 0 c [] (by simp [loadCells, loadCellsFrom])
        simpa using this
      · rename_i hne
        simp only [Option.bind_eq_some_iff, Option.map_eq_some_iff] at hv
        obtain ⟨vs, hvs, l, hl, rfl⟩ := hv
        obtain ⟨A, c, rfl, hA⟩ := sl_addr hx (by omega)
        obtain ⟨Vs, hrun, hrel⟩ := loadCells_rel R hA hvs
        obtain ⟨ns, hns, rfl⟩ := bytes_of vs l Vs.toList hl hrel
        refine ⟨_, ?_, by simp only [VRel]; rfl⟩
        rw [run_convert_bytes_string W s d e _ _ _ hDs hDe hD, run_bytesToString (P := C.P) W A len c ns (by rw [hrun, ← hns])]
        have := foldl_push (ns.map fun n => UInt8.ofNat n.toNat) ByteArray.empty
        rw [List.foldl_map] at this
        rw [this]
        rfl
    · simp at hv
  · rename_i t k o hs hd
    split at hv
    · rename_i cs bt n hg hn
      split at hv
      · rename_i hc
        simp at hv; subst hv
        obtain ⟨Ds, hDs, hr1⟩ := kind_und ok hs (by simp)
        obtain ⟨D, hD, hr2⟩ := kind_und ok hd (by simp)
        simp only [KindRel] at hr1 hr2; subst hr1; subst hr2
        obtain ⟨j, hj, hjn⟩ := info_size ok hn
        have hx' := hx
        simp only [VRel] at hx
        obtain ⟨A, ⟨r, hr, rfl⟩, rfl⟩ := hx
        obtain ⟨r', hr', _, c, fr, hb, hz, hlen, _⟩ := R.live k _ hg
        rw [hr] at hr'; cases hr'
        refine ⟨_, Lib.run_to_unsafe W _ hDs hD hj (by omega) (show W.shape? r.b = some (bt, c.size) by simp [World.shape?, hb]) (by show r.s + o < c.size; omega), hx'⟩
      · simp at hv
    · simp at hv
  · rename_i u k hs hd
    split at hv
    · rename_i cs bt n hg hn
      split at hv
      · rename_i hc
        obtain ⟨rfl, hn0, hle⟩ := hc
        simp at hv; subst hv
        obtain ⟨Ds, hDs, hr1⟩ := kind_und ok hs (by simp)
        obtain ⟨D, hD, hr2⟩ := kind_und ok hd (by simp)
        simp only [KindRel] at hr1 hr2; subst hr1; subst hr2
        obtain ⟨j, hj, hjn⟩ := info_size ok hn
        have hx' := hx
        simp only [VRel] at hx
        obtain ⟨A, ⟨r, hr, rfl⟩, rfl⟩ := hx
        obtain ⟨r', hr', _, c, fr, hb, hz, hlen, _⟩ := R.live k _ hg
        rw [hr] at hr'; cases hr'
        have h0 := R.home r (List.mem_of_getElem? hr)
        have hcs : C.P.cellsOf bt = n := by simp [Program.cellsOf, hj, hjn]
        refine ⟨_, Lib.run_from_unsafe W _ hDs hD hj (show W.shape? r.b = some (bt, c.size) by simp [World.shape?, hb]) ?_, hx'⟩
        rw [h0, hcs]
        refine liesAt_one (by omega) _ ?_
        exact (Nat.one_le_div_iff (by omega)).2 (by omega)
      · simp at hv
    · simp at hv
  · simp at hv

end
end Go.Proofs.Ytgcoipcnhmkeaaa.Ax
end

/-! AX, part 6: building, slicing, lengths, looking up, assertions; the operations that change nothing, in one -/
section
set_option linter.unusedVariables false
set_option linter.unusedSimpArgs false
namespace Go.Proofs.Ytgcoipcnhmkeaaa.Ax
open Go.RowKit

section
variable {C : Cx} {ρ : Rho} {h : AH} {W : World}

/-! ### build -/
def aCellsOf : AV → Option (List AV)
  | .bad => none
  | .agg cs => some cs
  | v => some [v]

theorem cellsOf_rel {x : AV} {X : Value} {cs : List AV} (h : aCellsOf x = some cs) (hx : VRel ρ x X) : VsRel ρ cs X.cells.toList := by
  cases x with
  | bad => simp [aCellsOf] at h
  | agg l =>
    simp [aCellsOf] at h; subst h
    simp only [VRel] at hx
    obtain ⟨vs, rfl, hvs⟩ := hx
    exact hvs
  | _ =>
    simp only [aCellsOf, Option.some.injEq] at h; subst h
    have : X.cells = #[X] := by
      cases X <;> first | rfl | (simp only [VRel] at hx; done) | skip
      all_goals first
        | (simp [VRel] at hx; done)
        | (rename_i a _; cases a <;> simp [VRel] at hx; done)
        | (rename_i a _ _ _ _; cases a <;> simp [VRel] at hx; done)
        | (rename_i a; cases a <;> simp [VRel] at hx; done)
        | (rename_i a _ _ _ ; rcases a with _ | (_ | _) <;> simp [VRel] at hx; done)
        | (rename_i a _ _ _ _; rcases a with _ | (_ | _) <;> simp [VRel] at hx; done)
    rw [this]
    simp only [VsRel]
    exact ⟨X, [], rfl, hx, rfl⟩

def overlay (zs vs : List AV) (off : Nat) : List AV := zs.take off ++ vs ++ zs.drop (off + vs.length)

def aFill (place : Nat → Option (Nat × Nat)) : List AV → List (Nat × AV) → Option (List AV)
  | cells, [] => some cells
  | cells, (i, v) :: rest =>
    match place i, aCellsOf v with
    | some (off, size), some cs => if cs.length = size ∧ off + size ≤ cells.length then aFill place (overlay cells cs off) rest else none
    | _, _ => none

theorem foldl_overlay (vs : List Value) : ∀ (k off : Nat) (cells : Array Value), off + k + vs.length ≤ cells.size →
    ((vs.zipIdx k).foldl (fun cs (c, j) => cs.setIfInBounds (off + j) c) cells).toList = cells.toList.take (off + k) ++ vs ++ cells.toList.drop (off + k + vs.length) := by
  induction vs with
  | nil => intro k off cells h; simp
  | cons v vs ih =>
    intro k off cells h
    simp only [List.length_cons] at h
    simp only [List.zipIdx_cons, List.foldl_cons]
    rw [ih (k + 1) off _ (by simp; omega)]
    simp only [Array.toList_setIfInBounds]
    have hlt : off + k < cells.toList.length := by simp; omega
    rw [show off + (k + 1) = off + k + 1 by omega]
    have e1 : (cells.toList.set (off + k) v).take (off + k + 1) = cells.toList.take (off + k) ++ [v] := by
      rw [List.take_add_one, List.take_set_of_le (Nat.le_refl _), List.getElem?_set_self hlt]
      rfl
    have e2 : (cells.toList.set (off + k) v).drop (off + k + 1 + vs.length) = cells.toList.drop (off + k + (v :: vs).length) := by
      rw [List.drop_set_of_lt (by omega)]
      congr 1
      simp; omega
    rw [e1, e2]
    simp

theorem fill_rel {place : Nat → Option (Nat × Nat)} : ∀ (parts : List (Nat × AV)) (parts' : List (Nat × Value)) (cells out : List AV) (Cells : Array Value),
    parts.map (·.1) = parts'.map (·.1) → VsRel ρ (parts.map (·.2)) (parts'.map (·.2)) → VsRel ρ cells Cells.toList → aFill place cells parts = some out →
    ∃ Out, Instr.fill place Cells parts' = some Out ∧ VsRel ρ out Out.toList
  | [], [], cells, out, Cells, _, _, hc, hf => by
    simp [aFill] at hf; subst hf
    exact ⟨Cells, rfl, hc⟩
  | [], _ :: _, _, _, _, hi, _, _, _ => by simp at hi
  | _ :: _, [], _, _, _, hi, _, _, _ => by simp at hi
  | (i, v) :: rest, (j, V) :: rest', cells, out, Cells, hi, hv, hc, hf => by
    simp only [List.map_cons, List.cons.injEq] at hi
    obtain ⟨rfl, hi'⟩ := hi
    simp only [List.map_cons, VsRel] at hv
    obtain ⟨_, _, he, hvV, hv'⟩ := hv
    simp only [List.cons.injEq] at he
    obtain ⟨rfl, rfl⟩ := he
    simp only [aFill] at hf
    split at hf
    · rename_i off size cs hp hcs
      split at hf
      · rename_i hle
        have hcr := cellsOf_rel hcs hvV
        have hl1 := hcr.length
        have hl2 := hc.length
        have hsz : V.cells.size = size := by rw [← hle.1, ← hl1]; simp
        have hCs : Cells.size = cells.length := by rw [← hl2]; simp
        have hcond : ¬ (V.cells.size ≠ size ∨ off + V.cells.size > Cells.size) := by
          rw [hsz, hCs]; omega
        have hfo := foldl_overlay V.cells.toList 0 off Cells (by simp; omega)
        have hstep : VsRel ρ (overlay cells cs off) (V.cells.zipIdx.foldl (fun cs (c, j) => cs.setIfInBounds (off + j) c) Cells).toList := by
          have e : (V.cells.zipIdx.foldl (fun cs (c, j) => cs.setIfInBounds (off + j) c) Cells) = ((V.cells.toList.zipIdx 0).foldl (fun cs (c, j) => cs.setIfInBounds (off + j) c) Cells) := by
            rw [← Array.foldl_toList]; simp
          rw [e, hfo]
          unfold overlay
          rw [hl1]
          exact ((hc.take _).append hcr).append (hc.drop _)
        obtain ⟨Out, hO, hr⟩ := fill_rel rest rest' _ out _ hi' hv' hstep hf
        refine ⟨Out, ?_, hr⟩
        simp only [Instr.fill, hp]
        simp only [Bool.or_eq_true, decide_eq_true_eq]
        rw [if_neg hcond]
        exact hO
      · simp at hf
    · simp at hf

def placeOf (C : Cx) (t : TypeId) : Option (Nat → Option (Nat × Nat)) :=
  match C.kind t with
  | .struct fs _ => if fs.all (fun f => (C.size f.2).isSome) then some fun i => (fs[i]?).map fun f => (f.1, (C.size f.2).getD 0) else none
  | .array _ el => (C.size el).map fun sz i => some (i * sz, sz)
  | _ => none

def aBuild (C : Cx) (t : TypeId) (parts : List (Nat × AV)) : Option AV :=
  match placeOf C t, C.zero t with
  | some place, some zs => (aFill place zs parts).map .agg
  | _, _ => none

theorem run_zero (ok : C.OK) {t : TypeId} {zs : List AV} (h : C.zero t = some zs) (w : World) : ∃ z, (zeroValue t).run C.P w = .ok z w ∧ VsRel ρ zs z.cells.toList ∧ (C.kind t).isAgg = (match z with | .agg _ => true | _ => false) ∧ (∀ v ∈ z.cells.toList, v.oneCell' = true) ∧ some zs.length = C.size t := by
  unfold Cx.zero at h
  cases ht : C.ty t with
  | none => rw [ht] at h; simp at h
  | some y =>
    rw [ht] at h; simp at h
    obtain ⟨i, d, hi, _, hs, _, _, hz⟩ := ok.ty t y ht
    obtain ⟨hl, z, hzi, hzr⟩ := hz zs h
    refine ⟨z, by simp [zeroValue, typeInfo, hi, hzi], ?_⟩
    have hk : C.kind t = y.kind := by simp [Cx.kind, ht]
    rw [hk]
    have hlen : some zs.length = C.size t := by simp [Cx.size, ht, hl]
    cases hA : y.kind.isAgg with
    | true =>
      rw [hA] at hzr
      obtain ⟨vs, rfl, hvs, hone⟩ := hzr
      exact ⟨VsRel.mono (List.nil_prefix) _ _ hvs, rfl, hone, hlen⟩
    | false =>
      rw [hA] at hzr
      obtain ⟨v, rfl, hv, hone⟩ := hzr
      have hc : z.cells = #[z] := by cases z <;> first | rfl | simp [Value.oneCell'] at hone
      refine ⟨?_, ?_, ?_, hlen⟩
      · rw [hc]
        simp only [VsRel]
        exact ⟨z, [], rfl, VRel.mono (List.nil_prefix) _ _ hv, rfl⟩
      · cases z <;> first | rfl | simp [Value.oneCell'] at hone
      · rw [hc]; simpa using hone

theorem run_aBuild (ok : C.OK) {t : TypeId} {parts : List (Nat × AV)} {parts' : Array (Nat × Value)} {v : AV} (hv : aBuild C t parts = some v)
    (hi : parts.map (·.1) = parts'.toList.map (·.1)) (hp : VsRel ρ (parts.map (·.2)) (parts'.toList.map (·.2))) (w : World) :
    ∃ V, (Instr.build t parts').run C.P w = .ok V w ∧ VRel ρ v V := by
  unfold aBuild at hv
  split at hv
  · rename_i place zs hpl hz
    simp only [Option.map_eq_some_iff] at hv
    obtain ⟨out, hout, rfl⟩ := hv
    obtain ⟨z, hzr, hzrel, hag, _⟩ := run_zero ok hz w
    have hzr' : VsRel ρ zs z.cells.toList := VsRel.mono List.nil_prefix _ _ hzrel
    unfold placeOf at hpl
    split at hpl
    · rename_i fs pl hk
      split at hpl
      · rename_i hall
        simp at hpl
        obtain ⟨D, hD, hr⟩ := kind_und ok hk (by simp)
        simp only [KindRel] at hr
        obtain ⟨F, rfl, hF, _⟩ := hr
        -- the places
        have hsizes : ∀ f ∈ F.toList, ∃ n, C.size f.type = some n := by
          intro f hf
          have := List.all_eq_true.1 hall (f.offset, f.type) (by rw [← hF]; exact List.mem_map.2 ⟨f, hf, rfl⟩)
          exact Option.isSome_iff_exists.1 this
        have hmap : (F.mapM fun f => (do pure (f.offset, ← sizeOf f.type) : Sem (Nat × Nat))).run C.P w = .ok (F.map fun f => (f.offset, (C.size f.type).getD 0)) w := by
          have key : ∀ (l : List Field), (∀ f ∈ l, ∃ n, C.size f.type = some n) → (l.mapM fun f => (do pure (f.offset, ← sizeOf f.type) : Sem (Nat × Nat))).run C.P w = .ok (l.map fun f => (f.offset, (C.size f.type).getD 0)) w := by
            intro l
            induction l with
            | nil => intro _; simp
            | cons f l ih =>
              intro hl
              obtain ⟨n, hn⟩ := hl f (by simp)
              simp only [List.mapM_cons, Sem.run_bind, run_sizeOf' ok hn w, Result.andThen_ok, Sem.run_pure, ih (fun g hg => hl g (by simp [hg])), List.map_cons, hn, Option.getD_some]
          rw [Array.mapM_eq_mapM_toList]
          simp only [Sem.run_map, key F.toList hsizes, Result.andThen_ok]
          rw [← Array.toList_map]
        obtain ⟨Out, hO, hr⟩ := fill_rel parts parts'.toList zs out z.cells hi hp hzr' hout
        refine ⟨.agg Out, ?_, by simp only [VRel]; exact ⟨Out, rfl, hr⟩⟩
        simp only [Instr.build, Sem.run_bind, hzr, run_und hD, Result.andThen_ok, hmap]
        have hplace : place = fun i => (F.map fun f => (f.offset, (C.size f.type).getD 0))[i]? := by
          funext i
          rw [← hpl, ← hF]
          simp
          rfl
        rw [hplace] at hO
        simp only [hO]
        rfl
      · simp at hpl
    · rename_i n el hk
      simp only [Option.map_eq_some_iff] at hpl
      obtain ⟨sz, hsz, rfl⟩ := hpl
      obtain ⟨D, hD, hr⟩ := kind_und ok hk (by simp)
      simp only [KindRel] at hr; subst hr
      obtain ⟨Out, hO, hr⟩ := fill_rel parts parts'.toList zs out z.cells hi hp hzr' hout
      refine ⟨.agg Out, ?_, by simp only [VRel]; exact ⟨Out, rfl, hr⟩⟩
      simp only [Instr.build, Sem.run_bind, hzr, run_und hD, Result.andThen_ok, run_sizeOf' ok hsz w, hO]
      rfl
    · simp at hpl
  · simp at hv

/-! ### slicing -/
def aBound (x : Option AV) (dflt y : Nat) : Option Nat :=
  match x with
  | none => some dflt
  | some (.int _ n) => if 0 ≤ n ∧ n ≤ y then some n.toNat else none
  | some _ => none

def OptRel (ρ : Rho) : Option AV → Option Value → Prop
  | none, none => True
  | some x, some X => VRel ρ x X
  | _, _ => False

theorem bound_run {x : AV} {X : Value} {d y y' n : Nat} (hx : aBound (some x) d y = some n) (hr : VRel ρ x X) (hy : y ≤ y') (code : BoundsCode) (P : Program) (w : World) :
    (Instr.sliceBound X y' code).run P w = .ok n w := by
  unfold aBound at hx
  split at hx
  · rename_i e; simp at e
  · rename_i k m e
    simp at e; subst e
    split at hx
    · rename_i hb
      simp at hx; subst hx
      rw [int_rel hr]
      have : 0 ≤ m ∧ m ≤ (y' : Int) := ⟨hb.1, by omega⟩
      simp [Instr.sliceBound, asIntOf, this]
    · simp at hx
  · simp at hx

def aBounds (len cap : Nat) (lo hi mx : Option AV) : Option (Nat × Nat × Nat) :=
  match aBound mx cap cap with
  | none => none
  | some m => match (match hi, mx with | none, some _ => none | none, none => some len | some x, _ => aBound (some x) len m) with
    | none => none
    | some h => match aBound lo 0 h with
      | none => none
      | some l => some (l, h, m)

theorem run_aBounds {len cap cap' : Nat} {lo hi mx : Option AV} {lo' hi' mx' : Option Value} {l h m : Nat} (hv : aBounds len cap lo hi mx = some (l, h, m)) (hc : cap ≤ cap')
    (h1 : OptRel ρ lo lo') (h2 : OptRel ρ hi hi') (h3 : OptRel ρ mx mx') (b : Bool) (P : Program) (w : World) :
    (Instr.sliceBounds b len cap' lo' hi' mx').run P w = .ok (l, h, if mx.isNone then cap' else m) w ∧ (mx = none → m = cap) := by
  unfold aBounds at hv
  split at hv
  · simp at hv
  · rename_i m0 hm
    split at hv
    · simp at hv
    · rename_i h0 hh
      split at hv
      · simp at hv
      · rename_i l0 hl
        simp only [Option.some.injEq, Prod.mk.injEq] at hv
        obtain ⟨rfl, rfl, rfl⟩ := hv
        have hlow : (lo' = none ∧ l0 = 0) ∨ ∃ X, lo' = some X ∧ ∀ code, (Instr.sliceBound X h0 code).run P w = .ok l0 w := by
          cases lo with
          | none => cases lo' with
            | none => simp [aBound] at hl; exact .inl ⟨rfl, hl.symm⟩
            | some _ => exact h1.elim
          | some x => cases lo' with
            | none => exact h1.elim
            | some X => exact .inr ⟨X, rfl, fun code => bound_run hl h1 (Nat.le_refl _) code P w⟩
        cases mx with
        | none =>
          cases mx' with
          | some _ => exact h3.elim
          | none =>
            simp [aBound] at hm; subst hm
            refine ⟨?_, fun _ => rfl⟩
            cases hi with
            | none => cases hi' with
              | some _ => exact h2.elim
              | none =>
                simp at hh; subst hh
                rcases hlow with ⟨rfl, rfl⟩ | ⟨L, rfl, hL⟩
                · simp [Instr.sliceBounds]
                · simp [Instr.sliceBounds, hL]
            | some x => cases hi' with
              | none => exact h2.elim
              | some X =>
                simp at hh
                have e := bound_run hh h2 hc (if b then .sliceAcap else .sliceAlen) P w
                rcases hlow with ⟨rfl, rfl⟩ | ⟨L, rfl, hL⟩
                · simp [Instr.sliceBounds, e]
                · simp [Instr.sliceBounds, e, hL]
        | some y =>
          cases mx' with
          | none => exact h3.elim
          | some Y =>
            refine ⟨?_, fun e => by simp at e⟩
            have e3 := bound_run hm h3 hc (if b then .slice3Acap else .slice3Alen) P w
            cases hi with
            | none => simp at hh
            | some x => cases hi' with
              | none => exact h2.elim
              | some X =>
                simp at hh
                have e := bound_run hh h2 (Nat.le_refl _) .slice3B P w
                rcases hlow with ⟨rfl, rfl⟩ | ⟨L, rfl, hL⟩
                · simp [Instr.sliceBounds, e3, e]
                · simp [Instr.sliceBounds, e3, e, hL]

def aSlice (C : Cx) (t : TypeId) (x : AV) (lo hi mx : Option AV) : Option AV :=
  match C.kind t, x with
  | .str, .str s => match mx with
    | some _ => none
    | none => (aBounds s.length s.length lo hi none).map fun (l, h, _) => .str ((s.take h).drop l)
  | .slice el, .sl none _ _ _ => match C.size el with
    | some _ => (aBounds 0 0 lo hi mx).map fun _ => .sl none 0 0 none
    | none => none
  | .slice el, .sl (some a) len cap gr => match C.size el with
    | some sz =>
      if gr = none ∨ gr = some sz then
        (aBounds len cap lo hi mx).map fun (l, h, m) => .sl (some (if m = l ∧ (gr = none ∨ mx.isSome) then a else a.add (l * sz))) (h - l) (m - l) (if mx.isSome then none else gr)
      else none
    | none => none
  | .array n el, .ptr (some a) => match C.size el with
    | some sz => match mx with
      | some _ => none
      | none => (aBounds n n lo hi none).map fun (l, h, m) => .sl (some (if m = l then a else a.add (l * sz))) (h - l) (m - l) none
    | none => none
  | _, _ => none

theorem aBound_le {x : Option AV} {d y n : Nat} (hx : aBound x d y = some n) : x = none ∧ n = d ∨ n ≤ y := by
  unfold aBound at hx
  split at hx
  · simp at hx; exact .inl ⟨rfl, hx.symm⟩
  · split at hx
    · rename_i hb; simp at hx; right; omega
    · simp at hx
  · simp at hx

theorem aBounds_le {len cap : Nat} {lo hi mx : Option AV} {l h m : Nat} (hv : aBounds len cap lo hi mx = some (l, h, m)) : l ≤ h ∧ m ≤ cap ∧ (h ≤ m ∨ hi = none ∧ mx = none ∧ h = len) := by
  unfold aBounds at hv
  split at hv
  · simp at hv
  · rename_i m0 hm
    split at hv
    · simp at hv
    · rename_i h0 hh
      split at hv
      · simp at hv
      · rename_i l0 hl
        simp only [Option.some.injEq, Prod.mk.injEq] at hv
        obtain ⟨rfl, rfl, rfl⟩ := hv
        refine ⟨?_, ?_, ?_⟩
        · rcases aBound_le hl with ⟨_, h⟩ | h <;> omega
        · rcases aBound_le hm with ⟨_, h⟩ | h <;> omega
        · cases hi with
          | none => cases mx with
            | none => simp at hh; exact .inr ⟨rfl, rfl, hh.symm⟩
            | some _ => simp at hh
          | some x =>
            simp at hh
            rcases aBound_le hh with ⟨h, _⟩ | h
            · simp at h
            · exact .inl h

end
end Go.Proofs.Ytgcoipcnhmkeaaa.Ax
end

/-! AX, part 7: slicing (run), lengths, least and greatest, look-ups, assertions -/
section
set_option linter.unusedVariables false
set_option linter.unusedSimpArgs false
namespace Go.Proofs.Ytgcoipcnhmkeaaa.Ax
open Go.RowKit

section
variable {C : Cx} {ρ : Rho} {h : AH} {W : World}

theorem exact_sl {a : AA} {A : Addr} (ha : ARel ρ a A) {len cap : Nat} (hl : len ≤ cap) : VRel ρ (.sl (some a) len cap none) (.slice (some A) len cap) := by
  cases a with
  | base b o => simp only [ARel] at ha; subst ha; simp only [VRel]; exact ⟨trivial, _, rfl, .inl rfl⟩
  | new k o =>
    obtain ⟨r, hr, hA⟩ := ha
    simp only [VRel]
    exact ⟨r, A, cap, hr, rfl, hl, Nat.le_refl _, fun _ => rfl, .inl ⟨hA, fun n hn => by simp at hn⟩⟩

theorem run_aSlice (ok : C.OK) {t : TypeId} {x v : AV} {lo hi mx : Option AV} {X : Value} {lo' hi' mx' : Option Value} (hv : aSlice C t x lo hi mx = some v) (hx : VRel ρ x X)
    (h1 : OptRel ρ lo lo') (h2 : OptRel ρ hi hi') (h3 : OptRel ρ mx mx') (w : World) : ∃ V, (Instr.sliceAt t X lo' hi' mx').run C.P w = .ok V w ∧ VRel ρ v V := by
  unfold aSlice at hv
  split at hv
  · rename_i s hk
    obtain ⟨D, hD, hr⟩ := kind_und ok hk (by simp)
    simp only [KindRel] at hr; subst hr
    cases mx with
    | some _ => simp at hv
    | none =>
      cases mx' with
      | some _ => exact h3.elim
      | none =>
        simp only [Option.map_eq_some_iff, Prod.exists] at hv
        obtain ⟨l, hh, m, hb, rfl⟩ := hv
        rw [str_rel hx]
        obtain ⟨hrun, _⟩ := run_aBounds (mx' := none) hb (Nat.le_refl _) h1 h2 trivial false C.P w
        refine ⟨.string ⟨((s.take hh).drop l).toArray⟩, ?_, by simp [VRel]⟩
        simp only [Instr.sliceAt, Sem.run_bind, run_und hD, Result.andThen_ok, Instr.slice, Option.isSome_none, Bool.false_eq_true, if_false, ba_size, hrun, Sem.run_pure]
        congr 2
        apply ByteArray.ext
        simp [List.drop_take]
  · rename_i el len cap gr hk
    obtain ⟨D, hD, hr⟩ := kind_und ok hk (by simp)
    simp only [KindRel] at hr; subst hr
    split at hv
    · rename_i sz hsz
      simp only [Option.map_eq_some_iff, Prod.exists] at hv
      obtain ⟨l, hh, m, hb, rfl⟩ := hv
      simp only [VRel] at hx
      obtain ⟨rfl, rfl, rfl, rfl⟩ := hx
      obtain ⟨hrun, hm⟩ := run_aBounds (mx' := mx') hb (Nat.le_refl 0) h1 h2 h3 true C.P w
      obtain ⟨e1, e2, e3⟩ := aBounds_le hb
      have hm0 : (if mx.isNone then 0 else m) = 0 := by split <;> omega
      have hh0 : hh = 0 := by rcases e3 with e3 | ⟨_, _, e3⟩ <;> omega
      have hl0 : l = 0 := by omega
      refine ⟨.slice none 0 0, ?_, by simp [VRel]⟩
      simp only [Instr.sliceAt, Sem.run_bind, run_und hD, Result.andThen_ok, Instr.slice, hrun, run_sizeOf' ok hsz w, Sem.run_pure, hm0, hh0, hl0]
      rfl
    · simp at hv
  · rename_i el a len cap gr hk
    obtain ⟨D, hD, hr⟩ := kind_und ok hk (by simp)
    simp only [KindRel] at hr; subst hr
    split at hv
    · rename_i sz hsz
      split at hv
      · rename_i hgr
        simp only [Option.map_eq_some_iff, Prod.exists] at hv
        obtain ⟨l, hh, m, hb, rfl⟩ := hv
        obtain ⟨e1, e2, e3⟩ := aBounds_le hb
        have go : ∀ (A : Addr) (cap' : Nat), X = .slice (some A) len cap' → cap ≤ cap' → (Instr.sliceAt t X lo' hi' mx').run C.P w =
            .ok (.slice (some (if (if mx.isNone then cap' else m) = l then A else A.add (l * sz))) (hh - l) ((if mx.isNone then cap' else m) - l)) w := by
          intro A cap' hX hc
          subst hX
          obtain ⟨hrun, hm⟩ := run_aBounds (mx' := mx') hb hc h1 h2 h3 true C.P w
          simp only [Instr.sliceAt, Sem.run_bind, run_und hD, Result.andThen_ok, Instr.slice, hrun, run_sizeOf' ok hsz w, Sem.run_pure]
          generalize (if mx.isNone = true then cap' else m) = m'
          by_cases e : m' = l
          · simp [e]
          · simp [e]
        cases a with
        | base b o =>
          simp only [VRel] at hx
          obtain ⟨rfl, A, rfl, hA⟩ := hx
          refine ⟨_, go A cap rfl (Nat.le_refl _), ?_⟩
          have hmm : (if mx.isNone = true then cap else m) = m := by
            split
            · rename_i hn
              exact ((run_aBounds (mx' := mx') (ρ := ρ) hb (Nat.le_refl cap) h1 h2 h3 true C.P w).2 (Option.isNone_iff_eq_none.1 hn)).symm
            · rfl
          rw [hmm]
          have hge : (if mx.isSome = true then (none : Option Nat) else none) = none := by split <;> rfl
          rw [hge]
          rcases hA with rfl | ⟨rfl, rfl⟩
          · by_cases hml : m = l
            · simp [hml, VRel]
            · simp only [hml, false_and, if_false, VRel, AA.add, add_addr]
              exact ⟨trivial, _, rfl, .inl rfl⟩
          · obtain rfl : m = 0 := by omega
            obtain rfl : hh = 0 := by omega
            obtain rfl : l = 0 := by omega
            simp [VRel]
        | new k o =>
          simp only [VRel] at hx
          obtain ⟨r, A, cap', hr, rfl, hlc, hcc, hex, hdis⟩ := hx
          refine ⟨_, go A cap' rfl hcc, ?_⟩
          obtain ⟨_, hm⟩ := run_aBounds (mx' := mx') (ρ := ρ) hb hcc h1 h2 h3 true C.P w
          by_cases hcase : gr = none ∨ mx.isSome = true
          · have hmd : (if mx.isNone = true then cap' else m) = m := by
              cases mx with
              | none =>
                rcases hcase with hg | hg
                · simp; rw [hex hg, hm rfl]
                · simp at hg
              | some _ => simp
            have hge : (if mx.isSome = true then none else gr) = none := by
              rcases hcase with hg | hg
              · rw [hg]; split <;> rfl
              · rw [if_pos hg]
            have hhm : hh ≤ m := by
              rcases e3 with e3 | ⟨_, hmn, e3⟩
              · exact e3
              · rw [hmn] at hmd; simp at hmd; omega
            rw [hmd, hge]
            have hcond : (m = l ∧ (gr = none ∨ mx.isSome = true)) = (m = l) := by simp [hcase]
            simp only [hcond]
            by_cases hml : m = l
            · simp only [hml, if_true, VRel]
              exact ⟨r, A, l - l, hr, rfl, by omega, Nat.le_refl _, fun _ => rfl, .inr (by omega)⟩
            · simp only [hml, if_false, VRel, AA.add]
              refine ⟨r, A.add (l * sz), m - l, hr, rfl, by omega, Nat.le_refl _, fun _ => rfl, ?_⟩
              rcases hdis with ⟨hA, _⟩ | h0
              · left
                subst hA
                exact ⟨by rw [add_addr, Nat.add_assoc], fun n hn => by simp at hn⟩
              · omega
          · have hmx : mx = none := by
              cases mx with
              | none => rfl
              | some _ => simp at hcase
            have hg : gr = some sz := by
              rcases hgr with hg | hg
              · exact absurd (.inl hg) hcase
              · exact hg
            subst hmx
            subst hg
            have hmc := hm rfl
            simp only [Option.isNone_none, if_true, Option.isSome_none, Bool.false_eq_true, if_false]
            have hcond : ¬ (m = l ∧ (some sz = none ∨ False)) := by simp
            have hhm : hh ≤ cap' := by rcases e3 with e3 | ⟨_, _, e3⟩ <;> omega
            simp only [reduceCtorEq, or_self, and_false, if_false, VRel, AA.add]
            by_cases hml : cap' = l
            · refine ⟨r, A, cap' - l, hr, by rw [if_pos hml], by omega, by omega, fun e => by simp at e, .inr (by omega)⟩
            · refine ⟨r, A.add (l * sz), cap' - l, hr, by rw [if_neg hml], by omega, by omega, fun e => by simp at e, ?_⟩
              rcases hdis with ⟨hA, hbd⟩ | h0
              · left
                subst hA
                refine ⟨by rw [add_addr, Nat.add_assoc], fun n hn => ?_⟩
                simp at hn; subst hn
                have := hbd sz rfl
                have h2 : (cap' - l) * sz + l * sz = cap' * sz := by rw [← Nat.add_mul]; congr 1; omega
                omega
              · omega
      · simp at hv
    · simp at hv
  · rename_i n el a hk
    obtain ⟨D, hD, hr⟩ := kind_und ok hk (by simp)
    simp only [KindRel] at hr; subst hr
    simp only [VRel] at hx
    obtain ⟨A, hA, rfl⟩ := hx
    split at hv
    · rename_i sz hsz
      cases mx with
      | some _ => simp at hv
      | none =>
        cases mx' with
        | some _ => exact h3.elim
        | none =>
          simp only [Option.map_eq_some_iff, Prod.exists] at hv
          obtain ⟨l, hh, m, hb, rfl⟩ := hv
          obtain ⟨e1, e2, e3⟩ := aBounds_le hb
          obtain ⟨hrun, hm⟩ := run_aBounds (mx' := none) hb (Nat.le_refl _) h1 h2 trivial false C.P w
          have hmn := hm rfl
          have hhn : hh ≤ m := by rcases e3 with e3 | ⟨_, _, e3⟩ <;> omega
          refine ⟨.slice (some (if m = l then A else A.add (l * sz))) (hh - l) (m - l), ?_, ?_⟩
          · simp only [Instr.sliceAt, Sem.run_bind, run_und hD, Result.andThen_ok, Instr.sureAddr, Sem.run_pure, hrun, run_sizeOf' ok hsz w, Option.isNone_none, if_true, hmn]
          · refine exact_sl ?_ (by omega)
            split
            · exact hA
            · exact hA.add _
    · simp at hv
  · simp at hv

/-! ### lengths, least, greatest -/
def aLen (C : Cx) (h : AH) (t : TypeId) (x : AV) : Option AV :=
  match C.kind t, x with
  | .str, .str s => some (.i s.length)
  | .array n _, _ => some (.i n)
  | .ptr e, _ => match C.kind e with | .array n _ => some (.i n) | _ => none
  | .slice _, .sl _ n _ _ => some (.i n)
  | .map _ _, .map none => some (.i 0)
  | .map _ _, .map (some k) => match h.get k with
    | some (.map es _) => some (.i es.length)
    | _ => none
  | _, _ => none

theorem EntsRel.length {as : List AEnt} : ∀ {es : List MapEntry}, EntsRel ρ as es → es.length = as.length := by
  induction as with
  | nil => intro es h; simp only [EntsRel] at h; simp [h]
  | cons a as ih =>
    intro es h
    simp only [EntsRel] at h
    obtain ⟨e, es', rfl, _, h2⟩ := h
    simp [ih h2]

theorem map_block (R : Rel C.W0 ρ h W) {k : Nat} {es : List AEnt} {clock : Nat} (hk : h.get k = some (.map es clock)) {r : RE} (hr : ρ[k]? = some r) :
    ∃ es', W.heap[r.b]? = some (.map es' clock) ∧ EntsRel ρ es es'.toList := by
  obtain ⟨r', hr', _, ho⟩ := R.live k _ hk
  rw [hr] at hr'; cases hr'
  exact ho

theorem run_getMap (R : Rel C.W0 ρ h W) {k : Nat} {es : List AEnt} {clock : Nat} (hk : h.get k = some (.map es clock)) {r : RE} (hr : ρ[k]? = some r) :
    ∃ es', (getObj r.b).run C.P W = .ok (.map es' clock) W ∧ EntsRel ρ es es'.toList ∧ W.heap[r.b]? = some (.map es' clock) := by
  obtain ⟨es', h1, h2⟩ := map_block R hk hr
  exact ⟨es', by simp [getObj, Sem.run, h1], h2, h1⟩

theorem run_aLen (ok : C.OK) (R : Rel C.W0 ρ h W) {t : TypeId} {x v : AV} {X : Value} (hv : aLen C h t x = some v) (hx : VRel ρ x X) (ty : TypeId) (ts : Array TypeId) (ht : ts[0]? = some t) :
    ∃ V, (Builtin.len_ ts ty #[X]).run C.P W = .ok V W ∧ VRel ρ v V := by
  unfold aLen at hv
  split at hv
  · rename_i s hk
    simp at hv; subst hv
    obtain ⟨D, hD, hr⟩ := kind_und ok hk (by simp)
    simp only [KindRel] at hr; subst hr
    rw [str_rel hx]
    exact ⟨goInt s.length, by simp [Builtin.len_, ht, run_und hD, ba_size], by simp [VRel, goInt]⟩
  · rename_i n e hk
    simp at hv; subst hv
    obtain ⟨D, hD, hr⟩ := kind_und ok hk (by simp)
    simp only [KindRel] at hr; subst hr
    exact ⟨goInt n, by simp [Builtin.len_, ht, run_und hD], by simp [VRel, goInt]⟩
  · rename_i e hk
    split at hv
    · rename_i n e' hk'
      simp at hv; subst hv
      obtain ⟨D, hD, hr⟩ := kind_und ok hk (by simp)
      obtain ⟨D', hD', hr'⟩ := kind_und ok hk' (by simp)
      simp only [KindRel] at hr hr'; subst hr; subst hr'
      exact ⟨goInt n, by simp [Builtin.len_, ht, run_und hD, run_und hD'], by simp [VRel, goInt]⟩
    · simp at hv
  · rename_i e a n cap gr hk
    simp at hv; subst hv
    obtain ⟨D, hD, hr⟩ := kind_und ok hk (by simp)
    simp only [KindRel] at hr; subst hr
    have : ∃ A c, X = .slice A n c := by
      cases a with
      | none => simp only [VRel] at hx; obtain ⟨rfl, _, _, rfl⟩ := hx; exact ⟨_, _, rfl⟩
      | some a => cases a with
        | base b o => simp only [VRel] at hx; obtain ⟨_, A, h1, _⟩ := hx; exact ⟨_, _, h1⟩
        | new k o => simp only [VRel] at hx; obtain ⟨r, A, c, _, h1, _⟩ := hx; exact ⟨_, _, h1⟩
    obtain ⟨A, c, rfl⟩ := this
    exact ⟨goInt n, by simp [Builtin.len_, ht, run_und hD], by simp [VRel, goInt]⟩
  · rename_i k0 v0 hk
    simp at hv; subst hv
    obtain ⟨D, hD, hr⟩ := kind_und ok hk (by simp)
    simp only [KindRel] at hr; subst hr
    simp only [VRel] at hx; subst hx
    exact ⟨goInt 0, by simp [Builtin.len_, ht, run_und hD], by simp [VRel, goInt]⟩
  · rename_i k0 v0 k hk
    split at hv
    · rename_i es clock hg
      simp at hv; subst hv
      obtain ⟨D, hD, hr⟩ := kind_und ok hk (by simp)
      simp only [KindRel] at hr; subst hr
      simp only [VRel] at hx
      obtain ⟨r, hr, rfl⟩ := hx
      obtain ⟨es', hrun, hrel, _⟩ := run_getMap R hg hr
      refine ⟨goInt es.length, ?_, by simp [VRel, goInt]⟩
      have := hrel.length
      simp only [Array.length_toList] at this
      simp [Builtin.len_, ht, run_und hD, hrun, this]
    · simp at hv
  · simp at hv

def aMax (xs : List AV) : Option AV :=
  match xs with
  | .int k x :: rest => rest.foldlM (fun a y => match a, y with | .int k x, .int _ y => some (.int k (if y > x then y else x)) | _, _ => none) (.int k x)
  | _ => none
def aMin (xs : List AV) : Option AV :=
  match xs with
  | .int k x :: rest => rest.foldlM (fun a y => match a, y with | .int k x, .int _ y => some (.int k (if y < x then y else x)) | _, _ => none) (.int k x)
  | _ => none

theorem run_aMax {xs : List AV} {Xs : Array Value} {v : AV} (hv : aMax xs = some v) (hx : VsRel ρ xs Xs.toList) (ts : Array TypeId) (ty : TypeId) (P : Program) (w : World) :
    ∃ V, (Builtin.max_ ts ty Xs).run P w = .ok V w ∧ VRel ρ v V := by
  unfold aMax at hv
  split at hv
  · rename_i k x rest
    simp only [VsRel] at hx
    obtain ⟨X, Ys, he, hX, hY⟩ := hx
    simp only [Builtin.max_, he]
    clear he
    rw [int_rel hX]
    clear hX
    induction rest generalizing x Ys k with
    | nil => simp only [VsRel] at hY; subst hY; simp at hv; subst hv; exact ⟨.int k x, by simp, by simp only [VRel]⟩
    | cons y rest ih =>
      simp only [VsRel] at hY
      obtain ⟨Y, Zs, rfl, hYr, hZ⟩ := hY
      simp only [List.foldlM_cons, bind, Option.bind_eq_some_iff] at hv
      obtain ⟨a, ha, hrest⟩ := hv
      cases y <;> simp at ha
      subst ha
      obtain ⟨V, hV, hr⟩ := ih _ _ hrest Zs hZ
      rw [int_rel hYr]
      refine ⟨V, ?_, hr⟩
      rw [List.foldlM_cons]
      simp only [Sem.run_bind, Builtin.max2, Sem.run_pure, Result.andThen_ok]
      exact hV
  · simp at hv

theorem run_aMin {xs : List AV} {Xs : Array Value} {v : AV} (hv : aMin xs = some v) (hx : VsRel ρ xs Xs.toList) (ts : Array TypeId) (ty : TypeId) (P : Program) (w : World) :
    ∃ V, (Builtin.min_ ts ty Xs).run P w = .ok V w ∧ VRel ρ v V := by
  unfold aMin at hv
  split at hv
  · rename_i k x rest
    simp only [VsRel] at hx
    obtain ⟨X, Ys, he, hX, hY⟩ := hx
    simp only [Builtin.min_, he]
    clear he
    rw [int_rel hX]
    clear hX
    induction rest generalizing x Ys k with
    | nil => simp only [VsRel] at hY; subst hY; simp at hv; subst hv; exact ⟨.int k x, by simp, by simp only [VRel]⟩
    | cons y rest ih =>
      simp only [VsRel] at hY
      obtain ⟨Y, Zs, rfl, hYr, hZ⟩ := hY
      simp only [List.foldlM_cons, bind, Option.bind_eq_some_iff] at hv
      obtain ⟨a, ha, hrest⟩ := hv
      cases y <;> simp at ha
      subst ha
      obtain ⟨V, hV, hr⟩ := ih _ _ hrest Zs hZ
      rw [int_rel hYr]
      refine ⟨V, ?_, hr⟩
      rw [List.foldlM_cons]
      simp only [Sem.run_bind, Builtin.min2, Sem.run_pure, Result.andThen_ok]
      exact hV
  · simp at hv

end
end Go.Proofs.Ytgcoipcnhmkeaaa.Ax
end

/-! AX, part 8: keys of maps, look-ups, assertions -/
section
set_option linter.unusedVariables false
set_option linter.unusedSimpArgs false
namespace Go.Proofs.Ytgcoipcnhmkeaaa.Ax
open Go.RowKit

section
variable {C : Cx} {ρ : Rho} {h : AH} {W : World}

def aFind (C : Cx) (kt : TypeId) (key : AV) : List AEnt → Nat → Option (Option (Nat × AV))
  | [], _ => some none
  | e :: es, i => match aEqIn C 100 kt key e.key with
    | some true => some (some (i, e.val))
    | some false => aFind C kt key es (i + 1)
    | none => none

def FRel (ρ : Rho) : Option (Nat × AV) → Option (Nat × Value) → Prop
  | none, none => True
  | some (i, v), some (j, V) => i = j ∧ VRel ρ v V
  | _, _ => False

theorem findAsking_rel (ok : C.OK) {kt : TypeId} {key : AV} {K : Value} (hk : VRel ρ key K) (w : World) : ∀ (es : List AEnt) (es' : List MapEntry) (i : Nat) (r : Option (Nat × AV)), EntsRel ρ es es' →
    aFind C kt key es i = some r → ∃ r', (Instr.findAsking kt K es' i).run C.P w = .ok r' w ∧ FRel ρ r r'
  | [], es', i, r, he, hf => by
    simp only [EntsRel] at he; subst he
    simp [aFind] at hf; subst hf
    exact ⟨none, by simp [Instr.findAsking], trivial⟩
  | e :: es, es', i, r, he, hf => by
    simp only [EntsRel] at he
    obtain ⟨e', es'', rfl, ⟨h1, h2, _⟩, h3⟩ := he
    simp only [aFind] at hf
    split at hf
    · rename_i hq
      simp at hf; subst hf
      have := run_eqIn ok 100 10000 (by omega) kt _ _ true hq K e'.key hk h1 w
      exact ⟨some (i, e'.val), by simp only [Instr.findAsking, Sem.run_bind, Op.equal, Op.maxDepth, this, Result.andThen_ok, if_true, Sem.run_pure], ⟨rfl, h2⟩⟩
    · rename_i hq
      have := run_eqIn ok 100 10000 (by omega) kt _ _ false hq K e'.key hk h1 w
      obtain ⟨r', hr, hrel⟩ := findAsking_rel ok hk w es es'' (i + 1) r h3 hf
      exact ⟨r', by simp only [Instr.findAsking, Sem.run_bind, Op.equal, Op.maxDepth, this, Result.andThen_ok, Bool.false_eq_true, if_false]; exact hr, hrel⟩
    · simp at hf

/-- A key's kind that is compared at once. -/
def nowKind : AKind → Bool
  | .int _ | .str | .bool => true
  | _ => false

theorem findNow_rel (ok : C.OK) {kt : TypeId} {key : AV} {K : Value} {D : TypeDesc} (hD : C.P.underlying kt = some D) (hn : nowKind (C.kind kt) = true) (hk : VRel ρ key K) :
    ∀ (es : List AEnt) (es' : List MapEntry) (i : Nat) (r : Option (Nat × AV)), EntsRel ρ es es' → aFind C kt key es i = some r → ∃ r', Instr.findNow D K es' i = some r' ∧ FRel ρ r r'
  | [], es', i, r, he, hf => by
    simp only [EntsRel] at he; subst he
    simp [aFind] at hf; subst hf
    exact ⟨none, by simp [Instr.findNow], trivial⟩
  | e :: es, es', i, r, he, hf => by
    simp only [EntsRel] at he
    obtain ⟨e', es'', rfl, ⟨h1, h2, _⟩, h3⟩ := he
    have same0 : ∀ ek b, VRel ρ ek e'.key → aEqIn C 100 kt key ek = some b → Instr.sameNow D K e'.key = some b := by
      intro ek b h1 hb
      obtain ⟨D', hD', hr⟩ := kind_und ok rfl (by intro e; rw [e] at hn; simp [nowKind] at hn : C.kind kt ≠ .other)
      rw [hD] at hD'; cases hD'
      unfold aEqIn at hb
      split at hb
      · rename_i k0 k a k' b' hkk
        split at hb
        · rename_i e0
          subst e0
          simp at hb; subst hb
          rw [hkk] at hr; simp only [KindRel] at hr; subst hr
          rw [int_rel hk, int_rel h1]
          simp [Instr.sameNow]
        · simp at hb
      · rename_i a b' hkk
        simp at hb; subst hb
        rw [hkk] at hr; simp only [KindRel] at hr; subst hr
        rw [str_rel hk, str_rel h1]
        simp only [Instr.sameNow, beq_toListBytes, ByteArray.toList_mk]
      · rename_i a b' hkk
        simp at hb; subst hb
        rw [hkk] at hr; simp only [KindRel] at hr; subst hr
        rw [bool_rel hk, bool_rel h1]
        simp [Instr.sameNow]
      · rename_i hkk; rw [hkk] at hn; simp [nowKind] at hn
      · rename_i hkk; rw [hkk] at hn; simp [nowKind] at hn
      · simp at hb
    have same := fun b => same0 e.key b h1
    simp only [aFind] at hf
    split at hf
    · rename_i hq
      simp at hf; subst hf
      exact ⟨some (i, e'.val), by simp [Instr.findNow, same _ hq], ⟨rfl, h2⟩⟩
    · rename_i hq
      obtain ⟨r', hr, hrel⟩ := findNow_rel ok hD hn hk es es'' (i + 1) r h3 hf
      exact ⟨r', by simp [Instr.findNow, same _ hq, hr], hrel⟩
    · simp at hf

/-- A key's kind that is asked. -/
def askKind : AKind → Bool
  | .struct _ true | .array _ _ => true
  | _ => false

theorem findKey_rel (ok : C.OK) {kt : TypeId} {key : AV} {K : Value} (hn : nowKind (C.kind kt) || askKind (C.kind kt)) (hk : VRel ρ key K) (hagg : askKind (C.kind kt) = true → ∃ cs, key = .agg cs) (w : World)
    {es : List AEnt} {es' : List MapEntry} {r : Option (Nat × AV)} (he : EntsRel ρ es es') (hf : aFind C kt key es 0 = some r) :
    ∃ r', (Instr.findKey kt K es').run C.P w = .ok r' w ∧ FRel ρ r r' := by
  obtain ⟨D, hD, hr⟩ := kind_und ok rfl (by intro e; rw [e] at hn; simp [nowKind, askKind] at hn : C.kind kt ≠ .other)
  cases hnow : nowKind (C.kind kt) with
  | true =>
    obtain ⟨r', h1, h2⟩ := findNow_rel ok hD hnow hk es es' 0 r he hf
    exact ⟨r', by simp only [Instr.findKey, Sem.run_bind, run_und hD, Result.andThen_ok, h1, Sem.run_pure], h2⟩
  | false =>
    rw [hnow] at hn
    simp at hn
    obtain ⟨cs, rfl⟩ := hagg hn
    simp only [VRel] at hk
    obtain ⟨vs, rfl, hvs⟩ := hk
    obtain ⟨r', h1, h2⟩ := findAsking_rel ok (K := .agg vs) (by simp only [VRel]; exact ⟨vs, rfl, hvs⟩) w es es' 0 r he hf
    refine ⟨r', ?_, h2⟩
    cases es' with
    | nil =>
      simp only [Instr.findKey, Sem.run_bind, run_und hD, Result.andThen_ok, Instr.findNow, Sem.run_pure]
      simpa [Instr.findAsking] using h1
    | cons e' es'' =>
      have : Instr.findNow D (.agg vs) (e' :: es'') 0 = none := by
        simp only [Instr.findNow]
        have : Instr.sameNow D (.agg vs) e'.key = none := by cases D <;> rfl
        rw [this]
      simp only [Instr.findKey, Sem.run_bind, run_und hD, Result.andThen_ok, this]
      exact h1

/-! ### may a value be a key? -/
@[simp] def aKeyG (C : Cx) (q : TypeId → AV → Bool) : List (Nat × TypeId) → List AV → Bool
  | [], _ => true
  | (o, t) :: fs, xs => match aPart C t xs o with
    | some x => q t x && aKeyG C q fs xs
    | none => false
def aKey (C : Cx) : Nat → TypeId → AV → Bool
  | 0, _, _ => false
  | n + 1, t, x =>
    match C.kind t, x with
    | .int _, .int _ _ => true
    | .str, .str _ => true
    | .bool, .bool _ => true
    | .struct fs true, .agg xs => aKeyG C (aKey C n) fs xs
    | .array len el, .agg xs => match C.size el with
      | some sz => aKeyG C (aKey C n) ((List.range len).map fun i => (i * sz, el)) xs
      | none => false
    | _, _ => false
def aKeyFs (C : Cx) (n : Nat) : List (Nat × TypeId) → List AV → Bool := aKeyG C (aKey C n)

def keyAll (empty : Bool) (d : Nat) (xs : Array Value) : List (Nat × TypeId) → Sem Unit
  | [] => pure ()
  | (o, t) :: fs => do
      let a ← part t xs o
      Instr.checkKey empty d t a
      keyAll empty d xs fs

theorem run_checkKey_struct {P : Program} (w : World) (empty : Bool) (d : Nat) (t : TypeId) (xs : Array Value) (F : Array Field) (ht : P.underlying t = some (.struct F)) (hn : ∀ f ∈ F.toList, f.name ≠ "_") :
    (Instr.checkKey empty (d + 1) t (.agg xs)).run P w = (keyAll empty d xs (F.toList.map fun f => (f.offset, f.type))).run P w := by
  simp only [Instr.checkKey, Sem.run_bind, run_und ht, Result.andThen_ok]
  rw [← Array.forIn_toList]
  generalize F.toList = fs at hn
  clear ht
  induction fs generalizing w with
  | nil => simp [keyAll]
  | cons f fs ih =>
    simp only [List.forIn_cons, List.map_cons, keyAll, Sem.run_bind, Sem.run_ite]
    rw [if_pos (hn f (by simp))]
    generalize (part f.type xs f.offset).run P w = r1
    cases r1 with
    | ok a w1 =>
      simp only [Result.andThen_ok]
      generalize (Instr.checkKey empty d f.type a).run P w1 = r2
      cases r2 with
      | ok u w2 =>
        simp only [Result.andThen_ok, Sem.run_pure]
        have := ih w2 (fun g hg => hn g (by simp [hg]))
        simpa using this
      | halt x w2 => simp [Result.andThen]
    | halt x w1 => simp [Result.andThen]

theorem run_checkKey_array {P : Program} (w : World) (empty : Bool) (d : Nat) (t el : TypeId) (len sz : Nat) (xs : Array Value) (ht : P.underlying t = some (.array len el)) (hs : ∀ w, (sizeOf el).run P w = .ok sz w) :
    (Instr.checkKey empty (d + 1) t (.agg xs)).run P w = (keyAll empty d xs ((List.range len).map fun i => (i * sz, el))).run P w := by
  simp only [Instr.checkKey, Sem.run_bind, run_und ht, Result.andThen_ok]
  rw [Std.Legacy.Range.forIn_eq_forIn_range']
  simp only [Std.Legacy.Range.size, Nat.sub_zero, Nat.add_sub_cancel, Nat.div_one, ← List.range_eq_range']
  generalize List.range len = fs
  induction fs generalizing w with
  | nil => simp [keyAll]
  | cons f fs ih =>
    simp only [List.forIn_cons, List.map_cons, keyAll, Sem.run_bind, hs, Result.andThen_ok]
    generalize (part el xs (f * sz)).run P w = r1
    cases r1 with
    | ok a w1 =>
      simp only [Result.andThen_ok]
      generalize (Instr.checkKey empty d el a).run P w1 = r2
      cases r2 with
      | ok u w2 =>
        simp only [Result.andThen_ok, Sem.run_pure]
        have := ih w2
        simpa using this
      | halt x w2 => simp [Result.andThen]
    | halt x w1 => simp [Result.andThen]

mutual
theorem run_aKey (ok : C.OK) (empty : Bool) : (n d : Nat) → n ≤ d → (t : TypeId) → (x : AV) → aKey C n t x = true → (X : Value) → VRel ρ x X → (w : World) → (Instr.checkKey empty d t X).run C.P w = .ok () w
  | 0, _, _, _, _, h, _, _, _ => by simp [aKey] at h
  | n + 1, d, hd, t, x, h, X, hx, w => by
    obtain ⟨d, rfl⟩ : ∃ d', d = d' + 1 := ⟨d - 1, by omega⟩
    unfold aKey at h
    split at h
    · rename_i hk
      obtain ⟨D, hD, hr⟩ := kind_und ok hk (by simp)
      simp only [KindRel] at hr; subst hr
      rw [int_rel hx]; simp [Instr.checkKey, run_und hD]
    · rename_i hk
      obtain ⟨D, hD, hr⟩ := kind_und ok hk (by simp)
      simp only [KindRel] at hr; subst hr
      rw [str_rel hx]; simp [Instr.checkKey, run_und hD]
    · rename_i hk
      obtain ⟨D, hD, hr⟩ := kind_und ok hk (by simp)
      simp only [KindRel] at hr; subst hr
      rw [bool_rel hx]; simp [Instr.checkKey, run_und hD]
    · rename_i fs xs hk
      obtain ⟨D, hD, hr⟩ := kind_und ok hk (by simp)
      simp only [KindRel] at hr
      obtain ⟨F, rfl, hF, hp⟩ := hr
      obtain ⟨hn, _, _⟩ := hp trivial
      simp only [VRel] at hx
      obtain ⟨vs, rfl, hvs⟩ := hx
      rw [run_checkKey_struct w empty d t vs F hD hn, hF]
      exact run_aKeyFs ok empty n d (by omega) fs xs h vs hvs w
    · rename_i len el xs hk
      split at h
      · rename_i sz hsz
        obtain ⟨D, hD, hr⟩ := kind_und ok hk (by simp)
        simp only [KindRel] at hr; subst hr
        simp only [VRel] at hx
        obtain ⟨vs, rfl, hvs⟩ := hx
        rw [run_checkKey_array w empty d t el len sz vs hD (fun w => run_sizeOf' ok hsz w)]
        exact run_aKeyFs ok empty n d (by omega) _ xs h vs hvs w
      · simp at h
    · simp at h
theorem run_aKeyFs (ok : C.OK) (empty : Bool) : (n d : Nat) → n ≤ d → (fs : List (Nat × TypeId)) → (xs : List AV) → aKeyFs C n fs xs = true → (vs : Array Value) → VsRel ρ xs vs.toList → (w : World) →
    (keyAll empty d vs fs).run C.P w = .ok () w
  | n, d, _, [], xs, h, vs, _, w => by simp [keyAll]
  | n, d, hd, (o, t) :: fs, xs, h, vs, hv, w => by
    simp only [aKeyFs, aKeyG] at h
    split at h
    · rename_i x hx
      simp only [Bool.and_eq_true] at h
      obtain ⟨X, hX, hXr⟩ := run_part ok hx hv w
      simp only [keyAll, Sem.run_bind, hX, Result.andThen_ok, run_aKey ok empty n d hd t x h.1 X hXr w]
      exact run_aKeyFs ok empty n d hd fs xs h.2 vs hv w
    · simp at h
end

theorem aKey_kind {n : Nat} {t : TypeId} {x : AV} (h : aKey C n t x = true) : (nowKind (C.kind t) || askKind (C.kind t)) = true ∧ (askKind (C.kind t) = true → ∃ cs, x = .agg cs) := by
  cases n with
  | zero => simp [aKey] at h
  | succ n =>
    unfold aKey at h
    split at h
    · rename_i hk; rw [hk]; simp [nowKind, askKind]
    · rename_i hk; rw [hk]; simp [nowKind, askKind]
    · rename_i hk; rw [hk]; simp [nowKind, askKind]
    · rename_i hk; rw [hk]; simp [askKind]
    · rename_i hk; rw [hk]; simp [askKind]
    · simp at h

def aZero (C : Cx) (t : TypeId) : Option AV :=
  match C.zero t with
  | some zs => if (C.kind t).isOther then none else if (C.kind t).isAgg then some (.agg zs) else zs.head?
  | none => none

theorem run_aZero (ok : C.OK) {t : TypeId} {v : AV} (h : aZero C t = some v) (w : World) : ∃ V, (zeroValue t).run C.P w = .ok V w ∧ VRel ρ v V := by
  unfold aZero at h
  split at h
  · rename_i zs hz
    split at h
    · simp at h
    obtain ⟨z, hrun, hrel, hag, hone, hlen⟩ := run_zero ok hz w
    refine ⟨z, hrun, ?_⟩
    split at h
    · rename_i hA
      rw [hA] at hag
      cases z with
      | agg vs =>
        simp at h; subst h
        simp only [VRel]
        exact ⟨vs, rfl, VsRel.mono List.nil_prefix _ _ hrel⟩
      | _ => simp at hag
    · rename_i hA
      have hA' : (C.kind t).isAgg = false := by simpa using hA
      rw [hA'] at hag
      have hc : z.cells = #[z] := by cases z <;> first | rfl | simp at hag
      rw [hc] at hrel
      cases zs with
      | nil => simp at h
      | cons y ys =>
        simp at h; subst h
        simp only [VsRel] at hrel
        obtain ⟨x, xs, he, hx, _⟩ := hrel
        simp at he
        obtain ⟨rfl, _⟩ := he
        exact VRel.mono List.nil_prefix _ _ hx
  · simp at h

def finLook (C : Cx) (vt : TypeId) (ok : Bool) (r : Option (Nat × AV)) : Option AV :=
  match r with
  | some (_, v) => some (if ok then .tup [v, .bool true] else v)
  | none => (aZero C vt).map fun z => if ok then .tup [z, .bool false] else z

def aLookup (C : Cx) (h : AH) (t : TypeId) (x key : AV) (ok : Bool) : Option AV :=
  match C.kind t with
  | .map kt vt =>
    if aKey C 100 kt key then
      match x with
      | .map none => finLook C vt ok none
      | .map (some k) => match h.get k with
        | some (.map es _) => (aFind C kt key es 0).bind (finLook C vt ok)
        | _ => none
      | _ => none
    else none
  | _ => none

theorem run_aLookup (ok : C.OK) (R : Rel C.W0 ρ h W) {t : TypeId} {x key v : AV} {X K : Value} {b : Bool} (hv : aLookup C h t x key b = some v) (hx : VRel ρ x X) (hk : VRel ρ key K) :
    ∃ V, (Instr.lookup t X K b).run C.P W = .ok V W ∧ VRel ρ v V := by
  unfold aLookup at hv
  split at hv
  · rename_i kt vt hkind
    split at hv
    · rename_i hkey
      obtain ⟨D, hD, hr⟩ := kind_und ok hkind (by simp)
      simp only [KindRel] at hr; subst hr
      obtain ⟨hn, hagg⟩ := aKey_kind hkey
      have main : ∀ (es : List AEnt) (es' : Array MapEntry) (r : Option (Nat × AV)), EntsRel ρ es es'.toList → aFind C kt key es 0 = some r →
          finLook C vt b r = some v →
          ∃ V, (do Instr.checkKey es'.isEmpty 10000 kt K
                   let (v, ok) ← match ← Instr.findKey kt K es'.toList with
                     | some (_, v) => pure (v, true)
                     | none => pure (← zeroValue vt, false)
                   pure (if b then Value.tuple #[v, .bool ok] else v) : Sem Value).run C.P W = .ok V W ∧ VRel ρ v V := by
        intro es es' r he hf hfin
        have hc := run_aKey ok es'.isEmpty 100 10000 (by omega) kt key hkey K hk W
        obtain ⟨r', hr', hrel⟩ := findKey_rel ok hn hk hagg W he hf
        cases r with
        | none =>
          cases r' with
          | some _ => exact hrel.elim
          | none =>
            simp only [finLook, Option.map_eq_some_iff] at hfin
            obtain ⟨z, hz, rfl⟩ := hfin
            obtain ⟨Z, hZ, hzr⟩ := run_aZero (ρ := ρ) ok hz W
            refine ⟨if b then .tuple #[Z, .bool false] else Z, ?_, ?_⟩
            · simp only [Sem.run_bind, hc, hr', Result.andThen_ok, hZ, Sem.run_pure]
            · cases b
              · exact hzr
              · simp only [if_true, VRel]; exact ⟨_, rfl, by simp [VsRel, VRel, hzr]⟩
        | some p =>
          obtain ⟨i, y⟩ := p
          cases r' with
          | none => exact hrel.elim
          | some p' =>
            obtain ⟨j, Y⟩ := p'
            obtain ⟨_, hy⟩ := hrel
            simp [finLook] at hfin; subst hfin
            refine ⟨if b then .tuple #[Y, .bool true] else Y, ?_, ?_⟩
            · simp only [Sem.run_bind, hc, hr', Result.andThen_ok, Sem.run_pure]
            · cases b
              · exact hy
              · simp only [if_true, VRel]; exact ⟨_, rfl, by simp [VsRel, VRel, hy]⟩
      split at hv
      · simp only [VRel] at hx; subst hx
        obtain ⟨V, hV, hrel⟩ := main [] #[] none (by simp [EntsRel]) (by simp [aFind]) hv
        refine ⟨V, ?_, hrel⟩
        rw [← hV]
        simp only [Instr.lookup, Sem.run_bind, run_und hD, Result.andThen_ok, Sem.run_pure]
        rfl
      · rename_i k
        split at hv
        · rename_i es clock hg
          simp only [Option.bind_eq_some_iff] at hv
          obtain ⟨r, hf, hfin⟩ := hv
          simp only [VRel] at hx
          obtain ⟨re, hr, rfl⟩ := hx
          obtain ⟨es', hrun, hrel, _⟩ := run_getMap R hg hr
          obtain ⟨V, hV, hvr⟩ := main es es' r hrel hf hfin
          refine ⟨V, ?_, hvr⟩
          rw [← hV]
          simp only [Instr.lookup, Sem.run_bind, run_und hD, Result.andThen_ok, Sem.run_pure, hrun]
          rfl
        · simp at hv
      · simp at hv
    · simp at hv
  · simp at hv

def aAssert (C : Cx) (x : AV) (asserted : TypeId) (ok : Bool) : Option AV :=
  match C.kind asserted, x with
  | .other, _ => none
  | .iface _, .nilifc => if ok then (aZero C asserted).map fun z => .tup [z, .bool false] else none
  | .iface _, _ => none
  | _, .nilifc => if ok then (aZero C asserted).map fun z => .tup [z, .bool false] else none
  | _, .ifc t v => if t = asserted then some (if ok then .tup [v, .bool true] else v) else if ok then (aZero C asserted).map fun z => .tup [z, .bool false] else none
  | _, _ => none

end
end Go.Proofs.Ytgcoipcnhmkeaaa.Ax
end

/-! AX, part 9: all operations that change no memory, in one -/
section
set_option linter.unusedVariables false
set_option linter.unusedSimpArgs false
namespace Go.Proofs.Ytgcoipcnhmkeaaa.Ax
open Go.RowKit

section
variable {C : Cx} {ρ : Rho} {h : AH} {W : World}

theorem run_aAssert (ok : C.OK) {x v : AV} {X : Value} {xt t : TypeId} {b : Bool} (hv : aAssert C x t b = some v) (hx : VRel ρ x X) (w : World) :
    ∃ V, (Instr.typeAssert X xt t b).run C.P w = .ok V w ∧ VRel ρ v V := by
  have zeroTup : ∀ v, (aZero C t).map (fun z => AV.tup [z, .bool false]) = some v → ∃ V, (do pure (.tuple #[← zeroValue t, .bool false]) : Sem Value).run C.P w = .ok V w ∧ VRel ρ v V := by
    intro v hv
    simp only [Option.map_eq_some_iff] at hv
    obtain ⟨z, hz, rfl⟩ := hv
    obtain ⟨Z, hZ, hzr⟩ := run_aZero (ρ := ρ) ok hz w
    exact ⟨.tuple #[Z, .bool false], by simp [hZ], by simp only [VRel]; exact ⟨_, rfl, by simp [VsRel, VRel, hzr]⟩⟩
  unfold aAssert at hv
  split at hv
  · simp at hv
  · rename_i bare hk
    split at hv
    · rename_i hb
      obtain ⟨D, hD, hr⟩ := kind_und ok hk (by simp)
      simp only [KindRel] at hr
      obtain ⟨ms, rfl, _⟩ := hr
      simp only [VRel] at hx; subst hx
      obtain ⟨V, hV, hr⟩ := zeroTup v hv
      refine ⟨V, ?_, hr⟩
      rw [← hV]
      simp [Instr.typeAssert, run_und hD, hb]
    · simp at hv
  · simp at hv
  · rename_i k1 hk1 hk2
    split at hv
    · rename_i hb
      obtain ⟨D, hD, hr⟩ := kind_und ok (rfl : C.kind t = C.kind t) hk1
      simp only [VRel] at hx; subst hx
      obtain ⟨V, hV, hr'⟩ := zeroTup v hv
      refine ⟨V, ?_, hr'⟩
      rw [← hV]
      have hnd : ∀ ms, D ≠ .interface ms := by
        intro ms e
        subst e
        cases hkk : C.kind t <;> rw [hkk] at hr <;> simp [KindRel] at hr
        · exact hk2 _ hkk
        · exact hk1 hkk
      cases D <;> first | exact absurd rfl (hnd _) | simp [Instr.typeAssert, run_und hD, hb]
    · simp at hv
  · rename_i k1 t' v' hk1 hk2
    obtain ⟨D, hD, hr⟩ := kind_und ok (rfl : C.kind t = C.kind t) hk1
    simp only [VRel] at hx
    obtain ⟨V', rfl, hv'⟩ := hx
    have hnd : ∀ ms, D ≠ .interface ms := by
      intro ms e
      subst e
      cases hkk : C.kind t <;> rw [hkk] at hr <;> simp [KindRel] at hr
      · exact hk2 _ hkk
      · exact hk1 hkk
    split at hv
    · rename_i he
      subst he
      simp at hv; subst hv
      refine ⟨if b then .tuple #[V', .bool true] else V', ?_, ?_⟩
      · cases D <;> first | exact absurd rfl (hnd _) | (simp [Instr.typeAssert, run_und hD])
      · cases b
        · exact hv'
        · simp only [if_true, VRel]; exact ⟨_, rfl, by simp [VsRel, VRel, hv']⟩
    · rename_i hne
      split at hv
      · rename_i hb
        obtain ⟨V, hV, hr'⟩ := zeroTup v hv
        refine ⟨V, ?_, hr'⟩
        rw [← hV]
        cases D <;> first | exact absurd rfl (hnd _) | simp [Instr.typeAssert, run_und hD, hb, hne]
      · simp at hv
  · simp at hv

def jd9 : AV → Option AV
  | .ptr (some a) => some (.ptr (some a))
  | .ifc t v => some (.ifc t v)
  | .fn (.func f) xs ys => some (.fn (.func f) xs ys)
  | .fn (.via t p f b) xs ys => some (.fn (.via t p f b) xs ys)
  | _ => none

def aSliceData : AV → Option AV
  | .sl none _ _ _ => some (.ptr none)
  | .sl (some a) _ cap _ => if cap = 0 then none else some (.ptr (some a))
  | _ => none

theorem run_aSliceData {x v : AV} {X : Value} (hv : aSliceData x = some v) (hx : VRel ρ x X) (ts : Array TypeId) (ty : TypeId) (P : Program) (w : World) : ∃ V, (Builtin.unsafeSliceData_ ts ty #[X]).run P w = .ok V w ∧ VRel ρ v V := by
  unfold aSliceData at hv
  split at hv
  · simp at hv; subst hv
    simp only [VRel] at hx
    obtain ⟨_, _, _, rfl⟩ := hx
    exact ⟨_, Lib.run_unsafeSliceData_nil w ts ty 0 0, by simp [VRel]⟩
  · rename_i a len cap gr
    split at hv
    · simp at hv
    · rename_i hc
      simp at hv; subst hv
      have : ∃ A c, X = .slice (some A) len c ∧ ARel ρ a A ∧ c ≠ 0 := by
        cases a with
        | base b o =>
          simp only [VRel] at hx
          obtain ⟨_, A, h1, h2⟩ := hx
          refine ⟨A, _, h1, ?_, hc⟩
          rcases h2 with rfl | h2
          · rfl
          · omega
        | new k o =>
          simp only [VRel] at hx
          obtain ⟨r, A, c, hr, h1, h2, h3, h4, h5⟩ := hx
          rcases h5 with ⟨h5, _⟩ | h5
          · exact ⟨A, c, h1, ⟨r, hr, h5⟩, by omega⟩
          · omega
      obtain ⟨A, c, rfl, hA, hc0⟩ := this
      exact ⟨_, Lib.run_unsafeSliceData_row w ts ty A len c hc0, by simp only [VRel]; exact ⟨A, hA, rfl⟩⟩
  · simp at hv

/-- The entry at which a map's iterator stands. -/
def aEntry (h : AH) (it : AV) : Option AV :=
  match it with
  | .ptr (some (.new k 0)) => match h.get k with
    | some (.miter (some m) _ seen last) => match seen.getLast?, h.get m with
      | some stamp, some (.map es clock) => if clock = last then (es.find? fun e => e.born == stamp).map fun e => .tup [e.key, e.val] else none
      | _, _ => none
    | _ => none
  | _ => none

theorem EntsRel.find {ρ : Rho} {p : Nat} : ∀ {as : List AEnt} {es : List MapEntry} {a : AEnt}, EntsRel ρ as es → as.find? (fun e => e.born == p) = some a → ∃ e, es.find? (fun e => e.born == p) = some e ∧ EntRel ρ a e
  | [], es, a, h, hf => by simp at hf
  | b :: as, es, a, h, hf => by
    simp only [EntsRel] at h
    obtain ⟨e, es', rfl, h1, h2⟩ := h
    have hb := h1.2.2
    rw [List.find?_cons] at hf ⊢
    rw [← hb]
    split at hf
    · cases hf; exact ⟨e, rfl, h1⟩
    · exact EntsRel.find h2 hf

theorem run_aEntry (R : Rel C.W0 ρ h W) {it v : AV} {I : Value} (hs : aEntry h it = some v) (hi : VRel ρ it I) :
    ∃ V, (Instr.entry I).run C.P W = .ok V W ∧ VRel ρ v V := by
  unfold aEntry at hs
  split at hs
  case h_2 => simp at hs
  rename_i k
  split at hs
  case h_2 => simp at hs
  rename_i m since seen last hg
  split at hs
  case h_2 => simp at hs
  rename_i stamp es clock hst hgm
  split at hs
  case isFalse => simp at hs
  rename_i hcl
  subst hcl
  simp only [Option.map_eq_some_iff] at hs
  obtain ⟨a, hf, rfl⟩ := hs
  simp only [VRel] at hi
  obtain ⟨A, ⟨r, hr, rfl⟩, rfl⟩ := hi
  obtain ⟨r', hr', hb0, h0, m', hw, hm⟩ := R.live k _ hg
  rw [hr] at hr'; cases hr'
  simp only at hm
  obtain ⟨rm, hrm, rfl⟩ := hm
  obtain ⟨es', hrun, hrel, hbk⟩ := run_getMap R hgm hrm
  obtain ⟨e, hfe, hk, hv, _⟩ := hrel.find hf
  have hb : seen.toArray.back? = some stamp := by rw [List.back?_toArray]; exact hst
  have hfe' : es'.find? (fun e => e.born == stamp) = some e := by rw [← Array.find?_toList]; exact hfe
  have hrun0 : (getObj r.b).run C.P W = .ok (.mapIter (some rm.b) since seen.toArray clock) W := by simp [getObj, Sem.run, hw]
  refine ⟨.tuple #[e.key, e.val], ?_, ?_⟩
  · rw [h0]
    simp [Instr.entry, hrun0, hrun, hb, hfe']
  · simp only [VRel, VsRel]
    exact ⟨_, rfl, _, _, rfl, hk, _, _, rfl, hv, rfl⟩

/-- An operation that changes no memory, at a valuation of its operands. -/
def zb9 (C : Cx) (o : Oper) (g : Operand → AV) (h : AH) : Option AV :=
  match o.op with
  | .move x | .assign x => some (g x)
  | .pick c a b => match g c with | .bool t => some (if t then g a else g b) | _ => none
  | .build t ps => aBuild C t (ps.toList.map fun p => (p.1, g p.2))
  | .load t a => match g a with | .ptr (some a) => aLoad C h t a | _ => none
  | .nilCheck x => jd9 (g x)
  | .binOp op t x y _ => zc9 C op t x y (g x) (g y)
  | .unOp op _ x => aUn op (g x)
  | .convert s d x => aConv C h s d (g x)
  | .makeInterface t x => match C.kind t with | .other => none | .iface _ => none | _ => some (.ifc t (g x))
  | .makeFunc f fs cs => some (.fn f (fs.toList.map g) (cs.toList.map g))
  | .slice t x lo hi mx => aSlice C t (g x) (lo.map g) (hi.map g) (mx.map g)
  | .fieldAddr s x f => aFieldAddr C s (g x) f
  | .field s x f => aField C s (g x) f
  | .indexAddr t x i => aIndexAddr C t (g x) (g i)
  | .index t x i => aIndex C t (g x) (g i)
  | .lookup t m k ok => aLookup C h t (g m) (g k) ok
  | .extract t i => zo9 (g t) i
  | .entry it => aEntry h (g it)
  | .typeAssert x _ a ok => aAssert C (g x) a ok
  | .call c => match c.callee with
    | .builtin .len => match c.argTypes[0]?, c.args.toList with
      | some t, [x] => aLen C h t (g x)
      | _, _ => none
    | .builtin .unsafeSliceData => match c.args.toList with
      | [x] => aSliceData (g x)
      | _ => none
    | .builtin .max => aMax (c.args.toList.map g)
    | .builtin .min => aMin (c.args.toList.map g)
    | .value f => match g f with
      | .fn (.func fid) xs ys => C.ext fid (xs ++ c.args.toList.map g ++ ys)
      | _ => none
    | _ => none
  | _ => none

theorem VsRel.map_ops {g : Operand → AV} {A : Operand → Value} : ∀ (l : List Operand), (∀ x ∈ l, VRel ρ (g x) (A x)) → VsRel ρ (l.map g) (l.map A)
  | [], _ => by simp [VsRel]
  | x :: l, h => by
    simp only [List.map_cons, VsRel]
    exact ⟨_, _, rfl, h x (by simp), VsRel.map_ops l fun y hy => h y (by simp [hy])⟩

theorem optRel_map {g : Operand → AV} {A : Operand → Value} (x : Option Operand) (h : ∀ y, x = some y → VRel ρ (g y) (A y)) : OptRel ρ (x.map g) (x.map A) := by
  cases x with
  | none => trivial
  | some y => exact h y rfl

theorem evalN_sound (ok : C.OK) (R : Rel C.W0 ρ h W) {o : Oper} {g : Operand → AV} {A : Operand → Value} {v : AV} (hg : ∀ x ∈ o.op.operands.toList, VRel ρ (g x) (A x)) (hv : zb9 C o g h = some v) :
    ∃ V, (execOp A o).run C.P W = .ok (.value V) W ∧ VRel ρ v V := by
  unfold zb9 at hv
  split at hv
  all_goals first | (rename_i heq; rw [heq] at hg) | skip
  · simp at hv; subst hv
    exact ⟨_, by simp only [execOp, heq]; rfl, hg _ (by simp [Op.operands])⟩
  · simp at hv; subst hv
    exact ⟨_, by simp only [execOp, heq]; rfl, hg _ (by simp [Op.operands])⟩
  · rename_i c a b
    split at hv
    · rename_i t ht
      simp at hv; subst hv
      have hc := hg c (by simp [Op.operands])
      rw [ht] at hc
      refine ⟨if t then A a else A b, ?_, ?_⟩
      · simp [execOp, heq, bool_rel hc, asBool]
      · cases t
        · exact hg b (by simp [Op.operands])
        · exact hg a (by simp [Op.operands])
    · simp at hv
  · rename_i t ps
    obtain ⟨V, hV, hr⟩ := run_aBuild (parts' := ps.map fun (i, x) => (i, A x)) ok hv (by simp [Function.comp_def]) (by
      have := VsRel.map_ops (ρ := ρ) (g := g) (A := A) (ps.toList.map (·.2)) (fun x hx => hg x (by simpa [Op.operands] using hx))
      simpa [Function.comp_def] using this) W
    exact ⟨V, by simp [execOp, heq, hV], hr⟩
  · rename_i t a
    split at hv
    · rename_i aa ha
      have h1 := hg a (by simp [Op.operands])
      rw [ha] at h1
      simp only [VRel] at h1
      obtain ⟨AA', hA, hAe⟩ := h1
      obtain ⟨V, hV, hr⟩ := run_aLoad ok R hA hv
      exact ⟨V, by simp [execOp, heq, Instr.loadAt, hAe, Instr.sureAddr, hV], hr⟩
    · simp at hv
  · rename_i x
    have h1 := hg x (by simp [Op.operands])
    unfold jd9 at hv
    split at hv
    · rename_i aa ha
      simp at hv; subst hv
      rw [ha] at h1
      have h1' := h1
      simp only [VRel] at h1
      obtain ⟨AA', hA, hAe⟩ := h1
      rw [hAe] at h1'
      exact ⟨_, by simp only [execOp, heq, hAe]; rfl, h1'⟩
    · rename_i t' v' ha
      simp at hv; subst hv
      rw [ha] at h1
      have h1' := h1
      simp only [VRel] at h1
      obtain ⟨V', hAe, _⟩ := h1
      rw [hAe] at h1'
      exact ⟨_, by simp only [execOp, heq, hAe]; rfl, h1'⟩
    · rename_i f xs ys ha
      simp at hv; subst hv
      rw [ha] at h1
      have h1' := h1
      simp only [VRel] at h1
      obtain ⟨vs, ws, hAe, _⟩ := h1
      rw [hAe] at h1'
      exact ⟨_, by simp only [execOp, heq, hAe]; rfl, h1'⟩
    · rename_i t' p f b' xs ys ha
      simp at hv; subst hv
      rw [ha] at h1
      have h1' := h1
      simp only [VRel] at h1
      obtain ⟨vs, ws, hAe, _⟩ := h1
      rw [hAe] at h1'
      exact ⟨_, by simp only [execOp, heq, hAe]; rfl, h1'⟩
    · simp at hv
  · rename_i op t x y yt
    obtain ⟨V, hV, hr⟩ := run_aBin ok hv (hg x (by simp [Op.operands])) (hg y (by simp [Op.operands])) W
    exact ⟨V, by simp only [execOp, heq, Sem.run_bind, hV, Result.andThen_ok, Sem.run_pure], hr⟩
  · rename_i op t x
    obtain ⟨V, hV, hr⟩ := run_aUn hv (hg x (by simp [Op.operands])) C.P W
    exact ⟨V, by simp only [execOp, heq, Sem.run_bind, hV, Result.andThen_ok, Sem.run_pure], hr⟩
  · rename_i s d x
    obtain ⟨V, hV, hr⟩ := run_aConv ok R hv (hg x (by simp [Op.operands]))
    exact ⟨V, by simp only [execOp, heq, Sem.run_bind, hV, Result.andThen_ok, Sem.run_pure], hr⟩
  · rename_i t x
    have hx := hg x (by simp [Op.operands])
    split at hv
    · simp at hv
    · simp at hv
    · rename_i hk1 hk2
      simp at hv; subst hv
      obtain ⟨D, hD, hr⟩ := kind_und ok (rfl : C.kind t = C.kind t) hk1
      have hnd : ∀ ms, D ≠ .interface ms := by
        intro ms e
        subst e
        cases hkk : C.kind t <;> rw [hkk] at hr <;> simp [KindRel] at hr
        · exact hk2 _ hkk
        · exact hk1 hkk
      refine ⟨.iface t (A x), ?_, by simp only [VRel]; exact ⟨_, rfl, hx⟩⟩
      cases D <;> first | exact absurd rfl (hnd _) | simp [execOp, heq, Instr.makeInterface, run_und hD]
  · rename_i f fs cs
    simp at hv; subst hv
    refine ⟨.func f (fs.map A) (cs.map A), by simp only [execOp, heq, Instr.makeFunc]; rfl, ?_⟩
    simp only [VRel]
    refine ⟨_, _, rfl, ?_, ?_⟩
    · simpa using VsRel.map_ops (ρ := ρ) (g := g) (A := A) fs.toList (fun x hx => hg x (by simp [Op.operands]; left; simpa using hx))
    · simpa using VsRel.map_ops (ρ := ρ) (g := g) (A := A) cs.toList (fun x hx => hg x (by simp [Op.operands]; right; simpa using hx))
  · rename_i t x lo hi mx
    obtain ⟨V, hV, hr⟩ := run_aSlice (lo' := lo.map A) (hi' := hi.map A) (mx' := mx.map A) ok hv (hg x (by simp [Op.operands]))
      (optRel_map lo fun y hy => hg y (by subst hy; simp [Op.operands])) (optRel_map hi fun y hy => hg y (by subst hy; simp [Op.operands])) (optRel_map mx fun y hy => hg y (by subst hy; simp [Op.operands])) W
    exact ⟨V, by simp only [execOp, heq, Sem.run_bind, hV, Result.andThen_ok, Sem.run_pure], hr⟩
  · rename_i s x f
    obtain ⟨V, hV, hr⟩ := run_aFieldAddr ok hv (hg x (by simp [Op.operands])) W
    exact ⟨V, by simp only [execOp, heq, Sem.run_bind, hV, Result.andThen_ok, Sem.run_pure], hr⟩
  · rename_i s x f
    obtain ⟨V, hV, hr⟩ := run_aField ok hv (hg x (by simp [Op.operands])) W
    exact ⟨V, by simp only [execOp, heq, Sem.run_bind, hV, Result.andThen_ok, Sem.run_pure], hr⟩
  · rename_i t x i
    obtain ⟨V, hV, hr⟩ := run_aIndexAddr ok hv (hg x (by simp [Op.operands])) (hg i (by simp [Op.operands])) W
    exact ⟨V, by simp only [execOp, heq, Sem.run_bind, hV, Result.andThen_ok, Sem.run_pure], hr⟩
  · rename_i t x i
    obtain ⟨V, hV, hr⟩ := run_aIndex ok hv (hg x (by simp [Op.operands])) (hg i (by simp [Op.operands])) W
    exact ⟨V, by simp only [execOp, heq, Sem.run_bind, hV, Result.andThen_ok, Sem.run_pure], hr⟩
  · rename_i t m k b
    obtain ⟨V, hV, hr⟩ := run_aLookup ok R hv (hg m (by simp [Op.operands])) (hg k (by simp [Op.operands]))
    exact ⟨V, by simp only [execOp, heq, Sem.run_bind, hV, Result.andThen_ok, Sem.run_pure], hr⟩
  · rename_i t i
    obtain ⟨V, hV, hr⟩ := run_aExtract hv (hg t (by simp [Op.operands])) C.P W
    exact ⟨V, by simp only [execOp, heq, Sem.run_bind, hV, Result.andThen_ok, Sem.run_pure], hr⟩
  · rename_i it
    obtain ⟨V, hV, hr⟩ := run_aEntry R hv (hg it (by simp [Op.operands]))
    exact ⟨V, by simp only [execOp, heq, Sem.run_bind, hV, Result.andThen_ok, Sem.run_pure], hr⟩
  · rename_i x xt t b
    obtain ⟨V, hV, hr⟩ := run_aAssert (xt := xt) ok hv (hg x (by simp [Op.operands])) W
    exact ⟨V, by simp only [execOp, heq, Sem.run_bind, hV, Result.andThen_ok, Sem.run_pure], hr⟩
  · rename_i c
    have hops : ∀ x ∈ c.args.toList, VRel ρ (g x) (A x) := fun x hx => hg x (by simp [Op.operands, Call.operands]; right; simpa using hx)
    have hargs := VsRel.map_ops (ρ := ρ) (g := g) (A := A) c.args.toList hops
    split at hv
    · rename_i hcal
      split at hv
      · rename_i t x ht hx
        obtain ⟨V, hV, hr⟩ := run_aLen ok R hv (hops x (by rw [hx]; simp)) o.type c.argTypes ht
        have ha : c.args.map A = #[A x] := by
          have : c.args = #[x] := by rw [← Array.toArray_toList (xs := c.args), hx]
          rw [this]; simp
        exact ⟨V, by simp only [execOp, heq, resolve, hcal, pure_bind, invoke, builtin, ha, Sem.run_bind, hV, Result.andThen_ok, Sem.run_pure], hr⟩
      · simp at hv
    · rename_i hcal
      split at hv
      · rename_i x hx
        obtain ⟨V, hV, hr⟩ := run_aSliceData hv (hops x (by rw [hx]; simp)) c.argTypes o.type C.P W
        have ha : c.args.map A = #[A x] := by
          have : c.args = #[x] := by rw [← Array.toArray_toList (xs := c.args), hx]
          rw [this]; simp
        exact ⟨V, by simp only [execOp, heq, resolve, hcal, pure_bind, invoke, builtin, ha, Sem.run_bind, hV, Result.andThen_ok, Sem.run_pure], hr⟩
      · simp at hv
    · rename_i hcal
      obtain ⟨V, hV, hr⟩ := run_aMax (Xs := c.args.map A) hv (by simpa using hargs) c.argTypes o.type C.P W
      exact ⟨V, by simp only [execOp, heq, resolve, hcal, pure_bind, invoke, builtin, Sem.run_bind, hV, Result.andThen_ok, Sem.run_pure], hr⟩
    · rename_i hcal
      obtain ⟨V, hV, hr⟩ := run_aMin (Xs := c.args.map A) hv (by simpa using hargs) c.argTypes o.type C.P W
      exact ⟨V, by simp only [execOp, heq, resolve, hcal, pure_bind, invoke, builtin, Sem.run_bind, hV, Result.andThen_ok, Sem.run_pure], hr⟩
    · rename_i fo hcal
      split at hv
      · rename_i fid xs ys hgf
        have hfo := hg fo (by simp [Op.operands, Call.operands, hcal])
        rw [hgf] at hfo
        simp only [VRel] at hfo
        obtain ⟨us, ws, hA, h1, h2⟩ := hfo
        obtain ⟨V, hV, hr⟩ := ok.ext _ _ _ hv ρ (us ++ c.args.map A ++ ws) W (by
          simp only [Array.toList_append]
          have := (h1.append (show VsRel ρ (c.args.toList.map g) (c.args.map A).toList by simpa using hargs)).append h2
          simpa using this)
        rw [Array.append_assoc] at hV
        exact ⟨V, by simp [execOp, heq, resolve, hcal, hA, Deferred.ofValue, invoke, hV], hr⟩
      · simp at hv
    · simp at hv
  · simp at hv

end
end Go.Proofs.Ytgcoipcnhmkeaaa.Ax
end

/-! AX, part 10: what changes memory: stores, new blocks, append, copy -/
section
set_option linter.unusedVariables false
set_option linter.unusedSimpArgs false
namespace Go.Proofs.Ytgcoipcnhmkeaaa.Ax
open Go.RowKit

section
variable {C : Cx} {ρ : Rho} {h : AH} {W : World}

/-- What the machine's operation comes to: a value, the world, the blocks. -/
def EffOK (C : Cx) (ρ : Rho) (W : World) (s : Sem Next) (v : AV) (h' : AH) : Prop :=
  ∃ V N W' ρ', s.run C.P W = .ok N W' ∧ (N = .value V ∨ N = .skip ∧ V = undef) ∧ ρ <+: ρ' ∧ Rel C.W0 ρ' h' W' ∧ VRel ρ' v V

/-- A value of one cell, told. -/
def aOne : AV → Bool
  | .bad | .agg _ | .tup _ => false
  | _ => true

theorem one_rel {v : AV} {V : Value} (h : aOne v = true) (hr : VRel ρ v V) : V.oneCell' = true := by
  cases v with
  | ptr a => cases a <;> simp only [VRel] at hr <;> (first | (obtain ⟨_, _, rfl⟩ := hr) | subst hr) <;> rfl
  | sl a len cap gr => cases a with
    | none => simp only [VRel] at hr; obtain ⟨_, _, _, rfl⟩ := hr; rfl
    | some a => cases a with
      | base b o => simp only [VRel] at hr; obtain ⟨_, _, rfl, _⟩ := hr; rfl
      | new k o => simp only [VRel] at hr; obtain ⟨_, _, _, _, rfl, _⟩ := hr; rfl
  | map r => cases r <;> simp only [VRel] at hr <;> (first | (obtain ⟨_, _, rfl⟩ := hr) | subst hr) <;> rfl
  | fn f a b => simp only [VRel] at hr; obtain ⟨_, _, rfl, _⟩ := hr; rfl
  | ifc t v => simp only [VRel] at hr; obtain ⟨_, rfl, _⟩ := hr; rfl
  | agg cs => simp [aOne] at h
  | tup cs => simp [aOne] at h
  | bad => simp [aOne] at h
  | _ => simp only [VRel] at hr; subst hr; rfl

theorem ones_rel : ∀ {vs : List AV} {Vs : List Value}, vs.all aOne = true → VsRel ρ vs Vs → ∀ V ∈ Vs, V.oneCell' = true
  | [], Vs, _, hr, V, hV => by simp only [VsRel] at hr; subst hr; simp at hV
  | v :: vs, Vs, h, hr, V, hV => by
    simp only [VsRel] at hr
    obtain ⟨x, xs, rfl, h1, h2⟩ := hr
    simp only [List.all_cons, Bool.and_eq_true] at h
    simp only [List.mem_cons] at hV
    rcases hV with rfl | hV
    · exact one_rel h.1 h1
    · exact ones_rel h.2 h2 V hV

def overV (cs vs : List Value) (o : Nat) : List Value := cs.take o ++ vs ++ cs.drop (o + vs.length)

/-- Only one block, and only cells of it, are written. -/
structure Wrote (W W' : World) (b : Nat) : Prop where
  other : ∀ j, j ≠ b → W'.heap[j]? = W.heap[j]?
  size : W'.heap.size = W.heap.size
  os : W'.os = W.os
  tape : W'.tape = W.tape
  output : W'.output = W.output

theorem Wrote.refl (W : World) (b : Nat) : Wrote W W b := ⟨fun _ _ => rfl, rfl, rfl, rfl, rfl⟩
theorem Wrote.trans {W W' W'' : World} {b : Nat} (h : Wrote W W' b) (h' : Wrote W' W'' b) : Wrote W W'' b :=
  ⟨fun j hj => (h'.other j hj).trans (h.other j hj), h'.size.trans h.size, h'.os.trans h.os, h'.tape.trans h.tape, h'.output.trans h.output⟩

theorem setCell_wrote (W : World) (b p : Nat) (v : Value) : Wrote W (W.setCell ⟨b, p, none⟩ v) b :=
  ⟨fun j hj => Below.heap_setCell _ _ _ _ (by exact hj), by simp, rfl, rfl, rfl⟩

theorem setCell_block (W : World) (b p : Nat) (v : Value) {c : Array Value} {t : TypeId} {fr : Nat × Nat} (hb : W.heap[b]? = some (.cells c t fr)) :
    (W.setCell ⟨b, p, none⟩ v).heap[b]? = some (.cells (c.setIfInBounds p v) t fr) := by
  simp [World.setCell, Array.getElem?_modify, hb]

theorem run_storeCells (P : Program) (b p : Nat) : ∀ (vs : List Value) (i : Nat) (W : World) (c : Array Value) (t : TypeId) (fr : Nat × Nat), W.heap[b]? = some (.cells c t fr) → p + i + vs.length ≤ c.size →
    (∀ j, j < c.size → ¬ (fr.1 ≤ j ∧ j < fr.2)) → (∀ v ∈ vs, v.oneCell' = true) →
    ∃ W' c', (storeCells ⟨b, p, none⟩ vs i).run P W = .ok () W' ∧ Wrote W W' b ∧ W'.heap[b]? = some (.cells c' t fr) ∧ c'.toList = overV c.toList vs (p + i)
  | [], i, W, c, t, fr, hb, hl, hf, h1 => by
    refine ⟨W, c, by simp [storeCells], Wrote.refl W b, hb, ?_⟩
    simp [overV]
  | v :: vs, i, W, c, t, fr, hb, hl, hf, h1 => by
    simp only [List.length_cons] at hl
    have hlt : p + i < c.size := by omega
    have hc : W.cell? ⟨b, p + i, none⟩ = some c[p + i] := by simp [World.cell?, hb, hlt]
    have hfr : W.frozen? ⟨b, p + i, none⟩ = false := by
      simp only [World.frozen?, hb]
      have := hf (p + i) hlt
      cases h : decide (fr.1 ≤ p + i) && decide (p + i < fr.2) with
      | false => rfl
      | true => simp at h; exact absurd h this
    have hstore : (store ((⟨b, p, none⟩ : Addr).add i) v).run P W = .ok () (W.setCell ⟨b, p + i, none⟩ v) := by
      rw [add_addr, run_store P W _ v .plain (h1 v (by simp)), hc]
      simp [hfr]
    obtain ⟨W', c', hrun, hw, hb', hc'⟩ := run_storeCells P b p vs (i + 1) (W.setCell ⟨b, p + i, none⟩ v) _ t fr (setCell_block W b (p + i) v hb) (by simp; omega) (by simpa using hf) (fun u hu => h1 u (by simp [hu]))
    refine ⟨W', c', ?_, (setCell_wrote W b (p + i) v).trans hw, hb', ?_⟩
    · simp only [storeCells, Sem.run_bind, hstore, Result.andThen_ok]
      exact hrun
    · rw [hc']
      simp only [overV, Array.toList_setIfInBounds]
      have hlt' : p + i < c.toList.length := by simpa using hlt
      rw [show p + (i + 1) = p + i + 1 by omega]
      have e1 : (c.toList.set (p + i) v).take (p + i + 1) = c.toList.take (p + i) ++ [v] := by
        rw [List.take_add_one, List.take_set_of_le (Nat.le_refl _), List.getElem?_set_self hlt']
        rfl
      rw [e1, List.drop_set_of_lt (by omega)]
      simp only [List.append_assoc, List.cons_append, List.nil_append, List.length_cons]
      congr 4
      omega



theorem overV_get (c Vs : List Value) (o i : Nat) (hl : o + Vs.length ≤ c.length) : (overV c Vs o)[i]? = if i < o then c[i]? else if i < o + Vs.length then Vs[i - o]? else c[i]? := by
  unfold overV
  rw [List.append_assoc, List.getElem?_append]
  have hlen : (c.take o).length = o := by simp; omega
  rw [hlen]
  split
  · rename_i h; rw [List.getElem?_take, if_pos h]
  · rename_i h
    rw [List.getElem?_append]
    split
    · rename_i h2; rw [if_pos (by omega)]
    · rename_i h2
      rw [if_neg (by omega), List.getElem?_drop]
      congr 1
      omega

theorem overlay_get (cs vs : List AV) (o i : Nat) (hl : o + vs.length ≤ cs.length) : (overlay cs vs o)[i]? = if i < o then cs[i]? else if i < o + vs.length then vs[i - o]? else cs[i]? := by
  unfold overlay
  rw [List.append_assoc, List.getElem?_append]
  have hlen : (cs.take o).length = o := by simp; omega
  rw [hlen]
  split
  · rename_i h; rw [List.getElem?_take, if_pos h]
  · rename_i h
    rw [List.getElem?_append]
    split
    · rename_i h2; rw [if_pos (by omega)]
    · rename_i h2
      rw [if_neg (by omega), List.getElem?_drop]
      congr 1
      omega

theorem overlay_length (cs vs : List AV) (o : Nat) (hl : o + vs.length ≤ cs.length) : (overlay cs vs o).length = cs.length := by
  unfold overlay; simp; omega

def aStore (C : Cx) (h : AH) (a : AA) (vs : List AV) : Option AH :=
  match a with
  | .new k o => match h.get k with
    | some (.cells cs t) => if o + vs.length ≤ cs.length ∧ vs.all aOne = true then some (h.set k (.cells (overlay cs vs o) t)) else none
    | _ => none
  | _ => none

theorem run_aStore (R : Rel C.W0 ρ h W) {a : AA} {A : Addr} (ha : ARel ρ a A) {vs : List AV} {Vs : List Value} (hv : VsRel ρ vs Vs) {h' : AH} (hs : aStore C h a vs = some h') :
    ∃ W', (storeCells A Vs).run C.P W = .ok () W' ∧ Rel C.W0 ρ h' W' := by
  unfold aStore at hs
  split at hs
  · rename_i k o
    split at hs
    · rename_i cs t hk
      split at hs
      · rename_i hc
        simp at hs; subst hs
        obtain ⟨r, hr, rfl⟩ := ha
        obtain ⟨r', hr', _, c, fr, hb, hz, hlen, hall, hfr⟩ := R.live k _ hk
        rw [hr] at hr'; cases hr'
        have hvl := hv.length
        obtain ⟨W', c', hrun, hw, hb', hc'⟩ := run_storeCells C.P r.b (r.s + o) Vs 0 W c t fr hb (by omega) hfr (ones_rel hc.2 hv)
        refine ⟨W', hrun, R.set hk _ hr hw.other hw.size hw.os hw.tape hw.output ?_⟩
        have hcsz : c'.size = c.size := by
          have := congrArg List.length hc'
          simp only [Array.length_toList] at this
          rw [this]
          unfold overV; simp; omega
        refine ⟨c', fr, hb', by omega, by rw [overlay_length _ _ _ hc.1]; exact hlen, fun i v hi => ?_, by rw [hcsz]; exact hfr⟩
        have hget : c'[r.s + i]? = (overV c.toList Vs (r.s + o + 0))[r.s + i]? := by rw [← hc']; simp
        rw [hget, overV_get _ _ _ _ (by simp; omega)]
        rw [overlay_get _ _ _ _ hc.1] at hi
        simp only [Nat.add_zero]
        split at hi
        · rename_i h1
          rw [if_pos (by omega)]
          simpa using hall i v hi
        · rename_i h1
          rw [if_neg (by omega)]
          split at hi
          · rename_i h2
            rw [if_pos (by omega)]
            rw [show r.s + i - (r.s + o) = i - o by omega]
            exact hv.get _ _ hi
          · rename_i h2
            rw [if_neg (by omega)]
            simpa using hall i v hi
      · simp at hs
    · simp at hs
  · simp at hs

def aStoreOp (C : Cx) (h : AH) (t : TypeId) (a x : AV) : Option AH :=
  match a, aCellsOf x, C.size t with
  | .ptr (some a), some vs, some n => if vs.length = n then aStore C h a vs else none
  | _, _, _ => none

theorem run_aStoreOp (ok : C.OK) (R : Rel C.W0 ρ h W) {t : TypeId} {a x : AV} {A X : Value} (ha : VRel ρ a A) (hx : VRel ρ x X) {h' : AH} (hs : aStoreOp C h t a x = some h') :
    ∃ W', (Instr.storeAt t A X).run C.P W = .ok () W' ∧ Rel C.W0 ρ h' W' := by
  unfold aStoreOp at hs
  split at hs
  · rename_i aa vs n hcs hsz
    split at hs
    · rename_i hl
      simp only [VRel] at ha
      obtain ⟨AA', hA, rfl⟩ := ha
      have hr := cellsOf_rel hcs hx
      obtain ⟨W', hrun, hR⟩ := run_aStore R hA hr hs
      refine ⟨W', ?_, hR⟩
      have hsz' : X.cells.size = n := by have := hr.length; simp only [Array.length_toList] at this; omega
      simp only [Instr.storeAt, Instr.sureAddr, Sem.run_bind, Sem.run_pure, Result.andThen_ok, storeVar, run_sizeOf' ok hsz W, hsz', ne_eq, not_true_eq_false, if_false, hrun]
    · simp at hs
  · simp at hs

/-! ### new blocks -/
/-- A new row of cells, all of it known. -/
theorem Rel.newCells (R : Rel C.W0 ρ h W) {cs : List AV} {c : Array Value} (hc : VsRel ρ cs c.toList) (t : TypeId) :
    Rel C.W0 (ρ ++ [⟨W.heap.size, 0, c.size⟩]) (h.push (.cells cs t)) (W.alloc (.cells c t)) ∧ ρ <+: ρ ++ [⟨W.heap.size, 0, c.size⟩] ∧
      ARel (ρ ++ [⟨W.heap.size, 0, c.size⟩]) (.new h.next 0) ⟨W.heap.size, 0, none⟩ := by
  have hp : ρ <+: ρ ++ [⟨W.heap.size, 0, c.size⟩] := List.prefix_append _ _
  refine ⟨R.push _ _ 0 c.size fun W' hW' => ?_, hp, ⟨⟨W.heap.size, 0, c.size⟩, by rw [← R.len]; simp, by simp⟩⟩
  have hl := hc.length
  simp only [Array.length_toList] at hl
  refine ⟨c, (0, 0), hW', rfl, by simp; omega, fun i v hi => ?_, fun j _ => by simp⟩
  obtain ⟨V, hV, hr⟩ := hc.get i v hi
  exact ⟨V, by simpa using hV, hr.mono hp⟩

def aAlloc (C : Cx) (h : AH) (t : TypeId) : Option (AV × AH) :=
  match C.zero t with
  | some zs => some (.ptr (some (.new h.next 0)), h.push (.cells zs t))
  | none => none

theorem run_aAlloc (ok : C.OK) (R : Rel C.W0 ρ h W) {t : TypeId} {v : AV} {h' : AH} (hs : aAlloc C h t = some (v, h')) :
    ∃ V W' ρ', (Instr.alloc t true (.tuple #[])).run C.P W = .ok V W' ∧ ρ <+: ρ' ∧ Rel C.W0 ρ' h' W' ∧ VRel ρ' v V := by
  unfold aAlloc at hs
  split at hs
  · rename_i zs hz
    simp at hs
    obtain ⟨rfl, rfl⟩ := hs
    obtain ⟨z, hrun, hrel, _⟩ := run_zero ok hz W
    obtain ⟨hR, hp, ha⟩ := R.newCells (VsRel.mono List.nil_prefix _ _ hrel) t
    exact ⟨.pointer (some ⟨W.heap.size, 0, none⟩), _, _, by simp [Instr.alloc, hrun, newVar, newRow], hp, hR, by simp only [VRel]; exact ⟨_, ha, rfl⟩⟩
  · simp at hs

def aBox (h : AH) (t : TypeId) (x : AV) : Option (AV × AH) :=
  match aCellsOf x with
  | some cs => some (.ptr (some (.new h.next 0)), h.push (.cells cs t))
  | none => none

theorem run_aBox (R : Rel C.W0 ρ h W) {t : TypeId} {x v : AV} {X : Value} {h' : AH} (hx : VRel ρ x X) (hs : aBox h t x = some (v, h')) :
    ∃ V W' ρ', (Instr.box t X).run C.P W = .ok V W' ∧ ρ <+: ρ' ∧ Rel C.W0 ρ' h' W' ∧ VRel ρ' v V := by
  unfold aBox at hs
  split at hs
  · rename_i cs hcs
    simp at hs
    obtain ⟨rfl, rfl⟩ := hs
    obtain ⟨hR, hp, ha⟩ := R.newCells (cellsOf_rel hcs hx) t
    exact ⟨.pointer (some ⟨W.heap.size, 0, none⟩), _, _, by simp [Instr.box, newVar, newRow], hp, hR, by simp only [VRel]; exact ⟨_, ha, rfl⟩⟩
  · simp at hs

end
end Go.Proofs.Ytgcoipcnhmkeaaa.Ax
end

/-! AX, part 11: rows: literals, make, append, copy, a string's bytes -/
section
set_option linter.unusedVariables false
set_option linter.unusedSimpArgs false
namespace Go.Proofs.Ytgcoipcnhmkeaaa.Ax
open Go.RowKit

section
variable {C : Cx} {ρ : Rho} {h : AH} {W : World}

def repZ (n : Nat) (zs : List AV) : List AV := (List.replicate n zs).flatten

theorem flat_get {α : Type} (z : List α) (hz : 0 < z.length) : ∀ (n i : Nat), i < n * z.length → (List.replicate n z).flatten[i]? = z[i % z.length]?
  | 0, i, h => by simp at h
  | n + 1, i, h => by
    rw [List.replicate_succ, List.flatten_cons, List.getElem?_append]
    split
    · rename_i h1; rw [Nat.mod_eq_of_lt h1]
    · rename_i h1
      rw [flat_get z hz n (i - z.length) (by rw [Nat.add_mul] at h; omega)]
      congr 1
      rw [← Nat.mod_eq_sub_mod (by omega)]

theorem rep_rel {zs : List AV} {z : Array Value} (hz : VsRel ρ zs z.toList) (n : Nat) (hpos : 0 < zs.length) :
    VsRel ρ (repZ n zs) ((Array.range (n * zs.length)).map (z[· % z.size]!)).toList := by
  have hl := hz.length
  simp only [Array.length_toList] at hl
  refine VsRel.of_get (by simp [repZ]) fun i v hi => ?_
  have hlt : i < n * zs.length := by
    have := (List.getElem?_eq_some_iff.1 hi).1
    simpa [repZ] using this
  rw [repZ, flat_get zs hpos n i hlt] at hi
  obtain ⟨V, hV, hr⟩ := hz.get _ v hi
  refine ⟨V, ?_, hr⟩
  have hm : i % zs.length < z.size := by rw [hl]; exact Nat.mod_lt _ hpos
  simp only [Array.toList_map, Array.toList_range, List.getElem?_map, List.getElem?_range hlt, Option.map_some]
  congr 1
  rw [hl, getElem!_pos z (i % zs.length) hm]
  have : z.toList[i % zs.length]? = some z[i % zs.length] := by simp [hm]
  rw [this] at hV
  exact Option.some.inj hV

theorem map_range0 (f : Nat → Value) : (Array.range 0).map f = #[] := Array.eq_empty_of_size_eq_zero (by simp)

def aBuildSlice (C : Cx) (h : AH) (t : TypeId) (len : Nat) (parts : List (Nat × AV)) : Option (AV × AH) :=
  match C.kind t with
  | .slice el => match C.size el, C.zero el with
    | some sz, some zs =>
      if 0 < sz ∧ len * sz ≤ 2 ^ 24 then (aFill (fun i => some (i * sz, sz)) (repZ len zs) parts).map fun cs => (.sl (some (.new h.next 0)) len len none, h.push (.cells cs el)) else none
    | _, _ => none
  | _ => none

theorem run_aBuildSlice (ok : C.OK) (R : Rel C.W0 ρ h W) {t : TypeId} {len : Nat} {parts : List (Nat × AV)} {parts' : Array (Nat × Value)} {v : AV} {h' : AH} (hs : aBuildSlice C h t len parts = some (v, h'))
    (hi : parts.map (·.1) = parts'.toList.map (·.1)) (hp : VsRel ρ (parts.map (·.2)) (parts'.toList.map (·.2))) :
    ∃ V W' ρ', (Instr.buildSlice t len parts').run C.P W = .ok V W' ∧ ρ <+: ρ' ∧ Rel C.W0 ρ' h' W' ∧ VRel ρ' v V := by
  unfold aBuildSlice at hs
  split at hs
  · rename_i el hk
    obtain ⟨D, hD, hr⟩ := kind_und ok hk (by simp)
    simp only [KindRel] at hr; subst hr
    split at hs
    · rename_i sz zs hsz hz
      split at hs
      · rename_i hc
        simp only [Option.map_eq_some_iff, Prod.mk.injEq] at hs
        obtain ⟨cs, hcs, rfl, rfl⟩ := hs
        obtain ⟨z, hzr, hzrel, _, _, hlen⟩ := run_zero ok hz W
        rw [hsz] at hlen
        simp at hlen
        have hzr' : VsRel ρ zs z.cells.toList := VsRel.mono List.nil_prefix _ _ hzrel
        have hrep := rep_rel hzr' len (by omega)
        rw [hlen] at hrep
        obtain ⟨Out, hO, hrO⟩ := fill_rel parts parts'.toList _ cs _ hi hp hrep hcs
        obtain ⟨hR, hpf, ha⟩ := R.newCells hrO el
        refine ⟨.slice (some ⟨W.heap.size, 0, none⟩) len len, _, _, ?_, hpf, hR, exact_sl ha (Nat.le_refl _)⟩
        have h1 : ¬ (len * sz > 2 ^ 24) := by omega
        by_cases h0 : len * sz = 0
        · have hO' : Instr.fill (fun i => some (i * sz, sz)) #[] parts'.toList = some Out := by
            rw [h0, map_range0] at hO; exact hO
          simp only [Instr.buildSlice, Sem.run_bind, run_und hD, Result.andThen_ok, run_sizeOf' ok hsz W, if_neg h1, Sem.run_pure, if_pos h0]
          rw [h0, map_range0]
          simp only [hO']
          simp [newRow]
        · simp only [Instr.buildSlice, Sem.run_bind, run_und hD, Result.andThen_ok, run_sizeOf' ok hsz W, if_neg h1, Sem.run_pure, if_neg h0, hzr]
          simp only [hO]
          simp [newRow]
      · simp at hs
    · simp at hs
  · simp at hs

def aMakeMap (h : AH) (reserve : Option AV) : Option (AV × AH) :=
  match reserve with
  | none => some (.map (some h.next), h.push (.map [] 0))
  | some _ => none

theorem run_aMakeMap (R : Rel C.W0 ρ h W) {t : TypeId} {res : Option AV} {v : AV} {h' : AH} (hs : aMakeMap h res = some (v, h')) {res' : Option Value} (hr : OptRel ρ res res') :
    ∃ V W' ρ', (Instr.makeMap t res').run C.P W = .ok V W' ∧ ρ <+: ρ' ∧ Rel C.W0 ρ' h' W' ∧ VRel ρ' v V := by
  unfold aMakeMap at hs
  split at hs
  · simp at hs
    obtain ⟨rfl, rfl⟩ := hs
    cases res' with
    | some _ => exact hr.elim
    | none =>
      refine ⟨.map (some W.heap.size), W.alloc (.map #[] 0), ρ ++ [⟨W.heap.size, 0, 0⟩], by simp [Instr.makeMap], List.prefix_append _ _, R.push (.map [] 0) (.map #[] 0) 0 0 (fun W' hW' => ⟨#[], hW', by simp [EntsRel]⟩), ?_⟩
      simp only [VRel]
      exact ⟨⟨W.heap.size, 0, 0⟩, by rw [← R.len]; simp, rfl⟩
  · simp at hs

def Cx.bytes (C : Cx) (t : TypeId) : Nat := ((C.ty t).map (·.bytes)).getD 0

theorem bytes_info (ok : C.OK) {t : TypeId} {n : Nat} (h : C.size t = some n) : ∃ i, C.P.info? t = some i ∧ i.size = n ∧ i.bytes = C.bytes t := by
  unfold Cx.size at h
  cases ht : C.ty t with
  | none => rw [ht] at h; simp at h
  | some a =>
    rw [ht] at h; simp at h
    obtain ⟨i, d, hi, _, hs, hb, _⟩ := ok.ty t a ht
    exact ⟨i, hi, hs.trans h, by simp [Cx.bytes, ht, hb]⟩

theorem wrap_small {n : Int} (h0 : 0 ≤ n) (h1 : n ≤ 9223372036854775807) : IntKind.i64.wrap n = n := by
  have e : n % (2 ^ 64 : Int) = n := Int.emod_eq_of_lt h0 (by omega)
  have h2 : ¬ ((2 : Int) ^ 63 ≤ n) := by omega
  show (if (true && decide ((2 : Int) ^ 63 ≤ n % (2 ^ 64 : Int))) = true then n % (2 ^ 64 : Int) - (2 ^ 64 : Int) else n % (2 ^ 64 : Int)) = n
  simp only [e, Bool.true_and, decide_eq_true_eq, if_neg h2]

def aMakeSlice (C : Cx) (h : AH) (t : TypeId) (len cap : AV) : Option (AV × AH) :=
  match C.kind t, len, cap with
  | .slice el, .int _ l, .int _ c => match C.size el, C.zero el with
    | some sz, some zs =>
      if 0 < sz ∧ 0 ≤ l ∧ l ≤ c ∧ c ≤ 2 ^ 47 ∧ c * C.bytes el ≤ 2 ^ 47 then some (.sl (some (.new h.next 0)) l.toNat c.toNat none, h.push (.cells (repZ c.toNat zs) el)) else none
    | _, _ => none
  | _, _, _ => none

theorem run_aMakeSlice (ok : C.OK) (R : Rel C.W0 ρ h W) {t : TypeId} {len cap v : AV} {L K : Value} {h' : AH} (hs : aMakeSlice C h t len cap = some (v, h')) (hl : VRel ρ len L) (hc : VRel ρ cap K) :
    ∃ V W' ρ', (Instr.makeSlice t L K).run C.P W = .ok V W' ∧ ρ <+: ρ' ∧ Rel C.W0 ρ' h' W' ∧ VRel ρ' v V := by
  unfold aMakeSlice at hs
  split at hs
  · rename_i el kl l kc c hk
    obtain ⟨D, hD, hr⟩ := kind_und ok hk (by simp)
    simp only [KindRel] at hr; subst hr
    rw [int_rel hl, int_rel hc]
    split at hs
    · rename_i sz zs hsz hz
      split at hs
      · rename_i hcond
        simp at hs
        obtain ⟨rfl, rfl⟩ := hs
        obtain ⟨hp, h0, h1, h2, h3⟩ := hcond
        obtain ⟨i, hi, his, hib⟩ := bytes_info ok hsz
        obtain ⟨z, hzr, hzrel, _, _, hlen⟩ := run_zero ok hz W
        rw [hsz] at hlen
        simp at hlen
        have hzr' : VsRel ρ zs z.cells.toList := VsRel.mono List.nil_prefix _ _ hzrel
        have hrep := rep_rel hzr' c.toNat (by omega)
        rw [hlen] at hrep
        obtain ⟨hR, hpf, ha⟩ := R.newCells hrep el
        refine ⟨.slice (some ⟨W.heap.size, 0, none⟩) l.toNat c.toNat, _, _, ?_, hpf, hR, exact_sl ha (by omega)⟩
        have hwl := wrap_small (n := l) h0 (by omega)
        have hwc := wrap_small (n := c) (by omega) (by omega)
        have hb : ((i.bytes : Int) * c) ≤ 2 ^ 47 := by rw [hib, Int.mul_comm]; exact h3
        have hbl : ((i.bytes : Int) * l) ≤ 2 ^ 47 := Int.le_trans (Int.mul_le_mul_of_nonneg_left h1 (by omega)) hb
        have hinfo : (typeInfo el).run C.P W = .ok i W := by simp [typeInfo, hi]
        have hcond2 : ((decide (c < 0) || decide ((i.bytes : Int) * c > 2 ^ 48)) || decide (l < 0) || decide (l > c)) = false := by
          simp only [Bool.or_eq_false_iff, decide_eq_false_iff_not]
          refine ⟨⟨⟨by omega, by omega⟩, by omega⟩, by omega⟩
        simp only [Instr.makeSlice, Sem.run_bind, run_und hD, Result.andThen_ok, asInt, asIntOf, Sem.run_pure, hinfo, hwl, hwc]
        rw [if_neg (by rw [hcond2]; simp)]
        simp only [run_askRoom, Result.andThen_ok, Sem.run_bind, run_sizeOf' ok hsz W]
        by_cases hz0 : c.toNat * sz = 0
        · simp only [if_pos hz0]
          simp [newRow, hz0, map_range0]
        · simp only [if_neg hz0, Sem.run_bind, hzr, Result.andThen_ok, Sem.run_pure]
          simp [newRow]
      · simp at hs
    · simp at hs
  · simp at hs

/-! ### append -/
/-- The cells that are appended. -/
def aNews (C : Cx) (h : AH) (sz : Nat) (x : AV) : Option (Nat × List AV) :=
  match x with
  | .str l => if sz = 1 then some (l.length, l.map fun b => .int .u8 b.toNat) else none
  | .sl none n _ _ => some (n, [])
  | .sl (some a) n _ _ => if n = 0 then some (0, []) else (aCells C h a (n * sz)).map fun vs => (n, vs)
  | _ => none

theorem run_aNews (R : Rel C.W0 ρ h W) {sz : Nat} {x : AV} {X : Value} {n : Nat} {vs : List AV} (hn : aNews C h sz x = some (n, vs)) (hx : VRel ρ x X) (hsz : 0 < sz) :
    (Builtin.lenOf X).run C.P W = .ok n W ∧ vs.length = n * sz ∧ ∀ W', (∀ A v, W.cell? A = some v → W'.cell? A = some v) → ∃ Vs, (Builtin.firstCells sz n X).run C.P W' = .ok Vs W' ∧ VsRel ρ vs Vs.toList := by
  unfold aNews at hn
  split at hn
  · rename_i l
    split at hn
    · rename_i e
      simp at hn
      obtain ⟨rfl, rfl⟩ := hn
      rw [str_rel hx]
      refine ⟨by simp [Builtin.lenOf, ba_size], by simp [e], fun W' _ => ?_⟩
      refine ⟨((ByteArray.mk l.toArray).extract 0 l.length).data.map fun b => .int .u8 b.toNat, by simp [Builtin.firstCells], ?_⟩
      have : ((ByteArray.mk l.toArray).extract 0 l.length).data.toList = l := by simp
      rw [Array.toList_map, this]
      clear this hx
      induction l with
      | nil => simp [VsRel]
      | cons b l ih => simp only [List.map_cons, VsRel]; exact ⟨_, _, rfl, by simp [VRel], ih⟩
    · simp at hn
  · rename_i m cap gr
    simp at hn
    obtain ⟨rfl, rfl⟩ := hn
    simp only [VRel] at hx
    obtain ⟨rfl, _, _, rfl⟩ := hx
    exact ⟨by simp [Builtin.lenOf], by simp, fun W' _ => ⟨#[], by simp [Builtin.firstCells], by simp [VsRel]⟩⟩
  · rename_i a m cap gr
    split at hn
    · rename_i e
      subst e
      simp at hn
      obtain ⟨rfl, rfl⟩ := hn
      have : ∃ A c, X = .slice (some A) 0 c := by
        cases a with
        | base b o => simp only [VRel] at hx; obtain ⟨_, A, h1, _⟩ := hx; exact ⟨_, _, h1⟩
        | new k o => simp only [VRel] at hx; obtain ⟨r, A, c, _, h1, _⟩ := hx; exact ⟨_, _, h1⟩
      obtain ⟨A, c, rfl⟩ := this
      exact ⟨by simp [Builtin.lenOf], by simp, fun W' _ => ⟨#[], by simp [Builtin.firstCells, loadCells, loadCellsFrom], by simp [VsRel]⟩⟩
    · rename_i hne
      simp only [Option.map_eq_some_iff, Prod.mk.injEq] at hn
      obtain ⟨us, hus, rfl, rfl⟩ := hn
      obtain ⟨A, c, rfl, hA⟩ := sl_addr hx (by omega)
      obtain ⟨h1, h2⟩ := aCells_get hus
      refine ⟨by simp [Builtin.lenOf], h1, fun W' hW' => ?_⟩
      obtain ⟨Vs, hr, hrel⟩ := loadFrom_rel (W := W') (ρ := ρ) C.P A (m * sz) 0 #[] us h1 (fun j v hj => by
        have hjn : j < m * sz := by rw [← h1]; exact (List.getElem?_eq_some_iff.1 hj).1
        simp only [Nat.zero_add]
        obtain ⟨V, hV, hvr⟩ := cell_rel R (hA.add j) ((h2 j hjn).trans hj)
        exact ⟨V, hW' _ _ hV, hvr⟩)
      exact ⟨Vs, by simpa [Builtin.firstCells, loadCells] using hr, hrel⟩
  · simp at hn

def notIntKind : AKind → Bool
  | .int _ | .other => false
  | _ => true

def niOK (C : Cx) (ts : Array TypeId) : Bool := match ts[1]? with | some xt => notIntKind (C.kind xt) | none => true

def aAppend (C : Cx) (h : AH) (ts : Array TypeId) (s x : AV) : Option (AV × AH) :=
  match ts[0]? with
  | none => none
  | some st => match C.kind st, s with
    | .slice el, .sl base len cap gr => match C.size el, C.zero el with
      | some sz, some _ =>
        if niOK C ts = true ∧ 0 < sz ∧ 0 < C.bytes el then
          match aNews C h sz x with
          | none => none
          | some (n, news) =>
            if len + n ≤ cap then
              if n = 0 then some (.sl base len cap gr, h)
              else match base with
                | some a => (aStore C h (a.add (len * sz)) news).map fun h' => (.sl base (len + n) cap gr, h')
                | none => none
            else if (len + n) * C.bytes el ≤ 2 ^ 47 then
              match gr with
              | none => match base with
                | none => some (.sl (some (.new h.next 0)) (len + n) (len + n) (some sz), h.push (.cells news el))
                | some a =>
                  if len = 0 then some (.sl (some (.new h.next 0)) (len + n) (len + n) (some sz), h.push (.cells news el))
                  else (aCells C h a (len * sz)).map fun old => (.sl (some (.new h.next 0)) (len + n) (len + n) (some sz), h.push (.cells (old ++ news) el))
              | some _ => match base with
                | some (.new k o) => match h.get k with
                  | some (.cells cs t) =>
                    if t = el ∧ gr = some sz ∧ o + len * sz = cs.length ∧ news.all aOne = true ∧ o = 0 then
                      some (.sl (some (.new h.next 0)) (len + n) (len + n) (some sz), (h.kill k).push (.cells (cs.drop o ++ news) el))
                    else none
                  | _ => none
                | _ => none
            else none
        else none
      | _, _ => none
    | _, _ => none

/-- A row whose known cells are its first ones. -/
theorem Rel.newPrefix (R : Rel C.W0 ρ h W) {cs : List AV} {c : Array Value} (k : Nat) (hk : k = cs.length) (hc : VsRel ρ cs (c.toList.take k)) (hle : k ≤ c.size) (t : TypeId) :
    Rel C.W0 (ρ ++ [⟨W.heap.size, 0, c.size⟩]) (h.push (.cells cs t)) (W.alloc (.cells c t)) ∧ ρ <+: ρ ++ [⟨W.heap.size, 0, c.size⟩] ∧
      (ρ ++ [⟨W.heap.size, 0, c.size⟩])[h.next]? = some ⟨W.heap.size, 0, c.size⟩ := by
  have hp : ρ <+: ρ ++ [⟨W.heap.size, 0, c.size⟩] := List.prefix_append _ _
  refine ⟨R.push _ _ 0 c.size fun W' hW' => ?_, hp, by rw [← R.len]; simp⟩
  refine ⟨c, (0, 0), hW', rfl, by simp; omega, fun i v hi => ?_, fun j _ => by simp⟩
  obtain ⟨V, hV, hr⟩ := hc.get i v hi
  have hlt := (List.getElem?_eq_some_iff.1 hi).1
  rw [List.getElem?_take, if_pos (by omega)] at hV
  exact ⟨V, by simpa using hV, hr.mono hp⟩

theorem notInt_cases (ok : C.OK) {ts : Array TypeId} (h : (match ts[1]? with | some xt => notIntKind (C.kind xt) | none => true) = true) :
    ts[1]? = none ∨ ∃ xt D, ts[1]? = some xt ∧ C.P.underlying xt = some D ∧ (match D with | .int _ => true | _ => false) = false := by
  cases h1 : ts[1]? with
  | none => exact .inl rfl
  | some xt =>
    rw [h1] at h
    simp only at h
    obtain ⟨D, hD, hr⟩ := kind_und ok (rfl : C.kind xt = C.kind xt) (by intro e; rw [e] at h; simp [notIntKind] at h)
    refine .inr ⟨xt, D, rfl, hD, ?_⟩
    cases D <;> first | rfl | skip
    rename_i k
    cases hkk : C.kind xt <;> rw [hkk] at hr h <;> simp [KindRel, notIntKind] at hr h

/-- 'append' where the capacity does: nothing but stores. -/
theorem run_append_in (ok : C.OK) (R : Rel C.W0 ρ h W) {ts : Array TypeId} {ty st el : TypeId} {sz n len cap' : Nat} {news : List AV} {x : AV} {X : Value} {base : Option Addr}
    (hts : ts[0]? = some st) (hk : C.kind st = .slice el) (hsz : C.size el = some sz) (hni : (match ts[1]? with | some xt => notIntKind (C.kind xt) | none => true) = true) (hp : 0 < sz)
    (hx : VRel ρ x X) (hn : aNews C h sz x = some (n, news)) (hle : len + n ≤ cap') :
    (Builtin.append_ ts ty #[.slice base len cap', X]).run C.P W =
      (do let new ← Builtin.firstCells sz n X
          if let some a := base then storeCells (a.add (len * sz)) new.toList
          pure (Value.slice base (len + n) cap') : Sem Value).run C.P W := by
  obtain ⟨D, hD, hr⟩ := kind_und ok hk (by simp)
  simp only [KindRel] at hr; subst hr
  obtain ⟨hlen, _, _⟩ := run_aNews R hn hx hp
  rcases notInt_cases ok hni with h1 | ⟨xt, D, h1, hD1, hm⟩
  · simp only [Builtin.append_, hts, h1, List.getElem?_toArray, List.getElem?_cons_zero, List.getElem?_cons_succ, Sem.run_bind, run_und hD, Result.andThen_ok, Sem.run_pure, run_sizeOf' ok hsz W, Bool.false_eq_true, if_false, hlen, if_pos hle]
    rfl
  · cases D <;> first
      | (simp at hm; done)
      | (simp only [Builtin.append_, hts, h1, List.getElem?_toArray, List.getElem?_cons_zero, List.getElem?_cons_succ, Sem.run_bind, run_und hD, run_und hD1, Result.andThen_ok, Sem.run_pure, run_sizeOf' ok hsz W, Bool.false_eq_true, if_false, hlen, if_pos hle]
         rfl)

/-- 'append' where it doesn't: a new row. -/
theorem run_append_out (ok : C.OK) (R : Rel C.W0 ρ h W) {ts : Array TypeId} {ty st el : TypeId} {sz n len cap' : Nat} {news old : List AV} {x : AV} {X : Value} {base : Option Addr} {zs : List AV}
    (hts : ts[0]? = some st) (hk : C.kind st = .slice el) (hsz : C.size el = some sz) (hz : C.zero el = some zs) (hni : (match ts[1]? with | some xt => notIntKind (C.kind xt) | none => true) = true) (hp : 0 < sz)
    (hb : 0 < C.bytes el) (hx : VRel ρ x X) (hn : aNews C h sz x = some (n, news)) (hlt : cap' < len + n) (hbd : (len + n) * C.bytes el ≤ 2 ^ 47)
    (hol : old.length = len * sz) (hold : ∃ Os, (Builtin.firstCells sz len (.slice base len cap')).run C.P W.drew = .ok Os W.drew ∧ VsRel ρ old Os.toList) :
    ∃ c nc, (Builtin.append_ ts ty #[.slice base len cap', X]).run C.P W = .ok (.slice (some ⟨W.heap.size, 0, none⟩) (len + n) nc) (W.drew.alloc (.cells c el)) ∧
      len + n ≤ nc ∧ c.size = nc * sz ∧ (old ++ news).length = (len + n) * sz ∧ VsRel ρ (old ++ news) (c.toList.take ((len + n) * sz)) := by
  obtain ⟨D, hD, hr⟩ := kind_und ok hk (by simp)
  simp only [KindRel] at hr; subst hr
  obtain ⟨hlen, hnl, hfirst⟩ := run_aNews R hn hx hp
  obtain ⟨Vs, hV, hVr⟩ := hfirst W.drew (fun A v h => h)
  obtain ⟨Os, hO, hOr⟩ := hold
  obtain ⟨i, hi, his, hib⟩ := bytes_info ok hsz
  obtain ⟨z, hzr, hzrel, _, _, hzlen⟩ := run_zero (ρ := ρ) ok hz W.drew
  have hzsz : z.cells.size = sz := by
    have := hzrel.length
    rw [hsz] at hzlen
    simp only [Array.length_toList] at this
    simp at hzlen
    omega
  have hinfo : ∀ w, (typeInfo el).run C.P w = .ok i w := fun w => by simp [typeInfo, hi]
  have hneed63 : ¬ (((len + n : Nat) : Int) > IntKind.i64.max ∧ (False ∨ i.bytes = 0)) := by
    rw [hib]; simp; omega
  have h48 : ¬ (Builtin.nextslicecap (len + n) cap' * i.bytes > 2 ^ 48) := by
    rw [hib]
    have := growslice_fits (bytes := C.bytes el) hlt (by omega)
    omega
  let nc := (Question.appendCap (len + n) cap' el).cut (W.tape W.drawn (.appendCap (len + n) cap' el))
  have hnc : len + n ≤ nc := by show len + n ≤ _ + _; omega
  have hVl := hVr.length
  have hOl := hOr.length
  simp only [Array.length_toList] at hVl hOl
  refine ⟨Os ++ Vs ++ Builtin.zeroCells z.cells (nc - (len + n)), nc, ?_, hnc, ?_, by rw [List.length_append, hol, hnl, Nat.add_mul], ?_⟩
  · rcases notInt_cases ok hni with h1 | ⟨xt, D, h1, hD1, hm⟩
    · simp only [Builtin.append_, hts, h1, List.getElem?_toArray, List.getElem?_cons_zero, List.getElem?_cons_succ, Sem.run_bind, run_und hD, Result.andThen_ok, Sem.run_pure, run_sizeOf' ok hsz W, Bool.false_eq_true,
        if_false, hlen, if_neg (show ¬ len + n ≤ cap' by omega), hinfo]
      rw [if_neg hneed63]
      simp only [Sem.run_bind, hinfo, Result.andThen_ok]
      rw [if_neg h48]
      simp only [Sem.run_bind, run_choose, Question.forced, Bool.false_eq_true, if_false, Result.andThen_ok, hinfo, run_askRoom, World.drew_eq, hO, Bool.not_false, if_true, hV, hzr, Sem.run_pure, newRow, run_newObj, World.alloc_eq]
      rfl
    · cases D <;> first
        | (simp at hm; done)
        | (simp only [Builtin.append_, hts, h1, List.getElem?_toArray, List.getElem?_cons_zero, List.getElem?_cons_succ, Sem.run_bind, run_und hD, run_und hD1, Result.andThen_ok, Sem.run_pure, run_sizeOf' ok hsz W, Bool.false_eq_true,
             if_false, hlen, if_neg (show ¬ len + n ≤ cap' by omega), hinfo]
           rw [if_neg hneed63]
           simp only [Sem.run_bind, hinfo, Result.andThen_ok]
           rw [if_neg h48]
           simp only [Sem.run_bind, run_choose, Question.forced, Bool.false_eq_true, if_false, Result.andThen_ok, hinfo, run_askRoom, World.drew_eq, hO, Bool.not_false, if_true, hV, hzr, Sem.run_pure, newRow, run_newObj, World.alloc_eq]
           rfl)
  · simp only [Array.size_append, hVl, hOl, hnl, hol, size_zeroCells, hzsz]
    rw [← Nat.add_mul, ← Nat.add_mul]
    congr 1
    omega
  · have : ((Os ++ Vs ++ Builtin.zeroCells z.cells (nc - (len + n))).toList.take ((len + n) * sz)) = Os.toList ++ Vs.toList := by
      simp only [Array.toList_append]
      rw [List.take_append_of_le_length (by simp [hVl, hOl, hnl, hol, Nat.add_mul])]
      rw [List.take_of_length_le (by simp [hVl, hOl, hnl, hol, Nat.add_mul])]
    rw [this]
    exact hOr.append hVr

end
end Go.Proofs.Ytgcoipcnhmkeaaa.Ax
end

/-! AX, part 12: append (run), copy, a string's bytes -/
section
set_option linter.unusedVariables false
set_option linter.unusedSimpArgs false
namespace Go.Proofs.Ytgcoipcnhmkeaaa.Ax
open Go.RowKit

section
variable {C : Cx} {ρ : Rho} {h : AH} {W : World}

theorem drewCells (R : Rel C.W0 ρ h W) {a : AA} {A : Addr} (hA : ARel ρ a A) {n : Nat} {vs : List AV} (hv : aCells C h a n = some vs) :
    ∃ Vs, (loadCells A n).run C.P W.drew = .ok Vs W.drew ∧ VsRel ρ vs Vs.toList := loadCells_rel R.drew hA hv


/-- Behind a new row: the result. -/
theorem append_new (R : Rel C.W0 ρ h W) {cs : List AV} {c : Array Value} {el : TypeId} {sz m nc : Nat} (hm : m ≤ nc) (hc : c.size = nc * sz) (hl : cs.length = m * sz) (hr : VsRel ρ cs (c.toList.take (m * sz))) :
    ∃ ρ', ρ <+: ρ' ∧ Rel C.W0 ρ' (h.push (.cells cs el)) (W.drew.alloc (.cells c el)) ∧ VRel ρ' (.sl (some (.new h.next 0)) m m (some sz)) (.slice (some ⟨W.heap.size, 0, none⟩) m nc) := by
  have hle : m * sz ≤ c.size := by rw [hc]; exact Nat.mul_le_mul_right _ hm
  obtain ⟨hR, hp, hg⟩ := R.drew.newPrefix (m * sz) hl.symm hr hle el
  refine ⟨_, hp, hR, ?_⟩
  simp only [VRel]
  refine ⟨_, ⟨W.heap.size, 0, none⟩, nc, hg, rfl, hm, hm, fun e => by simp at e, .inl ⟨by simp, fun n hn => ?_⟩⟩
  simp at hn; subst hn
  show 0 + 0 + nc * sz ≤ c.size
  omega

theorem run_aAppend (ok : C.OK) (R : Rel C.W0 ρ h W) {ts : Array TypeId} {ty : TypeId} {s x v : AV} {S X : Value} {h' : AH} (hs : aAppend C h ts s x = some (v, h')) (hS : VRel ρ s S) (hx : VRel ρ x X) :
    ∃ V W' ρ', (Builtin.append_ ts ty #[S, X]).run C.P W = .ok V W' ∧ ρ <+: ρ' ∧ Rel C.W0 ρ' h' W' ∧ VRel ρ' v V := by
  unfold aAppend at hs
  split at hs
  · simp at hs
  rename_i st hts
  split at hs
  case h_2 => simp at hs
  rename_i el base len cap gr hk
  split at hs
  case h_2 => simp at hs
  rename_i sz zs hsz hz
  split at hs
  case isFalse => simp at hs
  rename_i hcond
  obtain ⟨hni, hp, hb⟩ := hcond
  split at hs
  · simp at hs
  rename_i n news hn
  obtain ⟨hlen, hnl, hfirst⟩ := run_aNews R hn hx hp
  -- the slice as the machine has it
  have hform : ∃ base' cap', S = .slice base' len cap' ∧ cap ≤ cap' ∧ (gr = none → cap' = cap) := by
    cases base with
    | none => simp only [VRel] at hS; obtain ⟨rfl, rfl, _, rfl⟩ := hS; exact ⟨_, _, rfl, Nat.le_refl _, fun _ => rfl⟩
    | some a => cases a with
      | base b o => simp only [VRel] at hS; obtain ⟨_, _, rfl, _⟩ := hS; exact ⟨_, _, rfl, Nat.le_refl _, fun _ => rfl⟩
      | new k o => simp only [VRel] at hS; obtain ⟨r, A, c, _, rfl, _, h2, h3, _⟩ := hS; exact ⟨_, _, rfl, h2, h3⟩
  obtain ⟨base', cap', rfl, hcc, hex⟩ := hform
  split at hs
  · -- within the capacity
    rename_i hle
    rw [run_append_in ok R hts hk hsz hni hp hx hn (by omega)]
    obtain ⟨Vs, hV, hVr⟩ := hfirst W (fun _ _ h => h)
    split at hs
    · rename_i h0
      subst h0
      simp at hs
      obtain ⟨rfl, rfl⟩ := hs
      have hVs : Vs = #[] := by
        have := hVr.length
        simp [hnl] at this
        exact this
      subst hVs
      refine ⟨.slice base' len cap', W, ρ, ?_, List.prefix_refl _, R, hS⟩
      cases base' <;> simp [hV, storeCells]
    · rename_i h0
      cases base with
      | none => simp at hs
      | some a =>
        simp only [Option.map_eq_some_iff, Prod.mk.injEq] at hs
        obtain ⟨h2, hst, rfl, rfl⟩ := hs
        -- the place behind the last
        cases a with
        | base b o => simp [AA.add, aStore] at hst
        | new k o =>
          have hS' := hS
          simp only [VRel] at hS
          obtain ⟨r, A, c', hr, he, h5, h6, h7, h8⟩ := hS
          simp only [Value.slice.injEq] at he
          obtain ⟨rfl, _, rfl⟩ := he
          rcases h8 with ⟨hA, hbd⟩ | h8
          · have hAr : ARel ρ (AA.new k o) A := ⟨r, hr, hA⟩
            obtain ⟨W', hrun, hR'⟩ := run_aStore R (hAr.add (len * sz)) hVr hst
            refine ⟨.slice (some A) (len + n) cap', W', ρ, by simp [hV, hrun], List.prefix_refl _, hR', ?_⟩
            simp only [VRel]
            exact ⟨r, A, cap', hr, rfl, by omega, h6, h7, .inl ⟨hA, hbd⟩⟩
          · omega
  · rename_i hgt
    split at hs
    case isFalse => simp at hs
    rename_i hbd
    -- the two ways behind the capacity
    have copy : ∀ (old : List AV) (h1 : AH) (R1 : Rel C.W0 ρ h1 W), cap' < len + n → old.length = len * sz →
        (∃ Os, (Builtin.firstCells sz len (.slice base' len cap')).run C.P W.drew = .ok Os W.drew ∧ VsRel ρ old Os.toList) →
        ∃ V W' ρ', (Builtin.append_ ts ty #[.slice base' len cap', X]).run C.P W = .ok V W' ∧ ρ <+: ρ' ∧ Rel C.W0 ρ' (h1.push (.cells (old ++ news) el)) W' ∧ VRel ρ' (.sl (some (.new h1.next 0)) (len + n) (len + n) (some sz)) V := by
      intro old h1 R1 hlt hol hold
      obtain ⟨c, nc, hrun, hnc, hcs, hll, hrel⟩ := run_append_out (ty := ty) ok R hts hk hsz hz hni hp hb hx hn hlt hbd hol hold
      obtain ⟨ρ', hp', hR', hv'⟩ := append_new R1 (el := el) hnc hcs hll hrel
      exact ⟨_, _, ρ', hrun, hp', hR', hv'⟩
    split at hs
    · -- the capacity is known
      have hce := hex rfl
      have hlt : cap' < len + n := by omega
      split at hs
      · simp at hs
        obtain ⟨rfl, rfl⟩ := hs
        simp only [VRel] at hS
        obtain ⟨rfl, _, _, he⟩ := hS
        simp only [Value.slice.injEq] at he
        obtain ⟨rfl, _, rfl⟩ := he
        exact copy [] h R hlt (by simp) ⟨#[], by simp [Builtin.firstCells], by simp [VsRel]⟩
      · rename_i a
        split at hs
        · rename_i h0
          subst h0
          simp at hs
          obtain ⟨rfl, rfl⟩ := hs
          have := copy [] h R hlt (by simp) ⟨#[], by cases base' <;> simp [Builtin.firstCells, loadCells, loadCellsFrom], by simp [VsRel]⟩
          simpa using this
        · rename_i h0
          simp only [Option.map_eq_some_iff, Prod.mk.injEq] at hs
          obtain ⟨old, hold, rfl, rfl⟩ := hs
          obtain ⟨A, c2, he, hA⟩ := sl_addr hS (by omega)
          simp only [Value.slice.injEq] at he
          obtain ⟨rfl, _, rfl⟩ := he
          obtain ⟨Os, hO, hOr⟩ := drewCells R hA hold
          exact copy old h R hlt (aCells_get hold).1 ⟨Os, by simpa [Builtin.firstCells] using hO, hOr⟩
    · -- it isn't
      rename_i gg
      split at hs
      case h_2 => simp at hs
      rename_i k o
      split at hs
      case h_2 => simp at hs
      rename_i cs t hk1
      split at hs
      case isFalse => simp at hs
      rename_i hc1
      obtain ⟨rfl, hgs, htail, hones, ho0⟩ := hc1
      simp at hgs; subst hgs
      simp at hs
      obtain ⟨rfl, rfl⟩ := hs
      have hS' := hS
      simp only [VRel] at hS
      obtain ⟨r, A, c2, hr, he, h5, h6, h7, h8⟩ := hS
      simp only [Value.slice.injEq] at he
      obtain ⟨rfl, _, rfl⟩ := he
      obtain ⟨r', hr', hb0, c, fr, hbk, hz1, hlen1, hall, hfr⟩ := R.live k _ hk1
      rw [hr] at hr'; cases hr'
      have hold : aCells C h (.new k o) (len * gg) = some (cs.drop o) := by
        simp only [aCells, hk1]
        rw [if_pos (by omega), List.take_of_length_le (by simp; omega)]
      by_cases hroom : len + n ≤ cap'
      · -- in its own place
        rcases h8 with ⟨hA, hbnd⟩ | h8
        case inr => omega
        have hbnd' := hbnd gg rfl
        rw [run_append_in ok R hts hk hsz hni hp hx hn hroom]
        obtain ⟨Vs, hV, hVr⟩ := hfirst W (fun _ _ h => h)
        have hVl := hVr.length
        have hsum : (len + n) * gg ≤ cap' * gg := Nat.mul_le_mul_right _ hroom
        rw [Nat.add_mul] at hsum
        have hVl2 : Vs.toList.length = n * gg := by omega
        have hVl3 : Vs.size = n * gg := by simpa using hVl2
        obtain ⟨W', c', hrun, hw, hb', hc'⟩ := run_storeCells C.P r.b (r.s + o + len * gg) Vs.toList 0 W c t fr hbk (by omega) hfr (ones_rel hones hVr)
        subst hA
        have hcsz : c'.size = c.size := by
          have := congrArg List.length hc'
          simp only [Array.length_toList] at this
          rw [this]
          unfold overV; simp; omega
        have hdrop : (cs.drop o).length = len * gg := by simp; omega
        refine ⟨.slice (some ⟨r.b, r.s + o, none⟩) (len + n) cap', W', ρ ++ [⟨r.b, r.s + o, r.z⟩], ?_, List.prefix_append _ _, R.move hk1 (.cells (cs.drop o ++ news) t) hr (r.s + o) hw.other hw.size hw.os hw.tape hw.output ?_ (by rw [R.home r (List.mem_of_getElem? hr), ho0]), ?_⟩
        · simp only [Sem.run_bind, hV, Result.andThen_ok]
          rw [add_addr]
          simp only [hrun, Result.andThen_ok, Sem.run_pure]
        · have hpf : ρ <+: ρ ++ [(⟨r.b, r.s + o, r.z⟩ : RE)] := List.prefix_append _ _
          refine ⟨c', fr, hb', by show c'.size = r.z; omega, by show r.s + o + (cs.drop o ++ news).length ≤ r.z; simp only [List.length_append, hdrop, hnl]; omega, fun i v hi => ?_, by rw [hcsz]; exact hfr⟩
          have hget : c'[r.s + o + i]? = (overV c.toList Vs.toList (r.s + o + len * gg + 0))[r.s + o + i]? := by rw [← hc']; simp
          rw [hget, overV_get _ _ _ _ (by simp; omega)]
          rw [List.getElem?_append] at hi
          rw [hdrop] at hi
          simp only [Nat.add_zero]
          split at hi
          · rename_i h1
            rw [if_pos (by omega)]
            rw [List.getElem?_drop] at hi
            obtain ⟨V, hV1, hV2⟩ := hall (o + i) v hi
            exact ⟨V, by rw [show r.s + o + i = r.s + (o + i) by omega]; simpa using hV1, hV2.mono hpf⟩
          · rename_i h1
            have h2 := (List.getElem?_eq_some_iff.1 hi).1
            rw [if_neg (by omega), if_pos (by omega)]
            obtain ⟨V, hV1, hV2⟩ := hVr.get _ v hi
            exact ⟨V, by rw [show r.s + o + i - (r.s + o + len * gg) = i - len * gg by omega]; exact hV1, hV2.mono hpf⟩
        · simp only [VRel]
          refine ⟨⟨r.b, r.s + o, r.z⟩, _, cap', by rw [← R.len]; simp, rfl, hroom, hroom, fun e => by simp at e, .inl ⟨by simp, fun m hm => ?_⟩⟩
          simp at hm; subst hm
          simp only [Nat.add_zero]
          omega
      · have hlt : cap' < len + n := by omega
        have := copy (cs.drop o) (h.kill k) (R.kill k) hlt (aCells_get hold).1 (by
          by_cases hl0 : len = 0
          · subst hl0
            have : cs.drop o = [] := by apply List.eq_nil_of_length_eq_zero; simp; omega
            rw [this]
            exact ⟨#[], by simp [Builtin.firstCells, loadCells, loadCellsFrom], by simp [VsRel]⟩
          · rcases h8 with ⟨hA, _⟩ | h8
            · have hAr : ARel ρ (AA.new k o) A := ⟨r, hr, hA⟩
              obtain ⟨Os, hO, hOr⟩ := drewCells R hAr hold
              exact ⟨Os, by simpa [Builtin.firstCells] using hO, hOr⟩
            · omega)
        simpa using this

end
end Go.Proofs.Ytgcoipcnhmkeaaa.Ax
end

/-! AX, part 13: maps written, ranges, copy, a string's bytes -/
section
set_option linter.unusedVariables false
set_option linter.unusedSimpArgs false
namespace Go.Proofs.Ytgcoipcnhmkeaaa.Ax
open Go.RowKit

section
variable {C : Cx} {ρ : Rho} {h : AH} {W : World}

/-- A new block, in whatever world it has come to lie in. -/
theorem Rel.pushG (R : Rel C.W0 ρ h W) {W' : World} (hold : ∀ j, j < W.heap.size → W'.heap[j]? = W.heap[j]?) (hsz : W.heap.size ≤ W'.heap.size) (h1 : W'.os = W.os) (h2 : W'.tape = W.tape) (h3 : W'.output = W.output)
    (o : AObj) (s z : Nat) (ho : ORel W' (ρ ++ [⟨W.heap.size, s, z⟩]) ⟨W.heap.size, s, z⟩ o) (hs : s = 0 := by rfl) : Rel C.W0 (ρ ++ [⟨W.heap.size, s, z⟩]) (h.push o) W' := by
  have hp : ρ <+: ρ ++ [⟨W.heap.size, s, z⟩] := List.prefix_append _ _
  have h0 : C.W0.heap.size ≤ W.heap.size := R.below.size
  refine ⟨R.below.trans ⟨h1, h2, h3, hsz, fun k hk => hold k (by omega)⟩, by simp [R.len], fun k o' hk => ?_, fun k k' o1 o2 r r' hk hk' hr hr' hb => ?_, fun r hr => by
    rcases List.mem_append.1 hr with hr | hr
    · exact R.home r hr
    · simp only [List.mem_singleton] at hr; rw [hr]; exact hs⟩
  · rw [AH.get_push] at hk
    split at hk
    · rename_i e
      cases hk
      exact ⟨⟨W.heap.size, s, z⟩, by rw [e, ← R.len]; simp, h0, ho⟩
    · obtain ⟨r, hr, hb, hO⟩ := R.live k o' hk
      exact ⟨r, get?_prefix hp hr, hb, ORel.mono hp (hO.world (hold _ hO.lt))⟩
  · have key : ∀ (k : Nat) (o : AObj) (r : RE), h.get k = some o → (ρ ++ [⟨W.heap.size, s, z⟩])[k]? = some r → ρ[k]? = some r ∧ r.b < W.heap.size := by
      intro k o r hk hr
      obtain ⟨r0, hr0, hb0, hO⟩ := R.live k o hk
      have := get?_prefix hp hr0
      rw [hr] at this
      cases this
      exact ⟨hr0, hO.lt⟩
    have last : ∀ (r : RE), (ρ ++ [⟨W.heap.size, s, z⟩])[h.next]? = some r → r.b = W.heap.size := by
      intro r hr
      rw [← R.len] at hr
      simp at hr
      rw [← hr]
    rw [AH.get_push] at hk hk'
    split at hk <;> split at hk'
    · rename_i e e'; omega
    · rename_i e e'
      subst e
      obtain ⟨_, h2⟩ := key k' o2 r' hk' hr'
      have := last r hr
      omega
    · rename_i e e'
      subst e'
      obtain ⟨_, h2⟩ := key k o1 r hk hr
      have := last r' hr'
      omega
    · obtain ⟨h1, _⟩ := key k o1 r hk hr
      obtain ⟨h2, _⟩ := key k' o2 r' hk' hr'
      exact R.inj k k' o1 o2 r r' hk hk' h1 h2 hb

def aConvE (C : Cx) (h : AH) (s d : TypeId) (x : AV) : Option (AV × AH) :=
  match C.kind s, C.kind d, x with
  | .other, _, _ => none
  | _, .slice e, .str l => match C.kind e with
    | .int .u8 => some (.sl (some (.new h.next 0)) l.length l.length (some 1), h.push (.cells (l.map fun b => .int .u8 b.toNat) e))
    | _ => none
  | _, _, _ => none

theorem run_aConvE (ok : C.OK) (R : Rel C.W0 ρ h W) {s d : TypeId} {x v : AV} {X : Value} {h' : AH} (hs : aConvE C h s d x = some (v, h')) (hx : VRel ρ x X) :
    ∃ V W' ρ', (convert s d X).run C.P W = .ok V W' ∧ ρ <+: ρ' ∧ Rel C.W0 ρ' h' W' ∧ VRel ρ' v V := by
  unfold aConvE at hs
  split at hs
  · simp at hs
  · rename_i k0 k1 e l hk1 hk2
    split at hs
    · rename_i he
      simp at hs
      obtain ⟨rfl, rfl⟩ := hs
      obtain ⟨Ds, hDs, _⟩ := kind_und ok (rfl : C.kind s = C.kind s) hk2
      obtain ⟨D, hD, hr2⟩ := kind_und ok hk1 (by simp)
      obtain ⟨De, hDe, hr3⟩ := kind_und ok he (by simp)
      simp only [KindRel] at hr2 hr3; subst hr2; subst hr3
      rw [str_rel hx]
      have hrun := Lib.run_convert_string_bytes (P := C.P) W s d e ⟨l.toArray⟩ hDs hD hDe
      have hcs : (Lib.bytesCells W e ⟨l.toArray⟩).size = grownCap W l.length 0 e := by
        have : l.length ≤ grownCap W l.length 0 e := by show l.length ≤ _ + _; omega
        simp [Lib.bytesCells, ba_size]
        omega
      have hge : l.length ≤ grownCap W l.length 0 e := by show l.length ≤ _ + _; omega
      rw [ba_size] at hrun
      refine ⟨_, _, ρ ++ [⟨W.heap.size, 0, grownCap W l.length 0 e⟩], hrun, List.prefix_append _ _, ?_, ?_⟩
      · refine R.pushG (fun j hj => Lib.bytesWorld_at_old W e _ j hj) (by rw [Lib.bytesWorld_size]; omega) rfl rfl rfl _ 0 _ ?_
        refine ⟨_, _, Lib.bytesWorld_at_new W e _, hcs, by simp; exact hge, fun i v hi => ?_, fun j hj => ?_⟩
        · simp only [List.getElem?_map, Option.map_eq_some_iff] at hi
          obtain ⟨b, hb, rfl⟩ := hi
          have hlt := (List.getElem?_eq_some_iff.1 hb).1
          refine ⟨.int .u8 b.toNat, ?_, by simp [VRel]⟩
          simp only [Lib.bytesCells, Nat.zero_add]
          rw [Array.getElem?_append_left (by simp; exact hlt)]
          simp [hb]
        · simp; omega
      · simp only [VRel]
        refine ⟨⟨W.heap.size, 0, grownCap W l.length 0 e⟩, _, _, by rw [← R.len]; simp, rfl, hge, hge, fun e => by simp at e, .inl ⟨by simp, fun n hn => ?_⟩⟩
        simp at hn; subst hn
        show 0 + 0 + grownCap W l.length 0 e * 1 ≤ grownCap W l.length 0 e
        omega
    · simp at hs
  · simp at hs

def aCopy (C : Cx) (h : AH) (ts : Array TypeId) (d x : AV) : Option (AV × AH) :=
  match ts[0]? with
  | none => none
  | some st => match C.kind st, d with
    | .slice el, .sl base dLen _ _ => match C.size el with
      | some sz =>
        if 0 < sz then
          match (match x with
            | .str l => if sz = 1 then some (Nat.min l.length dLen, (l.take (Nat.min l.length dLen)).map fun b => AV.int .u8 b.toNat) else none
            | .sl none n _ _ => some (Nat.min n dLen, [])
            | .sl (some a) n _ _ => if Nat.min n dLen = 0 then some (0, []) else (aCells C h a (Nat.min n dLen * sz)).map fun vs => (Nat.min n dLen, vs)
            | _ => none : Option (Nat × List AV)) with
          | none => none
          | some (n, vs) => if vs = [] then some (.i n, h) else match base with
            | some a => (aStore C h a vs).map fun h' => (.i n, h')
            | none => none
        else none
      | none => none
    | _, _ => none

/-! ### maps -/
def aSame : AV → AV → Bool
  | .int k a, .int k' b => k = k' && a == b
  | .str a, .str b => a == b
  | .bool a, .bool b => a == b
  | .agg xs, .agg ys => sameL xs ys
  | _, _ => false
where
  sameL : List AV → List AV → Bool
    | [], [] => true
    | .int k a :: xs, .int k' b :: ys => k = k' && a == b && sameL xs ys
    | .str a :: xs, .str b :: ys => a == b && sameL xs ys
    | .bool a :: xs, .bool b :: ys => a == b && sameL xs ys
    | _, _ => false

theorem sameL_eq : ∀ (xs ys : List AV), aSame.sameL xs ys = true → xs = ys
  | [], [], _ => rfl
  | .int k a :: xs, .int k' b :: ys, h => by
    simp only [aSame.sameL, Bool.and_eq_true, decide_eq_true_eq, beq_iff_eq] at h
    obtain ⟨⟨rfl, rfl⟩, h⟩ := h
    rw [sameL_eq xs ys h]
  | .str a :: xs, .str b :: ys, h => by
    simp only [aSame.sameL, Bool.and_eq_true, beq_iff_eq] at h
    obtain ⟨rfl, h⟩ := h
    rw [sameL_eq xs ys h]
  | .bool a :: xs, .bool b :: ys, h => by
    simp only [aSame.sameL, Bool.and_eq_true, beq_iff_eq] at h
    obtain ⟨rfl, h⟩ := h
    rw [sameL_eq xs ys h]

theorem aSame_eq {x y : AV} (h : aSame x y = true) : x = y := by
  unfold aSame at h
  split at h
  · simp at h; obtain ⟨rfl, rfl⟩ := h; rfl
  · simp at h; subst h; rfl
  · simp at h; subst h; rfl
  · rw [sameL_eq _ _ h]
  · simp at h

theorem EntsRel.get {as : List AEnt} : ∀ {es : List MapEntry}, EntsRel ρ as es → ∀ (i : Nat) (a : AEnt), as[i]? = some a → ∃ e, es[i]? = some e ∧ EntRel ρ a e := by
  induction as with
  | nil => intro es h i a hi; simp at hi
  | cons b as ih =>
    intro es h i a hi
    simp only [EntsRel] at h
    obtain ⟨e, es', rfl, h1, h2⟩ := h
    cases i with
    | zero => simp at hi; subst hi; exact ⟨e, by simp, h1⟩
    | succ i => simp at hi; simpa using ih h2 i a hi

theorem EntsRel.of_get : ∀ {as : List AEnt} {es : List MapEntry}, es.length = as.length → (∀ (i : Nat) (a : AEnt), as[i]? = some a → ∃ e, es[i]? = some e ∧ EntRel ρ a e) → EntsRel ρ as es
  | [], es, hl, _ => by simp only [EntsRel]; simpa using hl
  | b :: as, es, hl, h => by
    cases es with
    | nil => simp at hl
    | cons x xs =>
      simp only [EntsRel]
      refine ⟨x, xs, rfl, ?_, EntsRel.of_get (by simpa using hl) fun i v hi => ?_⟩
      · obtain ⟨V, hV, hr⟩ := h 0 b (by simp)
        simp at hV; subst hV; exact hr
      · simpa using h (i + 1) v (by simpa using hi)

theorem EntsRel.append {as : List AEnt} {es : List MapEntry} (h : EntsRel ρ as es) {a : AEnt} {e : MapEntry} (he : EntRel ρ a e) : EntsRel ρ (as ++ [a]) (es ++ [e]) := by
  have hl := h.length
  refine EntsRel.of_get (by simp [hl]) fun i v hi => ?_
  rw [List.getElem?_append] at hi ⊢
  rw [hl]
  split
  · rename_i hlt; rw [if_pos hlt] at hi; exact h.get i v hi
  · rename_i hlt
    rw [if_neg hlt] at hi
    cases hi0 : i - as.length with
    | zero => rw [hi0] at hi; simp at hi; subst hi; exact ⟨e, by simp, he⟩
    | succ j => rw [hi0] at hi; simp at hi

theorem EntsRel.modify {as : List AEnt} {es : List MapEntry} (h : EntsRel ρ as es) (i : Nat) {a : AEnt} (f : MapEntry → MapEntry) (hf : ∀ e, es[i]? = some e → EntRel ρ a (f e)) : EntsRel ρ (as.set i a) (es.modify i f) := by
  have hl := h.length
  refine EntsRel.of_get (by simp [hl]) fun j v hj => ?_
  rw [List.getElem?_set] at hj
  rw [List.getElem?_modify]
  split at hj
  · rename_i e0
    subst e0
    split at hj
    · rename_i hlt
      simp at hj; subst hj
      have : i < es.length := by omega
      exact ⟨f es[i], by simp [this], hf _ (by simp [this])⟩
    · simp at hj
  · rename_i e0
    obtain ⟨e, he, hr⟩ := h.get j v hj
    exact ⟨e, by simp [e0, he], hr⟩

theorem EntsRel.erase {as : List AEnt} {es : List MapEntry} (h : EntsRel ρ as es) (i : Nat) : EntsRel ρ (as.eraseIdx i) (es.eraseIdx i) := by
  have hl := h.length
  refine EntsRel.of_get (by simp [List.length_eraseIdx, hl]) fun j v hj => ?_
  rw [List.getElem?_eraseIdx] at hj ⊢
  split at hj
  · rename_i hlt; simp only [hlt, if_true]; exact h.get j v hj
  · rename_i hlt; simp only [hlt, if_false]; exact h.get _ v hj

/-- A map's block is written. -/
theorem Rel.setMap (R : Rel C.W0 ρ h W) {k : Nat} {es : List AEnt} {clock : Nat} (hk : h.get k = some (.map es clock)) {r : RE} (hr : ρ[k]? = some r) {es1 : List AEnt} {es1' : Array MapEntry} {clock1 : Nat}
    (he : EntsRel ρ es1 es1'.toList) : (setObj r.b (.map es1' clock1)).run C.P W = .ok () { W with heap := W.heap.setIfInBounds r.b (.map es1' clock1) } ∧
      Rel C.W0 ρ (h.set k (.map es1 clock1)) { W with heap := W.heap.setIfInBounds r.b (.map es1' clock1) } := by
  obtain ⟨es', hb, _⟩ := map_block R hk hr
  have hlt : r.b < W.heap.size := by
    rcases Nat.lt_or_ge r.b W.heap.size with h | h
    · exact h
    · rw [Array.getElem?_eq_none h] at hb; cases hb
  refine ⟨by simp [setObj, Sem.run, hb], R.set hk _ hr (fun j hj => ?_) (by simp) rfl rfl rfl ⟨es1', ?_, he⟩⟩
  · simp only [Array.getElem?_setIfInBounds]
    rw [if_neg (by omega)]
  · simp [hlt]

def aMapSet (C : Cx) (h : AH) (t : TypeId) (m k x : AV) : Option AH :=
  match C.kind t, m with
  | .map kt _, .map (some r) => match h.get r with
    | some (.map es clock) =>
      if aKey C 100 kt k then
        match aFind C kt k es 0 with
        | some (some (i, _)) => match es[i]? with
          | some e => if aSame e.key k then some (h.set r (.map (es.set i { e with val := x }) clock)) else none
          | none => none
        | some none => some (h.set r (.map (es ++ [⟨k, x, clock⟩]) (clock + 1)))
        | none => none
      else none
    | _ => none
  | _, _ => none

/-- Of two equal keys the machine keeps the one or the other. -/
theorem run_keyStays (W : World) (P : Program) (old new : Value) : ∃ key W', (Instr.keyThatStays old new).run P W = .ok key W' ∧ (key = old ∨ key = new) ∧ (W' = W ∨ W' = W.drew) := by
  unfold Instr.keyThatStays
  split
  · exact ⟨new, W, by simp, .inr rfl, .inl rfl⟩
  · simp only [Sem.run_bind, run_choose]
    have hf : (Question.extern "map.whichKeyStays" 2).forced = false := rfl
    rw [if_neg (by rw [hf]; simp)]
    simp only [Result.andThen_ok, Sem.run_pure]
    split
    · exact ⟨new, _, rfl, .inr rfl, .inr rfl⟩
    · exact ⟨old, _, rfl, .inl rfl, .inr rfl⟩

theorem run_aMapSet (ok : C.OK) (R : Rel C.W0 ρ h W) {t : TypeId} {m k x : AV} {M K X : Value} {h' : AH} (hs : aMapSet C h t m k x = some h') (hm : VRel ρ m M) (hk : VRel ρ k K) (hx : VRel ρ x X) :
    ∃ W', (Instr.mapUpdate t M K X).run C.P W = .ok () W' ∧ Rel C.W0 ρ h' W' := by
  unfold aMapSet at hs
  split at hs
  case h_2 => simp at hs
  rename_i kt vt r hkind
  obtain ⟨D, hD, hr⟩ := kind_und ok hkind (by simp)
  simp only [KindRel] at hr; subst hr
  split at hs
  case h_2 => simp at hs
  rename_i es clock hg
  split at hs
  case isFalse => simp at hs
  rename_i hkey
  obtain ⟨hn, hagg⟩ := aKey_kind hkey
  simp only [VRel] at hm
  obtain ⟨re, hr, rfl⟩ := hm
  obtain ⟨es', hrun, hrel, hbk⟩ := run_getMap R hg hr
  have hc := run_aKey ok false 100 10000 (by omega) kt k hkey K hk W
  split at hs
  · rename_i i v0 hf
    split at hs
    case h_2 => simp at hs
    rename_i e he
    split at hs
    case isFalse => simp at hs
    rename_i hsame
    simp at hs; subst hs
    have hke := aSame_eq hsame
    obtain ⟨r', hfind, hfr⟩ := findKey_rel ok hn hk hagg W hrel hf
    cases r' with
    | none => exact hfr.elim
    | some p =>
      obtain ⟨j, V0⟩ := p
      obtain ⟨rfl, _⟩ := hfr
      obtain ⟨e', he', hee⟩ := hrel.get i e he
      have he2 : es'[i]? = some e' := by simpa using he'
      obtain ⟨key, W', hst, hkey2, hW'⟩ := run_keyStays W C.P e'.key K
      have hkr : VRel ρ e.key key := by
        rcases hkey2 with rfl | rfl
        · exact hee.1
        · rw [hke]; exact hk
      have R' : Rel C.W0 ρ h W' := by
        rcases hW' with rfl | rfl
        · exact R
        · exact R.drew
      have hes : EntsRel ρ (es.set i { e with val := x }) (es'.modify i fun e => { e with key, val := X }).toList := by
        rw [Array.toList_modify]
        exact hrel.modify i _ fun e2 h2 => by
          rw [he'] at h2
          simp at h2; subst h2
          exact ⟨hkr, hx, hee.2.2⟩
      obtain ⟨hset, hR2⟩ := R'.setMap hg hr hes (clock1 := clock)
      refine ⟨_, ?_, hR2⟩
      simp only [Instr.mapUpdate, Sem.run_bind, run_und hD, Result.andThen_ok, hrun, hc, hfind, he2, Option.map_some, Option.getD_some, hst, hset]
  · rename_i hf
    simp at hs; subst hs
    obtain ⟨r', hfind, hfr⟩ := findKey_rel ok hn hk hagg W hrel hf
    cases r' with
    | some p => exact hfr.elim
    | none =>
      have hes : EntsRel ρ (es ++ [⟨k, x, clock⟩]) (es'.push { key := K, val := X, born := clock }).toList := by
        rw [Array.toList_push]
        exact hrel.append ⟨hk, hx, rfl⟩
      obtain ⟨hset, hR2⟩ := R.setMap hg hr hes (clock1 := clock + 1)
      refine ⟨_, ?_, hR2⟩
      simp only [Instr.mapUpdate, Sem.run_bind, run_und hD, Result.andThen_ok, hrun, hc, hfind, hset]
  · simp at hs

def aDelete (C : Cx) (h : AH) (ts : Array TypeId) (m k : AV) : Option AH :=
  match ts[0]? with
  | none => none
  | some t => match C.kind t, m with
    | .map kt _, .map none => if aKey C 100 kt k then some h else none
    | .map kt _, .map (some r) => match h.get r with
      | some (.map es clock) =>
        if aKey C 100 kt k then
          match aFind C kt k es 0 with
          | some (some (i, _)) => some (h.set r (.map (es.eraseIdx i) clock))
          | some none => some (h.set r (.map es clock))
          | none => none
        else none
      | _ => none
    | _, _ => none

theorem run_aDelete (ok : C.OK) (R : Rel C.W0 ρ h W) {ts : Array TypeId} {ty : TypeId} {m k : AV} {M K : Value} {h' : AH} (hs : aDelete C h ts m k = some h') (hm : VRel ρ m M) (hk : VRel ρ k K) :
    ∃ W', (Builtin.delete_ ts ty #[M, K]).run C.P W = .ok (.tuple #[]) W' ∧ Rel C.W0 ρ h' W' := by
  unfold aDelete at hs
  split at hs
  · simp at hs
  rename_i t hts
  split at hs
  · rename_i kt vt hkind
    obtain ⟨D, hD, hr⟩ := kind_und ok hkind (by simp)
    simp only [KindRel] at hr; subst hr
    split at hs
    case isFalse => simp at hs
    rename_i hkey
    simp at hs; subst hs
    simp only [VRel] at hm; subst hm
    have hc := run_aKey ok true 100 10000 (by omega) kt k hkey K hk W
    exact ⟨W, by simp [Builtin.delete_, hts, run_und hD, hc], R⟩
  · rename_i kt vt r hkind
    obtain ⟨D, hD, hr⟩ := kind_und ok hkind (by simp)
    simp only [KindRel] at hr; subst hr
    split at hs
    case h_2 => simp at hs
    rename_i es clock hg
    split at hs
    case isFalse => simp at hs
    rename_i hkey
    obtain ⟨hn, hagg⟩ := aKey_kind hkey
    simp only [VRel] at hm
    obtain ⟨re, hr, rfl⟩ := hm
    obtain ⟨es', hrun, hrel, hbk⟩ := run_getMap R hg hr
    have hc := run_aKey ok es'.isEmpty 100 10000 (by omega) kt k hkey K hk W
    split at hs
    · rename_i i v0 hf
      simp at hs; subst hs
      obtain ⟨r', hfind, hfr⟩ := findKey_rel ok hn hk hagg W hrel hf
      cases r' with
      | none => exact hfr.elim
      | some p =>
        obtain ⟨j, V0⟩ := p
        obtain ⟨rfl, _⟩ := hfr
        have hes : EntsRel ρ (es.eraseIdx i) (es'.eraseIdxIfInBounds i).toList := by
          rw [Array.toList_eraseIdxIfInBounds]
          exact hrel.erase i
        obtain ⟨hset, hR2⟩ := R.setMap hg hr hes (clock1 := clock)
        refine ⟨_, ?_, hR2⟩
        simp [Builtin.delete_, hts, run_und hD, hrun, hc, hfind, hset]
    · rename_i hf
      simp at hs; subst hs
      obtain ⟨r', hfind, hfr⟩ := findKey_rel ok hn hk hagg W hrel hf
      cases r' with
      | some p => exact hfr.elim
      | none =>
        obtain ⟨hset, hR2⟩ := R.setMap hg hr hrel (clock1 := clock)
        refine ⟨_, ?_, hR2⟩
        simp [Builtin.delete_, hts, run_und hD, hrun, hc, hfind, hset]
    · simp at hs
  · simp at hs

def aClear (C : Cx) (h : AH) (ts : Array TypeId) (m : AV) : Option AH :=
  match ts[0]? with
  | none => none
  | some t => match C.kind t, m with
    | .map _ _, .map none => some h
    | .map _ _, .map (some r) => match h.get r with
      | some (.map _ clock) => some (h.set r (.map [] clock))
      | _ => none
    | _, _ => none

theorem run_aClear (ok : C.OK) (R : Rel C.W0 ρ h W) {ts : Array TypeId} {ty : TypeId} {m : AV} {M : Value} {h' : AH} (hs : aClear C h ts m = some h') (hm : VRel ρ m M) :
    ∃ W', (Builtin.clear_ ts ty #[M]).run C.P W = .ok (.tuple #[]) W' ∧ Rel C.W0 ρ h' W' := by
  unfold aClear at hs
  split at hs
  · simp at hs
  rename_i t hts
  split at hs
  · rename_i kt vt hkind
    obtain ⟨D, hD, hr⟩ := kind_und ok hkind (by simp)
    simp only [KindRel] at hr; subst hr
    simp at hs; subst hs
    simp only [VRel] at hm; subst hm
    exact ⟨W, by simp [Builtin.clear_, hts, run_und hD], R⟩
  · rename_i kt vt r hkind
    obtain ⟨D, hD, hr⟩ := kind_und ok hkind (by simp)
    simp only [KindRel] at hr; subst hr
    split at hs
    case h_2 => simp at hs
    rename_i es clock hg
    simp at hs; subst hs
    simp only [VRel] at hm
    obtain ⟨re, hr, rfl⟩ := hm
    obtain ⟨es', hrun, hrel, hbk⟩ := run_getMap R hg hr
    obtain ⟨hset, hR2⟩ := R.setMap hg hr (es1 := []) (es1' := #[]) (by simp [EntsRel]) (clock1 := clock)
    exact ⟨_, by simp [Builtin.clear_, hts, run_und hD, hrun, hset], hR2⟩
  · simp at hs

/-! ### ranges -/
def aRange (C : Cx) (h : AH) (t : TypeId) (x : AV) : Option (AV × AH) :=
  match C.kind t, x with
  | .str, .str s => some (.ptr (some (.new h.next 0)), h.push (.siter s 0))
  | .map _ _, .map none => some (.ptr (some (.new h.next 0)), h.push (.miter none 0 [] 0))
  | .map _ _, .map (some m) => match h.get m with
    | some (.map _ clock) => some (.ptr (some (.new h.next 0)), h.push (.miter (some m) clock [] clock))
    | _ => none
  | _, _ => none

theorem run_aRange (ok : C.OK) (R : Rel C.W0 ρ h W) {t : TypeId} {x v : AV} {X : Value} {h' : AH} (hs : aRange C h t x = some (v, h')) (hx : VRel ρ x X) :
    ∃ V W' ρ', (Instr.range t X).run C.P W = .ok V W' ∧ ρ <+: ρ' ∧ Rel C.W0 ρ' h' W' ∧ VRel ρ' v V := by
  have fin : ∀ ρ', ρ' = ρ ++ [(⟨W.heap.size, 0, 0⟩ : RE)] → VRel ρ' (.ptr (some (.new h.next 0))) (.pointer (some ⟨W.heap.size, 0, none⟩)) := by
    intro ρ' e
    subst e
    simp only [VRel]
    exact ⟨_, ⟨⟨W.heap.size, 0, 0⟩, by rw [← R.len]; simp, rfl⟩, by simp⟩
  unfold aRange at hs
  split at hs
  · rename_i s hk
    simp at hs
    obtain ⟨rfl, rfl⟩ := hs
    obtain ⟨D, hD, hr⟩ := kind_und ok hk (by simp)
    simp only [KindRel] at hr; subst hr
    rw [str_rel hx]
    exact ⟨_, _, _, by simp [Instr.range, run_und hD], List.prefix_append _ _, R.push (.siter s 0) (.stringIter ⟨s.toArray⟩ 0) 0 0 (fun W' hW' => ⟨rfl, hW'⟩), fin _ rfl⟩
  · rename_i k0 v0 hk
    simp at hs
    obtain ⟨rfl, rfl⟩ := hs
    obtain ⟨D, hD, hr⟩ := kind_und ok hk (by simp)
    simp only [KindRel] at hr; subst hr
    simp only [VRel] at hx; subst hx
    exact ⟨_, _, _, by simp [Instr.range, run_und hD], List.prefix_append _ _, R.push (.miter none 0 [] 0) (.mapIter none 0 #[] 0) 0 0 (fun W' hW' => ⟨rfl, none, hW', rfl⟩), fin _ rfl⟩
  · rename_i k0 v0 m hk
    split at hs
    case h_2 => simp at hs
    rename_i es clock hg
    simp at hs
    obtain ⟨rfl, rfl⟩ := hs
    obtain ⟨D, hD, hr⟩ := kind_und ok hk (by simp)
    simp only [KindRel] at hr; subst hr
    simp only [VRel] at hx
    obtain ⟨re, hr, rfl⟩ := hx
    obtain ⟨es', hrun, hrel, hbk⟩ := run_getMap R hg hr
    exact ⟨_, _, _, by simp [Instr.range, run_und hD, hrun], List.prefix_append _ _, R.push (.miter (some m) clock [] clock) (.mapIter (some re.b) clock #[] clock) 0 0
      (fun W' hW' => ⟨rfl, some re.b, hW', ⟨re, get?_prefix (List.prefix_append _ _) hr, rfl⟩⟩), fin _ rfl⟩
  · simp at hs

/-- The next rune. -/
def aNextS (h : AH) (it : AV) : Option (AV × AH) :=
  match it with
  | .ptr (some (.new k 0)) => match h.get k with
    | some (.siter s pos) =>
      if pos < s.length then
        let d := Utf8.decode ⟨s.toArray⟩ pos
        some (.tup [.bool true, .i pos, .int .i32 d.1], h.set k (.siter s (pos + d.2)))
      else some (.tup [.bool false], h)
    | _ => none
  | _ => none

theorem run_aNextS (R : Rel C.W0 ρ h W) {it v : AV} {I : Value} {ty : TypeId} {h' : AH} (hs : aNextS h it = some (v, h')) (hi : VRel ρ it I) :
    ∃ V W', (Instr.next I true ty).run C.P W = .ok V W' ∧ Rel C.W0 ρ h' W' ∧ VRel ρ v V := by
  unfold aNextS at hs
  split at hs
  case h_2 => simp at hs
  rename_i k
  split at hs
  case h_2 => simp at hs
  rename_i s pos hg
  simp only [VRel] at hi
  obtain ⟨A, ⟨r, hr, rfl⟩, rfl⟩ := hi
  obtain ⟨r', hr', hb0, ho⟩ := R.live k _ hg
  rw [hr] at hr'; cases hr'
  obtain ⟨hs0, hob⟩ := ho
  have hlt : r.b < W.heap.size := by
    rcases Nat.lt_or_ge r.b W.heap.size with h | h
    · exact h
    · rw [Array.getElem?_eq_none h] at hob; cases hob
  rw [hs0]
  split at hs
  · rename_i hp
    simp at hs
    obtain ⟨rfl, rfl⟩ := hs
    refine ⟨.tuple #[.bool true, goInt pos, .int .i32 (Utf8.decode ⟨s.toArray⟩ pos).1], { W with heap := W.heap.setIfInBounds r.b (.stringIter ⟨s.toArray⟩ (pos + (Utf8.decode ⟨s.toArray⟩ pos).2)) }, ?_,
      R.set hg _ hr (fun j hj => by simp only [Array.getElem?_setIfInBounds]; rw [if_neg (by omega)]) (by simp) rfl rfl rfl ⟨hs0, by simp [hlt]⟩, by simp only [VRel]; exact ⟨_, rfl, by simp [VsRel, VRel, goInt]⟩⟩
    have hp' : pos < (ByteArray.mk s.toArray).size := by rw [ba_size]; exact hp
    simp [Instr.next, getObj, setObj, Sem.run, hob, hp']
  · rename_i hp
    simp at hs
    obtain ⟨rfl, rfl⟩ := hs
    have hp' : ¬ pos < (ByteArray.mk s.toArray).size := by rw [ba_size]; exact hp
    exact ⟨.tuple #[.bool false], W, by simp [Instr.next, getObj, Sem.run, hob, hp'], R, by simp only [VRel]; exact ⟨_, rfl, by simp [VsRel, VRel]⟩⟩

theorem run_aCopy (ok : C.OK) (R : Rel C.W0 ρ h W) {ts : Array TypeId} {ty : TypeId} {d x v : AV} {D X : Value} {h' : AH} (hs : aCopy C h ts d x = some (v, h')) (hd : VRel ρ d D) (hx : VRel ρ x X) :
    ∃ V W', (Builtin.copy_ ts ty #[D, X]).run C.P W = .ok V W' ∧ Rel C.W0 ρ h' W' ∧ VRel ρ v V := by
  unfold aCopy at hs
  split at hs
  · simp at hs
  rename_i st hts
  split at hs
  case h_2 => simp at hs
  rename_i el base dLen cap gr hk
  obtain ⟨DD, hD, hr⟩ := kind_und ok hk (by simp)
  simp only [KindRel] at hr; subst hr
  split at hs
  case h_2 => simp at hs
  rename_i sz hsz
  split at hs
  case isFalse => simp at hs
  rename_i hp
  have hform : ∃ base' cap', D = .slice base' dLen cap' ∧ ∀ a, base = some a → ∃ A, base' = some A ∧ (0 < dLen → ARel ρ a A) := by
    cases base with
    | none => simp only [VRel] at hd; obtain ⟨rfl, rfl, _, rfl⟩ := hd; exact ⟨_, _, rfl, fun a h => by simp at h⟩
    | some a => cases a with
      | base b o => simp only [VRel] at hd; obtain ⟨_, A, rfl, h4⟩ := hd; exact ⟨_, _, rfl, fun a h => by simp at h; subst h; exact ⟨_, rfl, fun hp => by
        rcases h4 with rfl | h4
        · exact rfl
        · omega⟩⟩
      | new k o =>
        have hd' := hd
        simp only [VRel] at hd
        obtain ⟨r, A, c, hr, rfl, h1, h2, h3, h4⟩ := hd
        refine ⟨_, _, rfl, fun a h => ?_⟩
        simp at h; subst h
        refine ⟨A, rfl, fun hpos => ?_⟩
        rcases h4 with ⟨hA, _⟩ | h4
        · exact ⟨r, hr, hA⟩
        · omega
  obtain ⟨base', cap', rfl, hbase⟩ := hform
  split at hs
  · simp at hs
  rename_i n vs hsrc
  have main : ∃ m Vs, (Builtin.lenOf X).run C.P W = .ok m W ∧ n = Nat.min m dLen ∧ (Builtin.firstCells sz n X).run C.P W = .ok Vs W ∧ VsRel ρ vs Vs.toList ∧ vs.length = n * sz := by
    split at hsrc
    · rename_i l
      split at hsrc
      · rename_i e
        simp only [Option.some.injEq, Prod.mk.injEq] at hsrc
        obtain ⟨rfl, rfl⟩ := hsrc
        rw [str_rel hx]
        have hex : ((ByteArray.mk l.toArray).extract 0 (Nat.min l.length dLen)).data.toList = l.take (Nat.min l.length dLen) := by simp
        refine ⟨l.length, ((ByteArray.mk l.toArray).extract 0 (Nat.min l.length dLen)).data.map fun b => .int .u8 b.toNat, by simp [Builtin.lenOf, ba_size], rfl, by simp [Builtin.firstCells], ?_, by simp [e]⟩
        rw [Array.toList_map, hex]
        generalize l.take (Nat.min l.length dLen) = l2
        induction l2 with
        | nil => simp [VsRel]
        | cons b l2 ih => simp only [List.map_cons, VsRel]; exact ⟨_, _, rfl, by simp [VRel], ih⟩
      · simp at hsrc
    · rename_i m c2 g2
      simp only [Option.some.injEq, Prod.mk.injEq] at hsrc
      obtain ⟨rfl, rfl⟩ := hsrc
      simp only [VRel] at hx
      obtain ⟨rfl, _, _, rfl⟩ := hx
      exact ⟨0, #[], by simp [Builtin.lenOf], rfl, by simp [Builtin.firstCells], by simp [VsRel], by simp⟩
    · rename_i a m c2 g2
      split at hsrc
      · rename_i e
        simp only [Option.some.injEq, Prod.mk.injEq] at hsrc
        obtain ⟨rfl, rfl⟩ := hsrc
        have : ∃ A c, X = .slice (some A) m c := by
          cases a with
          | base b o => simp only [VRel] at hx; obtain ⟨_, A, h1, _⟩ := hx; exact ⟨_, _, h1⟩
          | new k o => simp only [VRel] at hx; obtain ⟨r, A, c, _, h1, _⟩ := hx; exact ⟨_, _, h1⟩
        obtain ⟨A, c, rfl⟩ := this
        exact ⟨m, #[], by simp [Builtin.lenOf], e.symm, by simp [Builtin.firstCells, loadCells, loadCellsFrom], by simp [VsRel], by simp⟩
      · rename_i e
        simp only [Option.map_eq_some_iff, Prod.mk.injEq] at hsrc
        obtain ⟨us, hus, rfl, rfl⟩ := hsrc
        have hm0 : 0 < m := by
          rcases Nat.eq_zero_or_pos m with h | h
          · subst h; simp at e
          · exact h
        obtain ⟨A, c, rfl, hA⟩ := sl_addr hx hm0
        obtain ⟨Vs, hV, hVr⟩ := loadCells_rel R hA hus
        exact ⟨m, Vs, by simp [Builtin.lenOf], rfl, by simp [Builtin.firstCells, hV], hVr, (aCells_get hus).1⟩
    · simp at hsrc
  obtain ⟨m0, Vs, hlenof, hn, hfirst2, hVr, hvl⟩ := main
  split at hs
  · rename_i hv0
    subst hv0
    simp at hs
    obtain ⟨rfl, rfl⟩ := hs
    have hVs : Vs = #[] := by
      have := hVr.length
      simp at this
      exact this
    subst hVs
    refine ⟨goInt n, W, ?_, R, by simp [VRel, goInt]⟩
    simp only [Builtin.copy_, hts, List.getElem?_toArray, List.getElem?_cons_zero, List.getElem?_cons_succ, Sem.run_bind, run_und hD, Result.andThen_ok, hlenof, run_sizeOf' ok hsz W, ← hn, hfirst2]
    cases base' <;> simp [storeCells, hn]
  · rename_i hv0
    split at hs
    case h_2 => simp at hs
    rename_i a
    simp only [Option.map_eq_some_iff, Prod.mk.injEq] at hs
    obtain ⟨h2, hst, rfl, rfl⟩ := hs
    obtain ⟨A, rfl, hA⟩ := hbase a rfl
    have hd0 : 0 < dLen := by
      rcases Nat.eq_zero_or_pos dLen with h | h
      · subst h
        have : n = 0 := by rw [hn]; simp
        rw [this] at hvl
        simp at hvl
        exact absurd hvl hv0
      · exact h
    obtain ⟨W', hrun, hR'⟩ := run_aStore R (hA hd0) hVr hst
    refine ⟨goInt n, W', ?_, hR', by simp [VRel, goInt]⟩
    simp only [Builtin.copy_, hts, List.getElem?_toArray, List.getElem?_cons_zero, List.getElem?_cons_succ, Sem.run_bind, run_und hD, Result.andThen_ok, hlenof, run_sizeOf' ok hsz W, ← hn, hfirst2, hrun]
    simp [hn]

end
end Go.Proofs.Ytgcoipcnhmkeaaa.Ax
end

/-! AX, part 14: one operation, whatever it is; calls -/
section
set_option linter.unusedVariables false
set_option linter.unusedSimpArgs false
namespace Go.Proofs.Ytgcoipcnhmkeaaa.Ax
open Go.RowKit

section
variable {C : Cx} {ρ : Rho} {h : AH} {W : World}

/-! ### unsafe.String: the bytes, which nobody will write any more -/
def byteOf2 : AV → Option UInt8
  | .int .u8 n => if 0 ≤ n ∧ n < 256 then some (UInt8.ofNat n.toNat) else none
  | _ => none

def aUnsafeStr (C : Cx) (h : AH) (ts : Array TypeId) (p n : AV) : Option (AV × AH) :=
  match p, n with
  | .ptr p, .int .i64 m =>
    if m = 0 then match ts.toList with
      | [_, _] => some (.str [], h)
      | _ => none
    else match p, ts.toList with
      | some (.new k 0), [pt, _] => match h.get k, C.kind pt with
        | some (.cells cs t), .ptr e => match C.size t, (cs.take m.toNat).mapM byteOf2 with
          | some sz, some l => if e = t ∧ sz = 1 ∧ 0 < m ∧ m ≤ cs.length ∧ m ≤ 9223372036854775807 then some (.str l, h.kill k) else none
          | _, _ => none
        | _, _ => none
      | _, _ => none
  | _, _ => none

theorem bytes2_of : ∀ (vs : List AV) (l : List UInt8), vs.mapM byteOf2 = some l → l.length = vs.length ∧ ∀ (i : Nat) (x : UInt8), l[i]? = some x → vs[i]? = some (.int .u8 x.toNat)
  | [], l, h => by simp at h; subst h; simp
  | v :: vs, l, h => by
    simp only [List.mapM_cons, bind, Option.bind_eq_some_iff] at h
    obtain ⟨y, hy, ys, hys, hp⟩ := h
    simp [pure] at hp; subst hp
    obtain ⟨h1, h2⟩ := bytes2_of vs ys hys
    refine ⟨by simp [h1], fun i x hx => ?_⟩
    cases i with
    | zero =>
      simp at hx; subst hx
      unfold byteOf2 at hy
      split at hy
      · rename_i n
        split at hy
        · rename_i hn
          simp at hy; subst hy
          have : n.toNat % 256 = n.toNat := Nat.mod_eq_of_lt (by omega)
          simp [this]
          omega
        · simp at hy
      · simp at hy
    | succ i => simpa using h2 i x (by simpa using hx)

/-- An own block is no more looked at, and its cells' freezing seen by none. -/
theorem Rel.killW {W0 W' : World} (R : Rel W0 ρ h W) {k : Nat} {o0 : AObj} (hk : h.get k = some o0) {r : RE} (hr : ρ[k]? = some r)
    (hW : ∀ j, j ≠ r.b → W'.heap[j]? = W.heap[j]?) (hs : W'.heap.size = W.heap.size) (h1 : W'.os = W.os) (h2 : W'.tape = W.tape) (h3 : W'.output = W.output) : Rel W0 ρ (h.kill k) W' := by
  obtain ⟨r0, hr0, hb0, hO⟩ := R.live k o0 hk
  rw [hr] at hr0; cases hr0
  have sub : ∀ j o, (h.kill k).get j = some o → h.get j = some o ∧ j ≠ k := by
    intro j o hj
    rw [AH.get_kill] at hj
    split at hj
    · cases hj
    · rename_i e; exact ⟨hj, e⟩
  refine ⟨R.below.trans ⟨h1, h2, h3, by omega, fun j hj => hW j (by omega)⟩, R.len, fun j o hj => ?_, fun k1 k2 o1 o2 r1 r2 hk1 hk2 => R.inj k1 k2 o1 o2 r1 r2 (sub _ _ hk1).1 (sub _ _ hk2).1, R.home⟩
  obtain ⟨hj', hne⟩ := sub j o hj
  obtain ⟨r', hr', hb', hO'⟩ := R.live j o hj'
  exact ⟨r', hr', hb', hO'.world (hW _ fun he => hne (R.inj j k o o0 r' r hj' hk hr' hr he))⟩

theorem run_aUnsafeStr (ok : C.OK) (R : Rel C.W0 ρ h W) {ts : Array TypeId} {p n v : AV} {X Y : Value} {h' : AH} (hv : aUnsafeStr C h ts p n = some (v, h')) (hx : VRel ρ p X) (hy : VRel ρ n Y) (ty : TypeId) :
    ∃ V W', (Builtin.unsafeString_ ts ty #[X, Y]).run C.P W = .ok V W' ∧ Rel C.W0 ρ h' W' ∧ VRel ρ v V := by
  unfold aUnsafeStr at hv
  split at hv
  case h_2 => simp at hv
  rename_i q m
  rw [int_rel hy]
  split at hv
  · rename_i hm
    subst hm
    split at hv
    case h_2 => simp at hv
    rename_i pt it hts
    simp at hv
    obtain ⟨rfl, rfl⟩ := hv
    have ets : ts = #[pt, it] := by rw [← Array.toArray_toList (xs := ts), hts]
    rw [ets]
    have : ∃ q', X = .pointer q' := by
      cases q with
      | none => simp only [VRel] at hx; exact ⟨_, hx⟩
      | some a => simp only [VRel] at hx; obtain ⟨A, _, e⟩ := hx; exact ⟨_, e⟩
    obtain ⟨q', rfl⟩ := this
    exact ⟨_, W, Lib.run_unsafeString_none W pt it ty q', R, by simp only [VRel]; rfl⟩
  · rename_i hm
    split at hv
    case h_2 => simp at hv
    rename_i k pt it hts
    split at hv
    case h_2 => simp at hv
    rename_i cs t e hg hkp
    split at hv
    case h_2 => simp at hv
    rename_i sz l hsz hl
    split at hv
    case isFalse => simp at hv
    rename_i hc
    obtain ⟨rfl, rfl, hm0, hmc, hmm⟩ := hc
    simp at hv
    obtain ⟨rfl, rfl⟩ := hv
    have ets : ts = #[pt, it] := by rw [← Array.toArray_toList (xs := ts), hts]
    rw [ets]
    obtain ⟨D, hD, hr1⟩ := kind_und ok hkp (by simp)
    simp only [KindRel] at hr1; subst hr1
    obtain ⟨j, hj, hjn⟩ := info_size ok hsz
    simp only [VRel] at hx
    obtain ⟨A, ⟨r, hr, rfl⟩, rfl⟩ := hx
    obtain ⟨r', hr', hb0, c, fr, hb, hz, hlen, hall, hfr⟩ := R.live k _ hg
    rw [hr] at hr'; cases hr'
    have h0 := R.home r (List.mem_of_getElem? hr)
    obtain ⟨h1, h2⟩ := bytes2_of _ _ hl
    have hll : l.length = m.toNat := by rw [h1, List.length_take]; omega
    have hcell : ∀ j x, l[j]? = some x → W.cell? ((⟨r.b, 0, none⟩ : Addr).add j) = some (.int .u8 x.toNat) := by
      intro j x hx
      have h3 := h2 j x hx
      rw [List.getElem?_take] at h3
      split at h3
      · obtain ⟨V, hV, hVr⟩ := hall j _ h3
        rw [h0, Nat.zero_add] at hV
        rw [add_addr]
        have e1 := int_rel hVr
        simp [World.cell?, hb, hV, e1]
      · simp at h3
    have hrun := Lib.run_unsafeString_row W pt it ty e hD (by simp [Program.cellsOf, hj, hjn]) r.b c.size (show W.shape? r.b = some (e, c.size) by simp [World.shape?, hb]) l (by intro he; rw [he] at hll; simp at hll; omega)
      (by omega) (by omega) hcell
    rw [hll, Int.toNat_of_nonneg (by omega)] at hrun
    rw [h0]
    refine ⟨_, _, hrun, R.killW hg hr (fun j hj => ?_) ?_ ?_ ?_ ?_, by simp only [VRel]⟩
    · unfold World.freeze
      split
      · rfl
      · simp only [Array.getElem?_modify]
        rw [if_neg (fun e => hj e.symm)]
    · unfold World.freeze
      split
      · rfl
      · simp
    · unfold World.freeze; split <;> rfl
    · unfold World.freeze; split <;> rfl
    · unfold World.freeze; split <;> rfl

/-- An operation that changes memory and calls no Go function, at a valuation of its operands. -/
def qu9 (C : Cx) (o : Oper) (g : Operand → AV) (h : AH) : Option (AV × AH) :=
  match o.op with
  | .alloc t => aAlloc C h t
  | .box t x => aBox h t (g x)
  | .buildSlice t len ps => aBuildSlice C h t len (ps.toList.map fun p => (p.1, g p.2))
  | .store t a x => (aStoreOp C h t (g a) (g x)).map fun h' => (.undef, h')
  | .convert s d x => aConvE C h s d (g x)
  | .makeMap _ r => aMakeMap h (r.map g)
  | .makeSlice t l c => aMakeSlice C h t (g l) (g c)
  | .mapUpdate t m k x => (aMapSet C h t (g m) (g k) (g x)).map fun h' => (.undef, h')
  | .insert t m k x => (aMapSet C h t (g m) (g k) (g x)).map fun h' => (.undef, h')
  | .range t x => aRange C h t (g x)
  | .next it true => aNextS h (g it)
  | .call c => match c.callee with
    | .builtin .append => match c.args.toList with
      | [s, x] => aAppend C h c.argTypes (g s) (g x)
      | _ => none
    | .builtin .copy => match c.args.toList with
      | [d, x] => aCopy C h c.argTypes (g d) (g x)
      | _ => none
    | .builtin .unsafeString => match c.args.toList with
      | [p, n] => aUnsafeStr C h c.argTypes (g p) (g n)
      | _ => none
    | .builtin .delete => match c.args.toList with
      | [m, k] => (aDelete C h c.argTypes (g m) (g k)).map fun h' => (.tup [], h')
      | _ => none
    | .builtin .clear => match c.args.toList with
      | [m] => (aClear C h c.argTypes (g m)).map fun h' => (.tup [], h')
      | _ => none
    | .value f => match g f with
      | .fn (.func fid) xs ys => C.extE fid (xs ++ c.args.toList.map g ++ ys) h
      | _ => none
    | _ => none
  | _ => none

theorem args2 {c : Call} {s x : Operand} (h : c.args.toList = [s, x]) (A : Operand → Value) : c.args.map A = #[A s, A x] := by
  have : c.args = #[s, x] := by rw [← Array.toArray_toList (xs := c.args), h]
  rw [this]; simp
theorem args1 {c : Call} {s : Operand} (h : c.args.toList = [s]) (A : Operand → Value) : c.args.map A = #[A s] := by
  have : c.args = #[s] := by rw [← Array.toArray_toList (xs := c.args), h]
  rw [this]; simp

theorem effA_sound (ok : C.OK) (R : Rel C.W0 ρ h W) {o : Oper} {g : Operand → AV} {A : Operand → Value} {v : AV} {h' : AH} (hg : ∀ x ∈ o.op.operands.toList, VRel ρ (g x) (A x)) (hv : qu9 C o g h = some (v, h')) :
    EffOK C ρ W (execOp A o) v h' := by
  have val : ∀ (s : Sem Value), (∃ V W' ρ', s.run C.P W = .ok V W' ∧ ρ <+: ρ' ∧ Rel C.W0 ρ' h' W' ∧ VRel ρ' v V) → EffOK C ρ W (s >>= fun x => pure (Next.value x)) v h' := by
    intro s ⟨V, W', ρ', h1, h2, h3, h4⟩
    exact ⟨V, .value V, W', ρ', by simp [h1], .inl rfl, h2, h3, h4⟩
  have skp : ∀ (s : Sem Unit), v = .undef → (∃ W', s.run C.P W = .ok () W' ∧ Rel C.W0 ρ h' W') → EffOK C ρ W (s >>= fun _ => pure Next.skip) v h' := by
    intro s e ⟨W', h1, h2⟩
    subst e
    exact ⟨undef, .skip, W', ρ, by simp [h1], .inr ⟨rfl, rfl⟩, List.prefix_refl _, h2, undef_rel ρ⟩
  unfold qu9 at hv
  split at hv
  all_goals first | (rename_i heq; rw [heq] at hg) | skip
  · rename_i t
    rw [show execOp A o = ((Instr.alloc t true (.tuple #[])) >>= fun x => pure (Next.value x)) from by simp only [execOp, heq]]
    exact val (Instr.alloc t true (.tuple #[])) (run_aAlloc ok R hv)
  · rename_i t x
    rw [show execOp A o = ((Instr.box t (A x)) >>= fun x => pure (Next.value x)) from by simp only [execOp, heq]]
    exact val (Instr.box t (A x)) (run_aBox R (hg _ (by simp [Op.operands])) hv)
  · rename_i t len ps
    have hpp := VsRel.map_ops (ρ := ρ) (g := g) (A := A) (ps.toList.map (·.2)) (fun x hx => hg x (by simpa [Op.operands] using hx))
    obtain ⟨V, W', ρ', h1, h2, h3, h4⟩ := run_aBuildSlice (parts' := ps.map fun p => (p.1, A p.2)) ok R hv (by simp [Function.comp_def]) (by simpa [Function.comp_def] using hpp)
    exact ⟨V, .value V, W', ρ', by simp [execOp, heq, h1], .inl rfl, h2, h3, h4⟩
  · rename_i t a x
    simp only [Option.map_eq_some_iff, Prod.mk.injEq] at hv
    obtain ⟨h2, hs, rfl, rfl⟩ := hv
    rw [show execOp A o = ((Instr.storeAt t (A a) (A x)) >>= fun _ => pure Next.skip) from by simp only [execOp, heq]]
    exact skp (Instr.storeAt t (A a) (A x)) rfl (run_aStoreOp ok R (hg a (by simp [Op.operands])) (hg x (by simp [Op.operands])) hs)
  · rename_i s d x
    rw [show execOp A o = ((convert s d (A x)) >>= fun x => pure (Next.value x)) from by simp only [execOp, heq]]
    exact val (convert s d (A x)) (run_aConvE ok R hv (hg _ (by simp [Op.operands])))
  · rename_i t r
    rw [show execOp A o = ((Instr.makeMap t (r.map A)) >>= fun x => pure (Next.value x)) from by simp only [execOp, heq]]
    exact val (Instr.makeMap t (r.map A)) (run_aMakeMap R hv (optRel_map r fun y hy => hg y (by subst hy; simp [Op.operands])))
  · rename_i t l c
    rw [show execOp A o = ((Instr.makeSlice t (A l) (A c)) >>= fun x => pure (Next.value x)) from by simp only [execOp, heq]]
    exact val (Instr.makeSlice t (A l) (A c)) (run_aMakeSlice ok R hv (hg _ (by simp [Op.operands])) (hg _ (by simp [Op.operands])))
  · rename_i t m k x
    simp only [Option.map_eq_some_iff, Prod.mk.injEq] at hv
    obtain ⟨h2, hs, rfl, rfl⟩ := hv
    rw [show execOp A o = ((Instr.mapUpdate t (A m) (A k) (A x)) >>= fun _ => pure Next.skip) from by simp only [execOp, heq]]
    exact skp (Instr.mapUpdate t (A m) (A k) (A x)) rfl (run_aMapSet ok R hs (hg m (by simp [Op.operands])) (hg k (by simp [Op.operands])) (hg x (by simp [Op.operands])))
  · rename_i t m k x
    simp only [Option.map_eq_some_iff, Prod.mk.injEq] at hv
    obtain ⟨h2, hs, rfl, rfl⟩ := hv
    rw [show execOp A o = ((Instr.mapUpdate t (A m) (A k) (A x)) >>= fun _ => pure Next.skip) from by simp only [execOp, heq]]
    exact skp (Instr.mapUpdate t (A m) (A k) (A x)) rfl (run_aMapSet ok R hs (hg m (by simp [Op.operands])) (hg k (by simp [Op.operands])) (hg x (by simp [Op.operands])))
  · rename_i t x
    rw [show execOp A o = ((Instr.range t (A x)) >>= fun x => pure (Next.value x)) from by simp only [execOp, heq]]
    exact val (Instr.range t (A x)) (run_aRange ok R hv (hg _ (by simp [Op.operands])))
  · rename_i it
    obtain ⟨V, W', h1, h2, h3⟩ := run_aNextS (C := C) (ty := o.type) R hv (hg it (by simp [Op.operands]))
    rw [show execOp A o = ((Instr.next (A it) true o.type) >>= fun x => pure (Next.value x)) from by simp only [execOp, heq]]
    exact val (Instr.next (A it) true o.type) ⟨V, W', ρ, h1, List.prefix_refl _, h2, h3⟩
  · rename_i c
    have hops : ∀ x ∈ c.args.toList, VRel ρ (g x) (A x) := fun x hx => hg x (by simp [Op.operands, Call.operands]; right; simpa using hx)
    split at hv
    · rename_i hcal
      split at hv
      · rename_i s x hargs
        have := run_aAppend (ty := o.type) ok R hv (hops s (by rw [hargs]; simp)) (hops x (by rw [hargs]; simp))
        rw [show execOp A o = ((Builtin.append_ c.argTypes o.type #[A s, A x]) >>= fun x => pure (Next.value x)) from by simp only [execOp, heq, resolve, hcal, pure_bind, invoke, builtin, args2 hargs A]]
        exact val (Builtin.append_ c.argTypes o.type #[A s, A x]) this
      · simp at hv
    · rename_i hcal
      split at hv
      · rename_i d x hargs
        obtain ⟨V, W', h1, h2, h3⟩ := run_aCopy (ty := o.type) ok R hv (hops d (by rw [hargs]; simp)) (hops x (by rw [hargs]; simp))
        rw [show execOp A o = ((Builtin.copy_ c.argTypes o.type #[A d, A x]) >>= fun x => pure (Next.value x)) from by simp only [execOp, heq, resolve, hcal, pure_bind, invoke, builtin, args2 hargs A]]
        exact val (Builtin.copy_ c.argTypes o.type #[A d, A x]) ⟨V, W', ρ, h1, List.prefix_refl _, h2, h3⟩
      · simp at hv
    · rename_i hcal
      split at hv
      · rename_i p n hargs
        obtain ⟨V, W', h1, h2, h3⟩ := run_aUnsafeStr ok R hv (hops p (by rw [hargs]; simp)) (hops n (by rw [hargs]; simp)) o.type
        rw [show execOp A o = ((Builtin.unsafeString_ c.argTypes o.type #[A p, A n]) >>= fun x => pure (Next.value x)) from by simp only [execOp, heq, resolve, hcal, pure_bind, invoke, builtin, args2 hargs A]]
        exact val (Builtin.unsafeString_ c.argTypes o.type #[A p, A n]) ⟨V, W', ρ, h1, List.prefix_refl _, h2, h3⟩
      · simp at hv
    · rename_i hcal
      split at hv
      · rename_i m k hargs
        simp only [Option.map_eq_some_iff, Prod.mk.injEq] at hv
        obtain ⟨h2, hs, rfl, rfl⟩ := hv
        obtain ⟨W', h1, hR⟩ := run_aDelete (ty := o.type) ok R hs (hops m (by rw [hargs]; simp)) (hops k (by rw [hargs]; simp))
        rw [show execOp A o = ((Builtin.delete_ c.argTypes o.type #[A m, A k]) >>= fun x => pure (Next.value x)) from by simp only [execOp, heq, resolve, hcal, pure_bind, invoke, builtin, args2 hargs A]]
        exact val (Builtin.delete_ c.argTypes o.type #[A m, A k]) ⟨_, W', ρ, h1, List.prefix_refl _, hR, undef_rel ρ⟩
      · simp at hv
    · rename_i hcal
      split at hv
      · rename_i m hargs
        simp only [Option.map_eq_some_iff, Prod.mk.injEq] at hv
        obtain ⟨h2, hs, rfl, rfl⟩ := hv
        obtain ⟨W', h1, hR⟩ := run_aClear (ty := o.type) ok R hs (hops m (by rw [hargs]; simp))
        rw [show execOp A o = ((Builtin.clear_ c.argTypes o.type #[A m]) >>= fun x => pure (Next.value x)) from by simp only [execOp, heq, resolve, hcal, pure_bind, invoke, builtin, args1 hargs A]]
        exact val (Builtin.clear_ c.argTypes o.type #[A m]) ⟨_, W', ρ, h1, List.prefix_refl _, hR, undef_rel ρ⟩
      · simp at hv
    · rename_i fo hcal
      split at hv
      · rename_i fid xs ys hgf
        have hargs := VsRel.map_ops (ρ := ρ) (g := g) (A := A) c.args.toList hops
        have hfo := hg fo (by simp [Op.operands, Call.operands, hcal])
        rw [hgf] at hfo
        simp only [VRel] at hfo
        obtain ⟨us, ws, hA, h1, h2⟩ := hfo
        obtain ⟨V, W', ρ', hV, hp, hR, hr⟩ := ok.extE _ _ _ _ _ hv ρ (us ++ c.args.map A ++ ws) W R (by
          simp only [Array.toList_append]
          have := (h1.append (show VsRel ρ (c.args.toList.map g) (c.args.map A).toList by simpa using hargs)).append h2
          simpa using this)
        rw [Array.append_assoc] at hV
        exact ⟨V, .value V, W', ρ', by simp [execOp, heq, resolve, hcal, hA, Deferred.ofValue, invoke, hV], .inl rfl, hp, hR, hr⟩
      · simp at hv
    · simp at hv
  · simp at hv

/-! ### calls -/
/-- What a call comes to. -/
def CR (C : Cx) (ρ : Rho) (K Kp : AV → AH → Prop) : Ending → World → Prop
  | .returned V, W' => ∃ ρ' v h', ρ <+: ρ' ∧ Rel C.W0 ρ' h' W' ∧ VRel ρ' v V ∧ K v h'
  | .panicked chain, W' => ∃ ρ' v V h', chain = [{ v := V, recovered := false }] ∧ ρ <+: ρ' ∧ Rel C.W0 ρ' h' W' ∧ VRel ρ' v V ∧ Kp v h'
  | .outgrown, _ => False

/-- A call at arguments, in whatever world lies behind the heap. -/
def ACall (C : Cx) (f : FuncId) (args : List AV) (h : AH) (K Kp : AV → AH → Prop) : Prop :=
  ∀ ρ W (vs : Array Value), Rel C.W0 ρ h W → VsRel ρ args vs.toList → Calls C.P f vs W (CR C ρ K Kp)

theorem CR.mono {K Kp K' Kp' : AV → AH → Prop} (h1 : ∀ v h, K v h → K' v h) (h2 : ∀ v h, Kp v h → Kp' v h) : ∀ e w, CR C ρ K Kp e w → CR C ρ K' Kp' e w
  | .returned V, w, h => by
    obtain ⟨ρ', v, h', a, b, c, d⟩ := h
    exact ⟨ρ', v, h', a, b, c, h1 _ _ d⟩
  | .panicked chain, w, h => by
    obtain ⟨ρ', v, V, h', e, a, b, c, d⟩ := h
    exact ⟨ρ', v, V, h', e, a, b, c, h2 _ _ d⟩
  | .outgrown, w, h => h

theorem ACall.mono {f : FuncId} {args : List AV} {K Kp K' Kp' : AV → AH → Prop} (hc : ACall C f args h K Kp) (h1 : ∀ v h, K v h → K' v h) (h2 : ∀ v h, Kp v h → Kp' v h) : ACall C f args h K' Kp' :=
  fun ρ W vs R hv => (hc ρ W vs R hv).mono (CR.mono h1 h2)

/-- The function that a call names, and all its arguments. -/
def qv9 (C : Cx) (o : Oper) (g : Operand → AV) : Option (FuncId × List AV) :=
  match o.op with
  | .call c => match c.callee with
    | .value f => match g f with
      | .fn (.func fid) xs ys => some (fid, xs ++ c.args.toList.map g ++ ys)
      | _ => none
    | .invoke r name => match g r with
      | .ifc t v => (C.meth t name).map fun f => (f, v :: c.args.toList.map g)
      | _ => none
    | _ => none
  | _ => none

theorem callee_sound (ok : C.OK) {o : Oper} {g : Operand → AV} {A : Operand → Value} {f : FuncId} {args : List AV} (hg : ∀ x ∈ o.op.operands.toList, VRel ρ (g x) (A x)) (hc : qv9 C o g = some (f, args))
    (hf : (C.fn f).isSome = true) (w : World) : ∃ vs, (execOp A o).run C.P w = .ok (.enter f vs) w ∧ VsRel ρ args vs.toList := by
  obtain ⟨F, hF⟩ := Option.isSome_iff_exists.1 hf
  obtain ⟨hPF, hbody, hname⟩ := ok.fn f F hF
  have hcall : ∀ vs : Array Value, (callFunc f vs).run C.P w = .ok (.enter f vs) w := by
    intro vs
    have hb : F.body ≠ none := by intro e; rw [e] at hbody; simp at hbody
    have hn : F.name ≠ "runtime.NumGoroutine" := by simpa using hname
    simp [callFunc, hPF, hn, hb]
  unfold qv9 at hc
  split at hc
  · rename_i c heq
    rw [heq] at hg
    have hops : VsRel ρ (c.args.toList.map g) (c.args.map A).toList := by
      have := VsRel.map_ops (ρ := ρ) (g := g) (A := A) c.args.toList (fun x hx => hg x (by simp [Op.operands, Call.operands]; right; simpa using hx))
      simpa using this
    split at hc
    · rename_i fo hcal
      have hfo := hg fo (by simp [Op.operands, Call.operands, hcal])
      split at hc
      · rename_i fid xs ys hgf
        simp at hc
        obtain ⟨rfl, rfl⟩ := hc
        rw [hgf] at hfo
        simp only [VRel] at hfo
        obtain ⟨us, ws, hA, h1, h2⟩ := hfo
        refine ⟨us ++ c.args.map A ++ ws, ?_, ?_⟩
        · simp [execOp, heq, resolve, hcal, hA, Deferred.ofValue, invoke, hcall]
        · simp only [Array.toList_append]
          have := (h1.append hops).append h2
          simpa using this
      · simp at hc
    · rename_i r name hcal
      have hfo := hg r (by simp [Op.operands, Call.operands, hcal])
      split at hc
      · rename_i t v hgf
        simp only [Option.map_eq_some_iff, Prod.mk.injEq] at hc
        obtain ⟨f', hm, rfl, rfl⟩ := hc
        rw [hgf] at hfo
        simp only [VRel] at hfo
        obtain ⟨V, hA, hV⟩ := hfo
        refine ⟨#[V] ++ c.args.map A, ?_, ?_⟩
        · have hmm := ok.meth t name f' hm V w
          have e0 : (#[Value.iface t V] ++ Array.map A c.args)[0]? = some (.iface t V) := by simp [Array.getElem?_append]
          have e1 : (Array.map A c.args).extract 0 c.args.size = Array.map A c.args := by
            rw [show c.args.size = (Array.map A c.args).size by simp]; simp
          simp [execOp, heq, resolve, hcal, hA, invoke, callMethod, e0, e1, hmm, hcall]
        · simp only [VsRel]
          exact ⟨V, (c.args.map A).toList, by simp, hV, hops⟩
      · simp at hc
    · simp at hc
  · simp at hc

/-! ### a map's next entry: any -/
def nextM (h : AH) (it : AV) (K : AV → AH → Prop) : Prop :=
  match it with
  | .ptr (some (.new k 0)) => match h.get k with
    | some (.miter none _ _ _) => K (.tup [.bool false]) h
    | some (.miter (some m) since seen last) => match h.get m with
      | some (.map es clock) =>
        ¬ ((!seen.isEmpty && !es.isEmpty && es.all fun e => decide (e.born ≥ last)) = true) ∧
        ((es.filter fun e => !seen.contains e.born && decide (e.born < since)) = [] → K (.tup [.bool false]) h) ∧
        ∀ e ∈ es, seen.contains e.born = false → K (.tup [.bool true, e.key, e.val]) (h.set k (.miter (some m) since (seen ++ [e.born]) clock))
      | _ => False
    | _ => False
  | _ => False

/-- One operation: what must hold of its outcome. -/
def opWp (C : Cx) (o : Oper) (g : Operand → AV) (h : AH) (K Kp : AV → AH → Prop) : Prop :=
  match zb9 C o g h with
  | some v => K v h
  | none => match qu9 C o g h with
    | some r => K r.1 r.2
    | none => match qv9 C o g with
      | some r => (C.fn r.1).isSome = true ∧ ACall C r.1 r.2 h K Kp
      | none => match o.op with
        | .panic x => match g x with
          | .ifc t v => Kp (.ifc t v) h
          | _ => False
        | .next it false => nextM h (g it) K
        | _ => False

theorem EntsRel.mem {as : List AEnt} : ∀ {es : List MapEntry}, EntsRel ρ as es → ∀ a ∈ as, ∃ e ∈ es, EntRel ρ a e := by
  induction as with
  | nil => intro es h a ha; simp at ha
  | cons b as ih =>
    intro es h a ha
    simp only [EntsRel] at h
    obtain ⟨e, es', rfl, h1, h2⟩ := h
    simp only [List.mem_cons] at ha
    rcases ha with rfl | ha
    · exact ⟨e, by simp, h1⟩
    · obtain ⟨e', he', hr⟩ := ih h2 a ha
      exact ⟨e', by simp [he'], hr⟩

theorem EntsRel.mem' {as : List AEnt} : ∀ {es : List MapEntry}, EntsRel ρ as es → ∀ e ∈ es, ∃ a ∈ as, EntRel ρ a e := by
  induction as with
  | nil => intro es h e he; simp only [EntsRel] at h; subst h; simp at he
  | cons b as ih =>
    intro es h e he
    simp only [EntsRel] at h
    obtain ⟨e0, es', rfl, h1, h2⟩ := h
    simp only [List.mem_cons] at he
    rcases he with rfl | he
    · exact ⟨b, by simp, h1⟩
    · obtain ⟨a, ha, hr⟩ := ih h2 e he
      exact ⟨a, by simp [ha], hr⟩

/-- The machine's step at a map's iterator, its choice told. -/
theorem run_nextMap (P : Program) (W : World) (b mb since last clock : Nat) (seen : Array Nat) (es : Array MapEntry) (ty : TypeId) (hi : W.heap[b]? = some (.mapIter (some mb) since seen last)) (hm : W.heap[mb]? = some (.map es clock))
    (hbad : (!seen.isEmpty && !es.isEmpty && es.all (fun e => decide (e.born ≥ last))) = false) :
    ∃ W', (W' = W ∨ W' = W.drew) ∧
      (((Instr.next (.pointer (some ⟨b, 0, none⟩)) false ty).run P W = .ok (.tuple #[.bool false]) W' ∧ ((es.filter fun e => !seen.contains e.born).filter (fun e => decide (e.born < since))).isEmpty = true) ∨
       ∃ e ∈ es.toList, seen.contains e.born = false ∧ (Instr.next (.pointer (some ⟨b, 0, none⟩)) false ty).run P W =
          .ok (.tuple #[.bool true, e.key, e.val]) { W' with heap := W'.heap.setIfInBounds b (.mapIter (some mb) since (seen.push e.born) clock) }) := by
  let left := es.filter fun e => !seen.contains e.born
  let old := left.filter (fun e => decide (e.born < since))
  let new := left.filter (fun e => decide (e.born ≥ since))
  let cand : Array (Option MapEntry) := (if old.isEmpty then #[none] else #[]) ++ (old ++ new).map some
  have hpos : 0 < cand.size := by
    show 0 < ((if old.isEmpty then #[none] else #[]) ++ (old ++ new).map some : Array (Option MapEntry)).size
    cases ho : old.isEmpty with
    | true => simp; omega
    | false =>
      have : old.size ≠ 0 := by intro h; simp [Array.isEmpty, h] at ho
      simp; omega
  obtain ⟨j, W', hj, hch, hW'⟩ : ∃ j W', j < cand.size ∧ (choose (.mapNext cand.size)).run P W = .ok j W' ∧ (W' = W ∨ W' = W.drew) := by
    by_cases hf : cand.size ≤ 1
    · exact ⟨0, W, hpos, by simp [Question.forced, hf], .inl rfl⟩
    · exact ⟨(Question.mapNext cand.size).cut (W.tape W.drawn (.mapNext cand.size)), W.drew, Nat.mod_lt _ hpos, by simp [Question.forced, hf], .inr rfl⟩
  have hrun : (Instr.next (.pointer (some ⟨b, 0, none⟩)) false ty).run P W = ((match cand[j]? with
      | some (some e) => do
        setObj b (.mapIter (some mb) since (seen.push e.born) clock)
        pure (.tuple #[.bool true, e.key, e.val])
      | some none => pure (.tuple #[.bool false])
      | none => stuck "Next: no such candidate" : Sem Value)).run P W' := by
    have g1 : (getObj b).run P W = .ok (.mapIter (some mb) since seen last) W := by simp [getObj, Sem.run, hi]
    have g2 : (getObj mb).run P W = .ok (.map es clock) W := by simp [getObj, Sem.run, hm]
    simp only [Instr.next, Sem.run_bind, g1, Result.andThen_ok, g2, hbad, Bool.false_eq_true, if_false]
    show ((choose (.mapNext cand.size)).run P W).andThen _ = _
    rw [hch]
    rfl
  have hset : ∀ o, (setObj b o).run P W' = .ok () { W' with heap := W'.heap.setIfInBounds b o } := by
    intro o
    have : W'.heap[b]? = some (.mapIter (some mb) since seen last) := by rcases hW' with rfl | rfl <;> exact hi
    simp [setObj, Sem.run, this]
  refine ⟨W', hW', ?_⟩
  have hget : cand[j]? = some cand[j] := by simp [hj]
  cases hc : cand[j] with
  | none =>
    left
    refine ⟨by rw [hrun, hget, hc]; rfl, ?_⟩
    show old.isEmpty = true
    cases ho : old.isEmpty with
    | true => rfl
    | false =>
      exfalso
      have hmem : (none : Option MapEntry) ∈ cand := by rw [← hc]; exact Array.getElem_mem hj
      simp [cand, ho] at hmem
  | some e =>
    right
    have hmem : some e ∈ cand := by rw [← hc]; exact Array.getElem_mem hj
    have hl : e ∈ left := by
      have h2 : e ∈ old ∨ e ∈ new := by
        cases ho : old.isEmpty <;> simp [cand, ho] at hmem <;> exact hmem
      rcases h2 with h2 | h2
      · exact (Array.mem_filter.1 h2).1
      · exact (Array.mem_filter.1 h2).1
    have hl2 := Array.mem_filter.1 hl
    refine ⟨e, by simpa using hl2.1, by simpa using hl2.2, ?_⟩
    rw [hrun, hget, hc]
    simp only [Sem.run_bind, hset, Result.andThen_ok, Sem.run_pure]

theorem nextM_sound (ok : C.OK) (R : Rel C.W0 ρ h W) {it : AV} {I : Value} {K : AV → AH → Prop} (hi : VRel ρ it I) (hn : nextM h it K) (ty : TypeId) :
    ∃ V W' v h', (Instr.next I false ty).run C.P W = .ok V W' ∧ Rel C.W0 ρ h' W' ∧ VRel ρ v V ∧ K v h' := by
  unfold nextM at hn
  split at hn
  case h_2 => exact hn.elim
  rename_i k
  split at hn
  case h_3 => exact hn.elim
  · rename_i a b c hg
    simp only [VRel] at hi
    obtain ⟨A, ⟨r, hr, rfl⟩, rfl⟩ := hi
    obtain ⟨r', hr', hb0, hs0, m', hob, hm⟩ := R.live k _ hg
    rw [hr] at hr'; cases hr'
    simp only at hm
    subst hm
    rw [hs0]
    exact ⟨.tuple #[.bool false], W, _, _, by simp [Instr.next, getObj, Sem.run, hob], R, by simp only [VRel]; exact ⟨_, rfl, by simp [VsRel, VRel]⟩, hn⟩
  · rename_i m since seen last hg
    split at hn
    case h_2 => exact hn.elim
    rename_i es clock hgm
    obtain ⟨hbad, hend, hstep⟩ := hn
    simp only [VRel] at hi
    obtain ⟨A, ⟨r, hr, rfl⟩, rfl⟩ := hi
    obtain ⟨r', hr', hb0, hs0, m', hob, r2, hr2, rfl⟩ := R.live k _ hg
    rw [hr] at hr'; cases hr'
    obtain ⟨es', hrun, hrel, hbk⟩ := run_getMap R hgm hr2
    have hall : es'.all (fun e => decide (e.born ≥ last)) = es.all fun e => decide (e.born ≥ last) := by
      rw [Bool.eq_iff_iff, Array.all_eq_true_iff_forall_mem, List.all_eq_true]
      constructor
      · intro hA a ha
        obtain ⟨e, he, hr3⟩ := hrel.mem a ha
        have := hA e (by simpa using he)
        rw [hr3.2.2]; exact this
      · intro hA e he
        obtain ⟨a, ha, hr3⟩ := hrel.mem' e (by simpa using he)
        have := hA a ha
        rw [hr3.2.2] at this; exact this
    have hemp : es'.isEmpty = es.isEmpty := by
      have := hrel.length
      simp only [Array.length_toList] at this
      cases es with
      | nil => simp at this; simp [this]
      | cons x xs => simp at this; simp [Array.isEmpty, this]
    have hbad' : (!seen.toArray.isEmpty && !es'.isEmpty && es'.all (fun e => decide (e.born ≥ last))) = false := by
      rw [hall, hemp]
      have : seen.toArray.isEmpty = seen.isEmpty := by cases seen <;> simp
      rw [this]
      simpa using hbad
    obtain ⟨W', hW', hcase⟩ := run_nextMap C.P W r.b r2.b since last clock seen.toArray es' ty hob hbk hbad'
    have R' : Rel C.W0 ρ h W' := by
      rcases hW' with rfl | rfl
      · exact R
      · exact R.drew
    rw [hs0]
    rcases hcase with ⟨hr3, hold⟩ | ⟨e, he, hns, hr3⟩
    · refine ⟨_, W', _, h, hr3, R', ?_, hend ?_⟩
      · simp only [VRel]; exact ⟨_, rfl, by simp [VsRel, VRel]⟩
      · rw [List.filter_eq_nil_iff]
        intro a ha
        obtain ⟨e, he, hr4⟩ := hrel.mem a ha
        intro hcon
        simp only [Bool.and_eq_true] at hcon
        have hmem : e ∈ (es'.filter fun e => !seen.toArray.contains e.born).filter (fun e => decide (e.born < since)) := by
          rw [Array.mem_filter, Array.mem_filter]
          refine ⟨⟨by simpa using he, ?_⟩, ?_⟩
          · rw [← hr4.2.2]; simpa using hcon.1
          · rw [← hr4.2.2]; exact hcon.2
        have : ((es'.filter fun e => !seen.toArray.contains e.born).filter (fun e => decide (e.born < since))) = #[] := by simpa using hold
        rw [this] at hmem
        simp at hmem
    · obtain ⟨a, ha, hr4⟩ := hrel.mem' e he
      have hlt : r.b < W'.heap.size := by
        have hob' : W'.heap[r.b]? = some (.mapIter (some r2.b) since seen.toArray last) := by rcases hW' with rfl | rfl <;> exact hob
        rcases Nat.lt_or_ge r.b W'.heap.size with h | h
        · exact h
        · rw [Array.getElem?_eq_none h] at hob'; cases hob'
      refine ⟨_, _, _, _, hr3, R'.set hg (.miter (some m) since (seen ++ [a.born]) clock) hr (fun j hj => by simp only [Array.getElem?_setIfInBounds]; rw [if_neg (by omega)]) (by simp) rfl rfl rfl
        ⟨hs0, some r2.b, by simp [hlt, hr4.2.2], r2, hr2, rfl⟩, ?_, hstep a ha ?_⟩
      · simp only [VRel]; exact ⟨_, rfl, by simp only [VsRel]; exact ⟨_, _, rfl, by simp [VRel], _, _, rfl, hr4.1, _, _, rfl, hr4.2.1, rfl⟩⟩
      · rw [hr4.2.2]; simpa using hns

theorem opWp_sound (ok : C.OK) (R : Rel C.W0 ρ h W) {o : Oper} {g : Operand → AV} {a : Act} {K Kp : AV → AH → Prop} {next : Act → World → Prop} {Q : Exit → Act → World → Prop}
    (hg : ∀ x ∈ o.op.operands.toList, VRel ρ (g x) (a.eval x)) (hw : opWp C o g h K Kp)
    (hN : ∀ ρ' v h' V W', ρ <+: ρ' → Rel C.W0 ρ' h' W' → VRel ρ' v V → K v h' → next (a.put o.dst V) W')
    (hP : ∀ ρ' v h' V W', ρ <+: ρ' → Rel C.W0 ρ' h' W' → VRel ρ' v V → Kp v h' → Q (.panic [{ v := V, recovered := false }]) a W') : o.wp C.P a W next Q := by
  unfold opWp at hw
  split at hw
  · rename_i v hv
    obtain ⟨V, hrun, hr⟩ := evalN_sound ok R hg hv
    rw [Oper.wp, hrun, Oper.upon_value]
    exact hN ρ v h V W (List.prefix_refl _) R hr hw
  · split at hw
    · rename_i r hr0
      obtain ⟨v, h'⟩ := r
      obtain ⟨V, N, W', ρ', hrun, hNN, hp, hR, hr⟩ := effA_sound ok R hg hr0
      rw [Oper.wp, hrun]
      rcases hNN with rfl | ⟨rfl, rfl⟩
      · rw [Oper.upon_value]; exact hN ρ' v h' V W' hp hR hr hw
      · rw [Oper.upon_skip]; exact hN ρ' v h' undef W' hp hR hr hw
    · split at hw
      · rename_i r hc
        obtain ⟨f, args⟩ := r
        obtain ⟨hf, hcall⟩ := hw
        obtain ⟨vs, hrun, hargs⟩ := callee_sound ok hg hc hf W
        rw [Oper.wp, hrun, Oper.upon_enter]
        refine (hcall ρ W vs R hargs).mono fun e w' he => ?_
        cases e with
        | returned V =>
          obtain ⟨ρ', v, h', hp, hR, hr, hk⟩ := he
          exact hN ρ' v h' V w' hp hR hr hk
        | panicked chain =>
          obtain ⟨ρ', v, V, h', rfl, hp, hR, hr, hk⟩ := he
          exact hP ρ' v h' V w' hp hR hr hk
        | outgrown => exact he.elim
      · split at hw
        · rename_i x heq
          rw [heq] at hg
          have hx := hg x (by simp [Op.operands])
          split at hw
          · rename_i t v hgx
            rw [hgx] at hx
            have hx' := hx
            simp only [VRel] at hx
            obtain ⟨V, hA, _⟩ := hx
            rw [hA] at hx'
            have hrun : (execOp a.eval o).run C.P W = .halt (.panic (.iface t V)) W := by
              simp [execOp, heq, Instr.panic, hA, Result.andThen]
            rw [Oper.wp, hrun, Oper.upon_panic]
            exact hP ρ _ h _ W (List.prefix_refl _) R hx' hw
          · exact hw.elim
        · rename_i it heq
          rw [heq] at hg
          obtain ⟨V, W', v, h', hrun, hR, hr, hk⟩ := nextM_sound ok R (hg it (by simp [Op.operands])) hw o.type
          have hrun' : (execOp a.eval o).run C.P W = .ok (.value V) W' := by simp [execOp, heq, hrun]
          rw [Oper.wp, hrun', Oper.upon_value]
          exact hN ρ v h' V W' (List.prefix_refl _) hR hr hk
        · exact hw.elim

end
end Go.Proofs.Ytgcoipcnhmkeaaa.Ax
end

/-! AX, part 15: code: what must hold of an abstract run, and that the machine then does it -/
section
set_option linter.unusedVariables false
set_option linter.unusedSimpArgs false
namespace Go.Proofs.Ytgcoipcnhmkeaaa.Ax
open Go.RowKit

inductive Ex where
  | normal
  | exit (id : Nat)
  | ret
  | panic (v : AV)

abbrev Post := Ex → Env → AH → Prop

section
variable {C : Cx} {ρ : Rho} {h : AH} {W : World}

/-- The machine's way out of a piece of code, told by the abstract one. -/
def QR (C : Cx) (ρ0 : Rho) (Q : Post) : Exit → Act → World → Prop
  | .normal, a, W => ∃ ρ e h, Q .normal e h ∧ ρ0 <+: ρ ∧ Rel C.W0 ρ h W ∧ ERel ρ e a
  | .exit id, a, W => ∃ ρ e h, Q (.exit id) e h ∧ ρ0 <+: ρ ∧ Rel C.W0 ρ h W ∧ ERel ρ e a
  | .ret, a, W => ∃ ρ e h, Q .ret e h ∧ ρ0 <+: ρ ∧ Rel C.W0 ρ h W ∧ ERel ρ e a
  | .panic chain, a, W => ∃ ρ h v V, chain = [{ v := V, recovered := false }] ∧ Q (.panic v) [] h ∧ ρ0 <+: ρ ∧ Rel C.W0 ρ h W ∧ a.defers = [] ∧ VRel ρ v V
  | .goto _, _, _ => False
  | .outgrown, _, _ => False

def Exec (C : Cx) (c : Code) (e : Env) (h : AH) (Q : Post) : Prop :=
  ∀ ρ a W, Rel C.W0 ρ h W → ERel ρ e a → c.wp C.P (QR C ρ Q) a W

theorem QR.mono {ρ ρ' : Rho} (hp : ρ <+: ρ') {Q Q' : Post} (hq : ∀ x e h, Q x e h → Q' x e h) : ∀ x a W, QR C ρ' Q x a W → QR C ρ Q' x a W := by
  intro x a W hx
  cases x with
  | normal => obtain ⟨ρ2, e, h, h1, h2, h3⟩ := hx; exact ⟨ρ2, e, h, hq _ _ _ h1, hp.trans h2, h3⟩
  | exit id => obtain ⟨ρ2, e, h, h1, h2, h3⟩ := hx; exact ⟨ρ2, e, h, hq _ _ _ h1, hp.trans h2, h3⟩
  | ret => obtain ⟨ρ2, e, h, h1, h2, h3⟩ := hx; exact ⟨ρ2, e, h, hq _ _ _ h1, hp.trans h2, h3⟩
  | panic chain => obtain ⟨ρ2, h, v, V, h0, h1, h2, h3⟩ := hx; exact ⟨ρ2, h, v, V, h0, hq _ _ _ h1, hp.trans h2, h3⟩
  | goto l => exact hx.elim
  | outgrown => exact hx.elim

theorem Exec.mono {c : Code} {e : Env} {Q Q' : Post} (hx : Exec C c e h Q) (hq : ∀ x e h, Q x e h → Q' x e h) : Exec C c e h Q' :=
  fun ρ a W R E => wp_mono (hx ρ a W R E) (QR.mono (List.prefix_refl _) hq)

theorem exec_skip {e : Env} {Q : Post} (hq : Q .normal e h) : Exec C .skip e h Q :=
  fun ρ _ _ R E => wp_skip ⟨ρ, e, h, hq, List.prefix_refl _, R, E⟩
theorem exec_label {l : Nat} {e : Env} {Q : Post} (hq : Q .normal e h) : Exec C (.label l) e h Q :=
  fun ρ _ _ R E => wp_label ⟨ρ, e, h, hq, List.prefix_refl _, R, E⟩
theorem exec_exit {id : Nat} {e : Env} {Q : Post} (hq : Q (.exit id) e h) : Exec C (.exit id) e h Q :=
  fun ρ _ _ R E => wp_exit ⟨ρ, e, h, hq, List.prefix_refl _, R, E⟩
theorem exec_ret {e : Env} {Q : Post} (hq : Q .ret e h) : Exec C .ret e h Q :=
  fun ρ _ _ R E => wp_ret ⟨ρ, e, h, hq, List.prefix_refl _, R, E⟩

/-- Behind a first piece: the second, where the first ended normally. -/
def thenQ (K : Env → AH → Prop) (Q : Post) : Post
  | .normal, e, h => K e h
  | x, e, h => Q x e h

theorem exec_seq {x y : Code} {e : Env} {Q : Post} (hx : Exec C x e h (thenQ (fun e h => Exec C y e h Q) Q)) : Exec C (.seq x y) e h Q := by
  intro ρ a W R E
  refine wp_seq (wp_mono (hx ρ a W R E) fun ex a' W' hq => ?_)
  cases ex with
  | normal =>
    obtain ⟨ρ2, e2, h2, h3, h4, h5, h6⟩ := hq
    exact wp_mono (h3 ρ2 a' W' h5 h6) (QR.mono h4 fun _ _ _ h => h)
  | exit id => exact hq
  | ret => exact hq
  | panic chain => exact hq
  | goto l => exact hq
  | outgrown => exact hq

theorem exec_cond {c : Operand} {x y : Code} {e : Env} {Q : Post} {b : Bool} (hc : ev e c = .bool b) (hx : b = true → Exec C x e h Q) (hy : b = false → Exec C y e h Q) : Exec C (.cond c x y) e h Q := by
  intro ρ a W R E
  have hr := ev_rel E c
  rw [hc] at hr
  exact wp_cond_split (bool_rel hr) (fun hb => hx hb ρ a W R E) (fun hb => hy hb ρ a W R E)

def blockQ (id : Nat) (Q : Post) : Post
  | .exit id', e, h => if id' = id then Q .normal e h else Q (.exit id') e h
  | x, e, h => Q x e h

theorem exec_block {id : Nat} {c : Code} {e : Env} {Q : Post} (hx : Exec C c e h (blockQ id Q)) : Exec C (.block id c) e h Q := by
  intro ρ a W R E
  refine wp_block (wp_mono (hx ρ a W R E) fun ex a' W' hq => ?_)
  cases ex with
  | normal => exact hq
  | exit id' =>
    obtain ⟨ρ2, e2, h2, h3, h4⟩ := hq
    simp only [blockQ] at h3
    simp only [Exit.inBlock]
    split
    · rename_i e0; rw [if_pos e0] at h3; exact ⟨ρ2, e2, h2, h3, h4⟩
    · rename_i e0; rw [if_neg e0] at h3; exact ⟨ρ2, e2, h2, h3, h4⟩
  | ret => exact hq
  | panic chain => exact hq
  | goto l => exact hq
  | outgrown => exact hq

theorem least (p : Nat → Prop) (hx : ∃ n, p n) : ∃ n, p n ∧ ∀ m, p m → n ≤ m := by
  obtain ⟨n, hn⟩ := hx
  induction n using Nat.strongRecOn with
  | _ n ih =>
    by_cases h : ∃ m, m < n ∧ p m
    · obtain ⟨m, hm, hp⟩ := h; exact ih m hm hp
    · exact ⟨n, hn, fun m hm => by
        rcases Nat.lt_or_ge m n with h1 | h1
        · exact absurd ⟨m, h1, hm⟩ h
        · exact h1⟩

/-- A loop: what holds at each round's head, and what each round lowers. -/
theorem exec_loop {c : Code} {e : Env} {Q : Post} (I : Env → AH → Prop) (μ : Env → AH → Nat) (h0 : I e h)
    (round : ∀ e h, I e h → Exec C c e h (thenQ (fun e' h' => I e' h' ∧ μ e' h' < μ e h) Q)) : Exec C (.loop c) e h Q := by
  classical
  intro ρ a W R E
  -- the machine's own invariant and measure
  let J : Act → World → Nat → Prop := fun a W n => ∃ ρ' e' h', ρ <+: ρ' ∧ I e' h' ∧ Rel C.W0 ρ' h' W ∧ ERel ρ' e' a ∧ μ e' h' = n
  let M : Act → World → Nat := fun a W => if hx : ∃ n, J a W n then Classical.choose (least _ hx) else 0
  refine wp_loop (fun a W => ∃ n, J a W n) M ⟨_, ρ, e, h, List.prefix_refl _, h0, R, E, rfl⟩ fun a1 W1 hx => ?_
  have hM : M a1 W1 = Classical.choose (least _ hx) := by simp only [M, dif_pos hx]
  obtain ⟨ρ1, e1, h1, hp, hI, R1, E1, hn⟩ := (Classical.choose_spec (least _ hx)).1
  refine wp_mono (round e1 h1 hI ρ1 a1 W1 R1 E1) fun ex a' W' hq => ?_
  cases ex with
  | normal =>
    obtain ⟨ρ2, e2, h2, ⟨h3, h3'⟩, h4, h5, h6⟩ := hq
    have hx' : ∃ n, J a' W' n := ⟨_, ρ2, e2, h2, hp.trans h4, h3, h5, h6, rfl⟩
    refine ⟨hx', ?_⟩
    have hM' : M a' W' = Classical.choose (least _ hx') := by simp only [M, dif_pos hx']
    have : Classical.choose (least _ hx') ≤ μ e2 h2 := (Classical.choose_spec (least _ hx')).2 _ ⟨ρ2, e2, h2, hp.trans h4, h3, h5, h6, rfl⟩
    omega
  | exit id => exact QR.mono hp (fun _ _ _ h => h) _ _ _ hq
  | ret => exact QR.mono hp (fun _ _ _ h => h) _ _ _ hq
  | panic chain => exact QR.mono hp (fun _ _ _ h => h) _ _ _ hq
  | goto l => exact hq.elim
  | outgrown => exact hq.elim

/-! ### regions in the text's order -/
/-- May an operation be done? -/
def qw9 (ops : Array Oper) (e : Env) (o : Oper) : Option Bool :=
  match o.guard with
  | none => some true
  | some (j, want) => match (ops[j]?).bind (·.dst) with
    | none => some false
    | some d => match e.getD d .undef with
      | .bool b => some (b == want)
      | .tup _ => some false
      | _ => none

theorem wanted_rel {ops : Array Oper} {e : Env} {a : Act} (E : ERel ρ e a) {o : Oper} {b : Bool} (hw : qw9 ops e o = some b) : Region.wanted o (yielded ops a.tmps) = b := by
  unfold qw9 at hw
  unfold Region.wanted
  split at hw
  · rename_i hg; rw [hg]; simpa using hw
  · rename_i j want hg
    rw [hg]
    simp only [yielded]
    split at hw
    · rename_i hd; rw [hd]; simp at hw; subst hw; rfl
    · rename_i d hd
      rw [hd]
      simp only [Option.bind_some]
      have hr := E.vals.getD d
      have hget : a.tmps[d]? = a.tmps.toList[d]? := by simp
      rw [List.getD_eq_getElem?_getD, List.getD_eq_getElem?_getD] at hr
      rw [List.getD_eq_getElem?_getD] at hw
      rw [hget]
      cases hl : e[d]? with
      | none =>
        have : a.tmps.toList[d]? = none := by rw [List.getElem?_eq_none_iff] at hl ⊢; rw [E.vals.length]; exact hl
        rw [hl] at hw
        simp at hw
        rw [this]; simp [← hw]
      | some v =>
        obtain ⟨V, hV, hVr⟩ := E.vals.get d v hl
        rw [hl] at hw
        rw [hV]
        simp only [Option.getD_some] at hw
        split at hw
        · rename_i b'
          simp at hw; subst hw
          rw [bool_rel hVr]
          simp
        · simp at hw; subst hw
          simp only [VRel] at hVr
          obtain ⟨vs, rfl, _⟩ := hVr
          rfl
        · simp at hw

/-- The operations of a region, one behind the other. -/
def opsWp (C : Cx) (ops : Array Oper) (Q : Post) : List Oper → Env → AH → Prop
  | [], e, h => Q .normal e h
  | o :: rest, e, h =>
    match qw9 ops e o with
    | some true => opWp C o (ev e) h (fun v h' => opsWp C ops Q rest (za9 e o.dst v) h') (fun v h' => Q (.panic v) [] h')
    | some false => opsWp C ops Q rest (za9 e o.dst .undef) h
    | none => False

theorem opsWp_sound (ok : C.OK) {ops : Array Oper} {Q : Post} : ∀ (l : List Oper) (ρ0 ρ : Rho) (e : Env) (h : AH) (a : Act) (W : World), ρ0 <+: ρ → Rel C.W0 ρ h W → ERel ρ e a → opsWp C ops Q l e h →
    wpList C.P ops (QR C ρ0 Q) l a W
  | [], ρ0, ρ, e, h, a, W, hp, R, E, hw => ⟨ρ, e, h, hw, hp, R, E⟩
  | o :: rest, ρ0, ρ, e, h, a, W, hp, R, E, hw => by
    simp only [opsWp] at hw
    simp only [wpList]
    split at hw
    · rename_i hwant
      rw [wanted_rel E hwant]
      simp only [if_true]
      left
      refine opWp_sound ok R (fun x _ => ev_rel E x) hw (fun ρ' v h' V W' hp' R' hr hk => ?_) (fun ρ' v h' V W' hp' R' hr hk => ?_)
      · exact opsWp_sound ok rest ρ0 ρ' _ h' _ W' (hp.trans hp') R' (put_rel (E.mono hp') o.dst hr) hk
      · exact ⟨ρ', h', v, V, rfl, hk, hp.trans hp', R', E.defers, hr⟩
    · rename_i hwant
      rw [wanted_rel E hwant]
      simp only [Bool.false_eq_true, if_false]
      exact opsWp_sound ok rest ρ0 ρ _ h _ W hp R (put_rel E o.dst (undef_rel ρ)) hw
    · exact hw.elim

theorem exec_region (ok : C.OK) {id : Nat} {ops : Array Oper} {e : Env} {Q : Post} (hw : opsWp C ops Q ops.toList e h) : Exec C (.region id ops false) e h Q :=
  fun ρ a W R E => wp_region_list (opsWp_sound ok ops.toList ρ ρ e h a W (List.prefix_refl _) R E hw)

/-! ### functions -/
def zq9 (C : Cx) (e : Env) (h : AH) : ResultVar → Option AV
  | .tmp t => some (e.getD t .undef)
  | .cell a t => match e.getD a .undef with
    | .ptr (some a) => aLoad C h t a
    | _ => none

def resultsA (C : Cx) (F : Func) (e : Env) (h : AH) : Option AV :=
  match F.results.toList.mapM (zq9 C e h) with
  | some [v] => some v
  | some vs => some (.tup vs)
  | none => none

def funQ (C : Cx) (F : Func) (K Kp : AV → AH → Prop) : Post
  | .normal, e, h => ∃ v, resultsA C F e h = some v ∧ K v h
  | .ret, e, h => ∃ v, resultsA C F e h = some v ∧ K v h
  | .panic v, _, h => Kp v h
  | .exit _, _, _ => False

def enterE (F : Func) (args : List AV) : Env := args ++ List.replicate (F.ntmps - args.length) .undef

def resRun (tmps : Array Value) : ResultVar → Sem Value
  | .tmp t => pure (tmps.getD t undef)
  | .cell a t => do loadVar t (← asAddr (tmps.getD a undef))

theorem results_eq (F : Func) (tmps : Array Value) : results F tmps = (do let vs ← F.results.mapM (resRun tmps); pure (if h : vs.size = 1 then vs[0] else .tuple vs)) := by
  unfold results
  have : (fun x => match x with | .tmp t => pure (tmps.getD t undef) | .cell a t => do loadVar t (← asAddr (tmps.getD a undef)) : ResultVar → Sem Value) = resRun tmps := by
    funext r; cases r <;> rfl
  rw [← this]
  rfl

theorem results_rel (ok : C.OK) (R : Rel C.W0 ρ h W) {F : Func} {e : Env} {a : Act} (E : ERel ρ e a) {v : AV} (hv : resultsA C F e h = some v) : ∃ V, (results F a.tmps).run C.P W = .ok V W ∧ VRel ρ v V := by
  have one : ∀ (r : ResultVar) (v : AV), zq9 C e h r = some v → ∃ V, (resRun a.tmps r).run C.P W = .ok V W ∧ VRel ρ v V := by
    intro r v hr
    cases r with
    | tmp t =>
      simp [zq9] at hr; subst hr
      have := ev_rel E (.tmp t)
      exact ⟨_, rfl, by simpa [ev, Act.eval] using this⟩
    | cell a' t =>
      simp only [zq9] at hr
      split at hr
      · rename_i aa ha
        have := ev_rel E (.tmp a')
        simp only [ev, Act.eval, ha, VRel] at this
        obtain ⟨A, hA, hAe⟩ := this
        obtain ⟨V, hV, hVr⟩ := run_aLoad ok R hA hr
        exact ⟨V, by simp [resRun, hAe, asAddr, hV], hVr⟩
      · simp at hr
  have many : ∀ (l : List ResultVar) (vs : List AV), l.mapM (zq9 C e h) = some vs → ∃ Vs, (l.mapM (resRun a.tmps)).run C.P W = .ok Vs W ∧ VsRel ρ vs Vs := by
    intro l
    induction l with
    | nil => intro vs h; simp at h; subst h; exact ⟨[], by simp, by simp [VsRel]⟩
    | cons r l ih =>
      intro vs hvs
      simp only [List.mapM_cons, bind, Option.bind_eq_some_iff] at hvs
      obtain ⟨y, hy, ys, hys, hp⟩ := hvs
      simp [pure] at hp; subst hp
      obtain ⟨V, hV, hVr⟩ := one r y hy
      obtain ⟨Vs, hVs, hVsr⟩ := ih ys hys
      refine ⟨V :: Vs, ?_, by simp only [VsRel]; exact ⟨V, Vs, rfl, hVr, hVsr⟩⟩
      simp [List.mapM_cons, hV, hVs]
  have whole : ∀ vs, F.results.toList.mapM (zq9 C e h) = some vs → ∃ Vs : Array Value, VsRel ρ vs Vs.toList ∧ (results F a.tmps).run C.P W = .ok (if h : Vs.size = 1 then Vs[0] else .tuple Vs) W := by
    intro vs hvs
    obtain ⟨Vs, hrun, hr⟩ := many _ vs hvs
    refine ⟨Vs.toArray, by simpa using hr, ?_⟩
    rw [results_eq, Array.mapM_eq_mapM_toList]
    simp only [Sem.run_bind, Sem.run_map, hrun, Result.andThen_ok, Sem.run_pure]
  unfold resultsA at hv
  split at hv
  · rename_i v0 hvs
    simp at hv; subst hv
    obtain ⟨Vs, hr, hrun⟩ := whole _ hvs
    have hl := hr.length
    simp at hl
    rw [hrun, dif_pos hl]
    refine ⟨_, rfl, ?_⟩
    obtain ⟨V, hV, hVr⟩ := hr.get 0 v0 (by simp)
    have : Vs[0]? = some V := by simpa using hV
    rw [Array.getElem?_eq_getElem (by omega)] at this
    simp at this
    rw [this]; exact hVr
  · rename_i vs hne hvs
    simp at hv; subst hv
    obtain ⟨Vs, hr, hrun⟩ := whole _ hvs
    have hl := hr.length
    simp at hl
    have h1 : ¬ Vs.size = 1 := by
      intro e1
      rw [hl] at e1
      obtain ⟨x, hx⟩ := List.length_eq_one_iff.1 e1
      exact hne x hx
    rw [hrun, dif_neg h1]
    exact ⟨_, rfl, by simp only [VRel]; exact ⟨Vs, rfl, hr⟩⟩
  · simp at hv

/-- A call, by the function's body. -/
theorem acall_body (ok : C.OK) {f : FuncId} {F : Func} {c : Code} {args : List AV} {K Kp : AV → AH → Prop} (hf : C.fn f = some F) (hb : F.body = some c) (hx : Exec C c (enterE F args) h (funQ C F K Kp)) : ACall C f args h K Kp := by
  intro ρ W vs R hv
  obtain ⟨hPF, _, _⟩ := ok.fn f F hf
  have hl := hv.length
  simp only [Array.length_toList] at hl
  refine calls_of_wp hPF hb (wp_mono (hx ρ _ W R ⟨rfl, ?_⟩) fun ex a' W' hq => ?_)
  · simp only [Array.toList_append, Array.toList_replicate, enterE]
    rw [hl]
    exact hv.append (VsRel.replicate (undef_rel ρ) _)
  · cases ex with
    | normal =>
      obtain ⟨ρ2, e2, h2, ⟨v, hv2, hk⟩, hp, R2, E2⟩ := hq
      obtain ⟨V, hV, hVr⟩ := results_rel ok R2 E2 hv2
      exact ⟨E2.defers, V, hV, ρ2, v, h2, hp, R2, hVr, hk⟩
    | ret =>
      obtain ⟨ρ2, e2, h2, ⟨v, hv2, hk⟩, hp, R2, E2⟩ := hq
      obtain ⟨V, hV, hVr⟩ := results_rel ok R2 E2 hv2
      exact ⟨E2.defers, V, hV, ρ2, v, h2, hp, R2, hVr, hk⟩
    | exit id => obtain ⟨ρ2, e2, h2, h3, _⟩ := hq; exact h3.elim
    | panic chain =>
      obtain ⟨ρ2, h2, v, V, h0, hk, hp, R2, E2, hVr⟩ := hq
      exact ⟨E2, ρ2, v, V, h2, h0, hp, R2, hVr, hk⟩
    | goto l => exact hq.elim
    | outgrown => exact hq.elim

end
end Go.Proofs.Ytgcoipcnhmkeaaa.Ax
end
