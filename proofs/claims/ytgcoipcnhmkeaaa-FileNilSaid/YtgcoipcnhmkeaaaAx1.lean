/- AX, part 1: abstract values, the abstract heap, what relates them to the machine's world. -/
import Derived.Below
import Derived.WalkKit
set_option linter.unusedVariables false
set_option linter.unusedSimpArgs false
namespace Go.Proofs.Ytgcoipcnhmkeaaa.Ax
open Go.RowKit

/-- An address: in memory that was there (base), or in an own block. -/
inductive AA where
  | base (b off : Nat)
  | new (k off : Nat)
  deriving DecidableEq, Inhabited

def AA.add : AA → Nat → AA
  | .base b o, n => .base b (o + n)
  | .new k o, n => .new k (o + n)

inductive AV where
  | bad
  | bool (b : Bool)
  | int (k : IntKind) (n : Int)
  | str (s : List UInt8)
  | ptr (a : Option AA)
  | sl (a : Option AA) (len cap : Nat) (gr : Option Nat)
  | map (r : Option Nat)
  | fn (f : Fn) (first captured : List AV)
  | nilfn
  | ifc (t : TypeId) (v : AV)
  | nilifc
  | agg (cs : List AV)
  | tup (vs : List AV)
  deriving Inhabited

abbrev AV.undef : AV := .tup []
abbrev AV.i (n : Int) : AV := .int .i64 n

/-- Of each own block: the machine's block, the first cell's place, the machine's block's cells.
('sl .. gr': 'none': the capacity is 'cap'; 'some n': it is 'cap' or more, an element has n cells.) -/
structure RE where
  b : Nat
  s : Nat
  z : Nat
abbrev Rho := List RE

def ARel (ρ : Rho) : AA → Addr → Prop
  | .base b o, A => A = ⟨b, o, none⟩
  | .new k o, A => ∃ r, ρ[k]? = some r ∧ A = ⟨r.b, r.s + o, none⟩

mutual
def VRel (ρ : Rho) : AV → Value → Prop
  | .bad, _ => True
  | .bool b, V => V = .bool b
  | .int k n, V => V = .int k n
  | .str l, V => V = .string ⟨l.toArray⟩
  | .ptr none, V => V = .pointer none
  | .ptr (some a), V => ∃ A, ARel ρ a A ∧ V = .pointer (some A)
  | .sl none len cap gr, V => len = 0 ∧ cap = 0 ∧ gr = none ∧ V = .slice none 0 0
  | .sl (some (.base b o)) len cap gr, V => gr = none ∧ V = .slice (some ⟨b, o, none⟩) len cap
  | .sl (some (.new k o)) len cap gr, V => ∃ r A cap', ρ[k]? = some r ∧ V = .slice (some A) len cap' ∧ len ≤ cap' ∧ cap ≤ cap' ∧ (gr = none → cap' = cap) ∧
      (A = ⟨r.b, r.s + o, none⟩ ∧ (∀ n, gr = some n → r.s + o + cap' * n ≤ r.z) ∨ cap' = 0)
  | .map none, V => V = .map none
  | .map (some k), V => ∃ r, ρ[k]? = some r ∧ V = .map (some r.b)
  | .fn f xs ys, V => ∃ vs ws, V = .func f vs ws ∧ VsRel ρ xs vs.toList ∧ VsRel ρ ys ws.toList
  | .nilfn, V => V = .nilFunc
  | .ifc t v, V => ∃ x, V = .iface t x ∧ VRel ρ v x
  | .nilifc, V => V = .nilIface
  | .agg cs, V => ∃ vs, V = .agg vs ∧ VsRel ρ cs vs.toList
  | .tup cs, V => ∃ vs, V = .tuple vs ∧ VsRel ρ cs vs.toList
def VsRel (ρ : Rho) : List AV → List Value → Prop
  | [], l => l = []
  | v :: vs, l => ∃ x xs, l = x :: xs ∧ VRel ρ v x ∧ VsRel ρ vs xs
end

theorem get?_prefix {ρ ρ' : Rho} (h : ρ <+: ρ') {k : Nat} {r : RE} (hr : ρ[k]? = some r) : ρ'[k]? = some r := by
  obtain ⟨t, rfl⟩ := h
  rw [List.getElem?_append_left (List.getElem?_eq_some_iff.1 hr).1]
  exact hr

theorem ARel.mono {ρ ρ' : Rho} (h : ρ <+: ρ') {a : AA} {A : Addr} (ha : ARel ρ a A) : ARel ρ' a A := by
  cases a with
  | base b o => exact ha
  | new k o => obtain ⟨r, hr, hA⟩ := ha; exact ⟨r, get?_prefix h hr, hA⟩

mutual
theorem VRel.mono {ρ ρ' : Rho} (h : ρ <+: ρ') : (v : AV) → (V : Value) → VRel ρ v V → VRel ρ' v V
  | .bad, _, _ => by simp [VRel]
  | .bool b, V, hv => by simpa [VRel] using hv
  | .int k n, V, hv => by simpa [VRel] using hv
  | .str l, V, hv => by simpa [VRel] using hv
  | .ptr none, V, hv => by simpa [VRel] using hv
  | .ptr (some a), V, hv => by
    simp only [VRel] at hv ⊢
    obtain ⟨A, hA, hV⟩ := hv
    exact ⟨A, hA.mono h, hV⟩
  | .sl none len cap gr, V, hv => by simpa [VRel] using hv
  | .sl (some (.base b o)) len cap gr, V, hv => by simpa [VRel] using hv
  | .sl (some (.new k o)) len cap gr, V, hv => by
    simp only [VRel] at hv ⊢
    obtain ⟨r, A, cap', hr, hrest⟩ := hv
    exact ⟨r, A, cap', get?_prefix h hr, hrest⟩
  | .map none, V, hv => by simpa [VRel] using hv
  | .map (some k), V, hv => by
    simp only [VRel] at hv ⊢
    obtain ⟨r, hr, hV⟩ := hv
    exact ⟨r, get?_prefix h hr, hV⟩
  | .fn f xs ys, V, hv => by
    simp only [VRel] at hv ⊢
    obtain ⟨vs, ws, hV, h1, h2⟩ := hv
    exact ⟨vs, ws, hV, VsRel.mono h xs _ h1, VsRel.mono h ys _ h2⟩
  | .nilfn, V, hv => by simpa [VRel] using hv
  | .ifc t v, V, hv => by
    simp only [VRel] at hv ⊢
    obtain ⟨x, hV, hx⟩ := hv
    exact ⟨x, hV, VRel.mono h v x hx⟩
  | .nilifc, V, hv => by simpa [VRel] using hv
  | .agg cs, V, hv => by
    simp only [VRel] at hv ⊢
    obtain ⟨vs, hV, h1⟩ := hv
    exact ⟨vs, hV, VsRel.mono h cs _ h1⟩
  | .tup cs, V, hv => by
    simp only [VRel] at hv ⊢
    obtain ⟨vs, hV, h1⟩ := hv
    exact ⟨vs, hV, VsRel.mono h cs _ h1⟩
theorem VsRel.mono {ρ ρ' : Rho} (h : ρ <+: ρ') : (vs : List AV) → (l : List Value) → VsRel ρ vs l → VsRel ρ' vs l
  | [], l, hl => by simpa [VsRel] using hl
  | v :: vs, l, hl => by
    simp only [VsRel] at hl ⊢
    obtain ⟨x, xs, rfl, h1, h2⟩ := hl
    exact ⟨x, xs, rfl, VRel.mono h v x h1, VsRel.mono h vs xs h2⟩
end

theorem VsRel.length {ρ : Rho} : {vs : List AV} → {l : List Value} → VsRel ρ vs l → l.length = vs.length
  | [], l, h => by simp only [VsRel] at h; simp [h]
  | v :: vs, l, h => by
    simp only [VsRel] at h
    obtain ⟨x, xs, rfl, _, h2⟩ := h
    simp [VsRel.length h2]

theorem VsRel.get {ρ : Rho} : {vs : List AV} → {l : List Value} → VsRel ρ vs l → ∀ (i : Nat) (v : AV), vs[i]? = some v → ∃ V, l[i]? = some V ∧ VRel ρ v V
  | [], l, h, i, v, hi => by simp at hi
  | w :: vs, l, h, i, v, hi => by
    simp only [VsRel] at h
    obtain ⟨x, xs, rfl, h1, h2⟩ := h
    cases i with
    | zero => simp at hi; subst hi; exact ⟨x, by simp, h1⟩
    | succ i => simp at hi; simpa using VsRel.get h2 i v hi

theorem VsRel.of_get {ρ : Rho} : {vs : List AV} → {l : List Value} → l.length = vs.length → (∀ (i : Nat) (v : AV), vs[i]? = some v → ∃ V, l[i]? = some V ∧ VRel ρ v V) → VsRel ρ vs l
  | [], l, hl, _ => by simp only [VsRel]; simpa using hl
  | w :: vs, l, hl, h => by
    cases l with
    | nil => simp at hl
    | cons x xs =>
      simp only [VsRel]
      refine ⟨x, xs, rfl, ?_, VsRel.of_get (by simpa using hl) fun i v hi => ?_⟩
      · obtain ⟨V, hV, hr⟩ := h 0 w (by simp)
        simp at hV; subst hV; exact hr
      · simpa using h (i + 1) v (by simpa using hi)

theorem VsRel.append {ρ : Rho} : {vs ws : List AV} → {l m : List Value} → VsRel ρ vs l → VsRel ρ ws m → VsRel ρ (vs ++ ws) (l ++ m)
  | [], ws, l, m, h1, h2 => by simp only [VsRel] at h1; subst h1; simpa using h2
  | v :: vs, ws, l, m, h1, h2 => by
    simp only [VsRel] at h1
    obtain ⟨x, xs, rfl, h3, h4⟩ := h1
    simp only [List.cons_append, VsRel]
    exact ⟨x, xs ++ m, rfl, h3, h4.append h2⟩

theorem VsRel.take {ρ : Rho} {vs : List AV} {l : List Value} (h : VsRel ρ vs l) (n : Nat) : VsRel ρ (vs.take n) (l.take n) := by
  have hl := h.length
  refine VsRel.of_get (by simp [hl]) fun i v hi => ?_
  rw [List.getElem?_take] at hi ⊢
  split at hi
  · rename_i hlt
    simp only [hlt, if_true]
    exact h.get i v hi
  · simp at hi

theorem VsRel.drop {ρ : Rho} {vs : List AV} {l : List Value} (h : VsRel ρ vs l) (n : Nat) : VsRel ρ (vs.drop n) (l.drop n) := by
  have hl := h.length
  refine VsRel.of_get (by simp [hl]) fun i v hi => ?_
  rw [List.getElem?_drop] at hi ⊢
  exact h.get _ v hi

theorem VsRel.set {ρ : Rho} {vs : List AV} {l : List Value} (h : VsRel ρ vs l) (n : Nat) {v : AV} {V : Value} (hv : VRel ρ v V) : VsRel ρ (vs.set n v) (l.set n V) := by
  have hl := h.length
  refine VsRel.of_get (by simp [hl]) fun i w hi => ?_
  rw [List.getElem?_set] at hi ⊢
  rw [hl]
  split at hi
  · rename_i e
    split at hi
    · rename_i hlt
      simp only [e, if_true]
      simp at hi; subst hi
      exact ⟨V, by simp [← e, hlt], hv⟩
    · simp at hi
  · rename_i e
    simp only [e, if_false]
    exact h.get i w hi

theorem VsRel.replicate {ρ : Rho} {v : AV} {V : Value} (h : VRel ρ v V) (n : Nat) : VsRel ρ (List.replicate n v) (List.replicate n V) := by
  refine VsRel.of_get (by simp) fun i w hi => ?_
  rw [List.getElem?_replicate] at hi ⊢
  split at hi
  · rename_i hlt
    simp at hi; subst hi
    exact ⟨V, by simp [hlt], h⟩
  · simp at hi

/-- A value that is read out of memory that was there, or a constant. -/
def ofVn : Nat → Value → AV
  | 0, _ => .bad
  | _ + 1, .bool b => .bool b
  | _ + 1, .int k n => .int k n
  | _ + 1, .string s => .str s.data.toList
  | _ + 1, .pointer none => .ptr none
  | _ + 1, .pointer (some ⟨b, o, none⟩) => .ptr (some (.base b o))
  | _ + 1, .slice none 0 0 => .sl none 0 0 none
  | _ + 1, .slice (some ⟨b, o, none⟩) len cap => .sl (some (.base b o)) len cap none
  | _ + 1, .map none => .map none
  | _ + 1, .nilFunc => .nilfn
  | _ + 1, .nilIface => .nilifc
  | n + 1, .iface t v => .ifc t (ofVn n v)
  | n + 1, .agg cs => .agg (cs.toList.map (ofVn n))
  | n + 1, .tuple cs => .tup (cs.toList.map (ofVn n))
  | n + 1, .func f xs ys => .fn f (xs.toList.map (ofVn n)) (ys.toList.map (ofVn n))
  | _ + 1, _ => .bad

theorem VsRel.map {ρ : Rho} {f : Value → AV} (l : List Value) (h : ∀ x ∈ l, VRel ρ (f x) x) : VsRel ρ (l.map f) l := by
  refine VsRel.of_get (by simp) fun i v hi => ?_
  simp only [List.getElem?_map, Option.map_eq_some_iff] at hi
  obtain ⟨x, hx, rfl⟩ := hi
  exact ⟨x, hx, h x (List.mem_of_getElem? hx)⟩

theorem ofVn_rel (ρ : Rho) : (n : Nat) → (v : Value) → VRel ρ (ofVn n v) v
  | 0, _ => by simp [ofVn, VRel]
  | n + 1, v => by
    cases v with
    | pointer a =>
      cases a with
      | none => simp [ofVn, VRel]
      | some a =>
        obtain ⟨b, o, sp⟩ := a
        cases sp <;> simp [ofVn, VRel, ARel]
    | slice a len cap =>
      cases a with
      | none => cases len <;> cases cap <;> simp [ofVn, VRel]
      | some a =>
        obtain ⟨b, o, sp⟩ := a
        cases sp <;> simp [ofVn, VRel]
    | map r => cases r <;> simp [ofVn, VRel]
    | iface t v => simp only [ofVn, VRel]; exact ⟨v, rfl, ofVn_rel ρ n v⟩
    | agg cs => simp only [ofVn, VRel]; exact ⟨cs, rfl, VsRel.map _ fun x _ => ofVn_rel ρ n x⟩
    | tuple cs => simp only [ofVn, VRel]; exact ⟨cs, rfl, VsRel.map _ fun x _ => ofVn_rel ρ n x⟩
    | func f xs ys => simp only [ofVn, VRel]; exact ⟨xs, ys, rfl, VsRel.map _ fun x _ => ofVn_rel ρ n x, VsRel.map _ fun x _ => ofVn_rel ρ n x⟩
    | string s => simp [ofVn, VRel]
    | _ => simp [ofVn, VRel]

abbrev ofV : Value → AV := ofVn 4
theorem ofV_rel (ρ : Rho) (v : Value) : VRel ρ (ofV v) v := ofVn_rel ρ 4 v

/-! ### a store of own blocks -/

inductive Tr (α : Type) where
  | leaf
  | node (v : Option α) (l r : Tr α)

def Tr.get {α : Type} : Tr α → Nat → Option α
  | .leaf, _ => none
  | .node v _ _, 0 => v
  | .node _ l r, n + 1 => if n % 2 = 0 then l.get (n / 2) else r.get (n / 2)

/-- 'fuel' more than the number of digits. -/
def Tr.setF {α : Type} : Nat → Tr α → Nat → Option α → Tr α
  | 0, t, _, _ => t
  | _ + 1, .leaf, 0, x => .node x .leaf .leaf
  | f + 1, .leaf, n + 1, x => if n % 2 = 0 then .node none (Tr.setF f .leaf (n / 2) x) .leaf else .node none .leaf (Tr.setF f .leaf (n / 2) x)
  | _ + 1, .node _ l r, 0, x => .node x l r
  | f + 1, .node v l r, n + 1, x => if n % 2 = 0 then .node v (Tr.setF f l (n / 2) x) r else .node v l (Tr.setF f r (n / 2) x)
def Tr.set {α : Type} (t : Tr α) (n : Nat) (x : Option α) : Tr α := Tr.setF (n + 1) t n x

theorem Tr.get_leaf {α : Type} (n : Nat) : (Tr.leaf : Tr α).get n = none := by simp [Tr.get]

theorem Tr.get_setF {α : Type} (x : Option α) : ∀ (f : Nat) (t : Tr α) (n m : Nat), n < f → (Tr.setF f t n x).get m = if m = n then x else t.get m := by
  intro f
  induction f with
  | zero => intro t n m h; omega
  | succ f ih =>
    intro t n m h
    cases t with
    | leaf =>
      cases n with
      | zero => cases m with
        | zero => simp [Tr.setF, Tr.get]
        | succ m => simp [Tr.setF, Tr.get]
      | succ n =>
        cases m with
        | zero => by_cases e : n % 2 = 0 <;> simp [Tr.setF, Tr.get, e]
        | succ m =>
          by_cases e : n % 2 = 0
          · simp only [Tr.setF, e, if_true, Tr.get]
            by_cases e' : m % 2 = 0
            · simp only [e', if_true]
              rw [ih _ _ _ (by omega)]
              by_cases hm : m = n
              · subst hm; simp
              · have : ¬ m / 2 = n / 2 := by omega
                simp [hm, this, Tr.get]
            · have hm : ¬ m = n := fun hh => e' (hh ▸ e)
              simp [e', hm]
          · simp only [Tr.setF, e, if_false, Tr.get]
            by_cases e' : m % 2 = 0
            · have hm : ¬ m = n := fun hh => e (hh ▸ e')
              simp [e', hm]
            · simp only [e', if_false]
              rw [ih _ _ _ (by omega)]
              by_cases hm : m = n
              · subst hm; simp
              · have : ¬ m / 2 = n / 2 := by omega
                simp [hm, this, Tr.get]
    | node v l r =>
      cases n with
      | zero => cases m with
        | zero => simp [Tr.setF, Tr.get]
        | succ m => simp [Tr.setF, Tr.get]
      | succ n =>
        cases m with
        | zero => by_cases e : n % 2 = 0 <;> simp [Tr.setF, Tr.get, e]
        | succ m =>
          by_cases e : n % 2 = 0
          · simp only [Tr.setF, e, if_true, Tr.get]
            by_cases e' : m % 2 = 0
            · simp only [e', if_true]
              rw [ih _ _ _ (by omega)]
              by_cases hm : m = n
              · subst hm; simp
              · have : ¬ m / 2 = n / 2 := by omega
                simp [hm, this]
            · have hm : ¬ m = n := fun hh => e' (hh ▸ e)
              simp [e', hm]
          · simp only [Tr.setF, e, if_false, Tr.get]
            by_cases e' : m % 2 = 0
            · have hm : ¬ m = n := fun hh => e (hh ▸ e')
              simp [e', hm]
            · simp only [e', if_false]
              rw [ih _ _ _ (by omega)]
              by_cases hm : m = n
              · subst hm; simp
              · have : ¬ m / 2 = n / 2 := by omega
                simp [hm, this]

theorem Tr.get_set {α : Type} (t : Tr α) (n m : Nat) (x : Option α) : (t.set n x).get m = if m = n then x else t.get m :=
  Tr.get_setF x (n + 1) t n m (by omega)

structure AEnt where
  key : AV
  val : AV
  born : Nat

inductive AObj where
  | cells (cs : List AV) (t : TypeId)
  | map (es : List AEnt) (clock : Nat)
  | siter (s : List UInt8) (pos : Nat)
  | miter (m : Option Nat) (since : Nat) (seen : List Nat) (last : Nat)

structure AH where
  mem : Tr AObj
  next : Nat

def AH.get (h : AH) (k : Nat) : Option AObj := h.mem.get k
def AH.set (h : AH) (k : Nat) (o : AObj) : AH := { h with mem := h.mem.set k (some o) }
def AH.kill (h : AH) (k : Nat) : AH := { h with mem := h.mem.set k none }
def AH.push (h : AH) (o : AObj) : AH := { mem := h.mem.set h.next (some o), next := h.next + 1 }
def AH.empty : AH := { mem := .leaf, next := 0 }

@[simp] theorem AH.get_set (h : AH) (k m : Nat) (o : AObj) : (h.set k o).get m = if m = k then some o else h.get m := by simp [AH.get, AH.set, Tr.get_set]
@[simp] theorem AH.get_kill (h : AH) (k m : Nat) : (h.kill k).get m = if m = k then none else h.get m := by simp [AH.get, AH.kill, Tr.get_set]
@[simp] theorem AH.get_push (h : AH) (m : Nat) (o : AObj) : (h.push o).get m = if m = h.next then some o else h.get m := by simp [AH.get, AH.push, Tr.get_set]
@[simp] theorem AH.get_empty (m : Nat) : AH.empty.get m = none := by simp [AH.get, AH.empty, Tr.get]
@[simp] theorem AH.next_set (h : AH) (k : Nat) (o : AObj) : (h.set k o).next = h.next := rfl
@[simp] theorem AH.next_kill (h : AH) (k : Nat) : (h.kill k).next = h.next := rfl
@[simp] theorem AH.next_push (h : AH) (o : AObj) : (h.push o).next = h.next + 1 := rfl
@[simp] theorem AH.next_empty : AH.empty.next = 0 := rfl

/-! ### the world behind an abstract heap -/

def EntRel (ρ : Rho) (a : AEnt) (e : MapEntry) : Prop := VRel ρ a.key e.key ∧ VRel ρ a.val e.val ∧ a.born = e.born

def EntsRel (ρ : Rho) : List AEnt → List MapEntry → Prop
  | [], l => l = []
  | a :: as, l => ∃ e es, l = e :: es ∧ EntRel ρ a e ∧ EntsRel ρ as es

def ORel (W : World) (ρ : Rho) (r : RE) : AObj → Prop
  | .cells cs t => ∃ c fr, W.heap[r.b]? = some (.cells c t fr) ∧ c.size = r.z ∧ r.s + cs.length ≤ r.z ∧
      (∀ (i : Nat) (v : AV), cs[i]? = some v → ∃ V, c[r.s + i]? = some V ∧ VRel ρ v V) ∧ (∀ j, j < c.size → ¬ (fr.1 ≤ j ∧ j < fr.2))
  | .map es clock => ∃ es', W.heap[r.b]? = some (.map es' clock) ∧ EntsRel ρ es es'.toList
  | .siter s pos => r.s = 0 ∧ W.heap[r.b]? = some (.stringIter ⟨s.toArray⟩ pos)
  | .miter m since seen last => r.s = 0 ∧ ∃ m', W.heap[r.b]? = some (.mapIter m' since seen.toArray last) ∧ (match m with | none => m' = none | some k => ∃ r', ρ[k]? = some r' ∧ m' = some r'.b)

structure Rel (W0 : World) (ρ : Rho) (h : AH) (W : World) : Prop where
  below : Below W0.heap.size W0 W
  len : ρ.length = h.next
  live : ∀ k o, h.get k = some o → ∃ r, ρ[k]? = some r ∧ W0.heap.size ≤ r.b ∧ ORel W ρ r o
  inj : ∀ k k' o o' r r', h.get k = some o → h.get k' = some o' → ρ[k]? = some r → ρ[k']? = some r' → r.b = r'.b → k = k'
  home : ∀ r ∈ ρ, r.s = 0

theorem EntsRel.mono {ρ ρ' : Rho} (h : ρ <+: ρ') : {as : List AEnt} → {es : List MapEntry} → EntsRel ρ as es → EntsRel ρ' as es
  | [], es, he => by simpa [EntsRel] using he
  | a :: as, es, he => by
    simp only [EntsRel] at he ⊢
    obtain ⟨e, es, rfl, ⟨h1, h2, h3⟩, h4⟩ := he
    exact ⟨e, es, rfl, ⟨h1.mono h, h2.mono h, h3⟩, h4.mono h⟩

theorem ORel.mono {W : World} {ρ ρ' : Rho} (h : ρ <+: ρ') {r : RE} {o : AObj} (ho : ORel W ρ r o) : ORel W ρ' r o := by
  cases o with
  | cells cs t =>
    obtain ⟨c, fr, h1, h2, h3, h4, h5⟩ := ho
    exact ⟨c, fr, h1, h2, h3, fun i v hi => let ⟨V, a, b⟩ := h4 i v hi; ⟨V, a, b.mono h⟩, h5⟩
  | map es clock => obtain ⟨es', h1, h2⟩ := ho; exact ⟨es', h1, h2.mono h⟩
  | siter s pos => exact ho
  | miter m since seen last =>
    obtain ⟨h0, m', h1, h2⟩ := ho
    refine ⟨h0, m', h1, ?_⟩
    cases m with
    | none => exact h2
    | some k => obtain ⟨r', hr, hm⟩ := h2; exact ⟨r', get?_prefix h hr, hm⟩

/-- What an own block's object says hangs on that block alone. -/
theorem ORel.world {W W' : World} {ρ : Rho} {r : RE} {o : AObj} (he : W'.heap[r.b]? = W.heap[r.b]?) (ho : ORel W ρ r o) : ORel W' ρ r o := by
  cases o with
  | cells cs t => obtain ⟨c, fr, h1, h2⟩ := ho; exact ⟨c, fr, he.trans h1, h2⟩
  | map es clock => obtain ⟨es', h1, h2⟩ := ho; exact ⟨es', he.trans h1, h2⟩
  | siter s pos => exact ⟨ho.1, he.trans ho.2⟩
  | miter m since seen last => obtain ⟨h0, m', h1, h2⟩ := ho; exact ⟨h0, m', he.trans h1, h2⟩

theorem ORel.lt {W : World} {ρ : Rho} {r : RE} {o : AObj} (ho : ORel W ρ r o) : r.b < W.heap.size := by
  rcases Nat.lt_or_ge r.b W.heap.size with h | h
  · exact h
  · have e := Array.getElem?_eq_none h
    cases o with
    | cells cs t => obtain ⟨c, fr, h1, _⟩ := ho; rw [e] at h1; cases h1
    | map es clock => obtain ⟨es', h1, _⟩ := ho; rw [e] at h1; cases h1
    | siter s pos => have h1 : W.heap[r.b]? = _ := ho.2; rw [e] at h1; cases h1
    | miter m since seen last => obtain ⟨_, m', h1, _⟩ := ho; rw [e] at h1; cases h1

theorem Rel.get_lt {W0 W : World} {ρ : Rho} {h : AH} (R : Rel W0 ρ h W) {k : Nat} {o : AObj} (hk : h.get k = some o) : k < h.next := by
  obtain ⟨r, hr, _⟩ := R.live k o hk
  rw [← R.len]
  exact (List.getElem?_eq_some_iff.1 hr).1

/-- A draw. -/
theorem Rel.drew {W0 W : World} {ρ : Rho} {h : AH} (R : Rel W0 ρ h W) : Rel W0 ρ h W.drew :=
  ⟨R.below.drew, R.len, fun k o hk => let ⟨r, hr, hb, ho⟩ := R.live k o hk; ⟨r, hr, hb, ho.world rfl⟩, R.inj, R.home⟩

/-- A new block. -/
theorem Rel.push {W0 W : World} {ρ : Rho} {h : AH} (R : Rel W0 ρ h W) (o : AObj) (O : Obj) (s z : Nat)
    (ho : ∀ W', W'.heap[W.heap.size]? = some O → ORel W' (ρ ++ [⟨W.heap.size, s, z⟩]) ⟨W.heap.size, s, z⟩ o) (hs : s = 0 := by rfl) :
    Rel W0 (ρ ++ [⟨W.heap.size, s, z⟩]) (h.push o) (W.alloc O) := by
  have hp : ρ <+: ρ ++ [⟨W.heap.size, s, z⟩] := List.prefix_append _ _
  have hsz : W0.heap.size ≤ W.heap.size := R.below.size
  refine ⟨R.below.alloc hsz O, by simp [R.len], fun k o' hk => ?_, fun k k' o1 o2 r r' hk hk' hr hr' hb => ?_, fun r hr => by
    rcases List.mem_append.1 hr with hr | hr
    · exact R.home r hr
    · simp only [List.mem_singleton] at hr; rw [hr]; exact hs⟩
  · rw [AH.get_push] at hk
    split at hk
    · rename_i e
      cases hk
      refine ⟨⟨W.heap.size, s, z⟩, ?_, hsz, ho _ ?_⟩
      · rw [e, ← R.len]; simp
      · show (W.heap.push O)[W.heap.size]? = _; simp
    · obtain ⟨r, hr, hb, hO⟩ := R.live k o' hk
      refine ⟨r, get?_prefix hp hr, hb, ORel.mono hp (hO.world ?_)⟩
      show (W.heap.push O)[r.b]? = _
      rw [Array.getElem?_push, if_neg (by have := hO.lt; omega)]
  · have key : ∀ (k : Nat) (o : AObj) (r : RE), h.get k = some o → (ρ ++ [⟨W.heap.size, s, z⟩])[k]? = some r → ρ[k]? = some r ∧ r.b < W.heap.size := by
      intro k o r hk hr
      obtain ⟨r0, hr0, hb0, hO⟩ := R.live k o hk
      have := get?_prefix hp hr0
      rw [hr] at this
      cases this
      exact ⟨hr0, hO.lt⟩
    have last : ∀ (r : RE), (ρ ++ [⟨W.heap.size, s, z⟩])[h.next]? = some r → r.b = W.heap.size := by
      intro r hr
      rw [← R.len] at hr
      simp at hr
      rw [← hr]
    rw [AH.get_push] at hk hk'
    split at hk <;> split at hk'
    · rename_i e e'; omega
    · rename_i e e'
      subst e
      obtain ⟨_, h2⟩ := key k' o2 r' hk' hr'
      have := last r hr
      omega
    · rename_i e e'
      subst e'
      obtain ⟨_, h2⟩ := key k o1 r hk hr
      have := last r' hr'
      omega
    · obtain ⟨h1, _⟩ := key k o1 r hk hr
      obtain ⟨h2, _⟩ := key k' o2 r' hk' hr'
      exact R.inj k k' o1 o2 r r' hk hk' h1 h2 hb

/-- An own block is written. -/
theorem Rel.set {W0 W W' : World} {ρ : Rho} {h : AH} (R : Rel W0 ρ h W) {k : Nat} {o0 : AObj} (hk : h.get k = some o0) (o : AObj) {r : RE} (hr : ρ[k]? = some r)
    (hW : ∀ j, j ≠ r.b → W'.heap[j]? = W.heap[j]?) (hs : W'.heap.size = W.heap.size) (h1 : W'.os = W.os) (h2 : W'.tape = W.tape) (h3 : W'.output = W.output)
    (ho : ORel W' ρ r o) : Rel W0 ρ (h.set k o) W' := by
  obtain ⟨r0, hr0, hb0, hO⟩ := R.live k o0 hk
  rw [hr] at hr0; cases hr0
  refine ⟨R.below.trans ⟨h1, h2, h3, by omega, fun j hj => hW j (by omega)⟩, R.len, fun k' o' hk' => ?_, fun k1 k2 o1 o2 r1 r2 hk1 hk2 => ?_, R.home⟩
  · rw [AH.get_set] at hk'
    split at hk'
    · rename_i e; cases hk'; subst e; exact ⟨r, hr, hb0, ho⟩
    · rename_i e
      obtain ⟨r', hr', hb', hO'⟩ := R.live k' o' hk'
      refine ⟨r', hr', hb', hO'.world (hW _ fun he => e (R.inj k' k o' o0 r' r hk' hk hr' hr he))⟩
  · have : ∀ j oj, (h.set k o).get j = some oj → ∃ oj', h.get j = some oj' := by
      intro j oj hj
      rw [AH.get_set] at hj
      split at hj
      · rename_i e; subst e; exact ⟨o0, hk⟩
      · exact ⟨oj, hj⟩
    obtain ⟨o1', e1⟩ := this k1 o1 hk1
    obtain ⟨o2', e2⟩ := this k2 o2 hk2
    exact R.inj k1 k2 o1' o2' r1 r2 e1 e2

/-- An own block is no more looked at. -/
theorem Rel.kill {W0 W : World} {ρ : Rho} {h : AH} (R : Rel W0 ρ h W) (k : Nat) : Rel W0 ρ (h.kill k) W := by
  have sub : ∀ j o, (h.kill k).get j = some o → h.get j = some o := by
    intro j o hj
    rw [AH.get_kill] at hj
    split at hj
    · cases hj
    · exact hj
  exact ⟨R.below, R.len, fun j o hj => R.live j o (sub j o hj), fun k1 k2 o1 o2 r1 r2 h1 h2 => R.inj k1 k2 o1 o2 r1 r2 (sub _ _ h1) (sub _ _ h2), R.home⟩

/-- An own block goes on under another number (an append in its own place). -/
theorem Rel.move {W0 W W' : World} {ρ : Rho} {h : AH} (R : Rel W0 ρ h W) {k : Nat} {o0 : AObj} (hk : h.get k = some o0) (o : AObj) {r : RE} (hr : ρ[k]? = some r) (s : Nat)
    (hW : ∀ j, j ≠ r.b → W'.heap[j]? = W.heap[j]?) (hs : W'.heap.size = W.heap.size) (h1 : W'.os = W.os) (h2 : W'.tape = W.tape) (h3 : W'.output = W.output)
    (ho : ORel W' (ρ ++ [⟨r.b, s, r.z⟩]) ⟨r.b, s, r.z⟩ o) (hs : s = 0) : Rel W0 (ρ ++ [⟨r.b, s, r.z⟩]) ((h.kill k).push o) W' := by
  obtain ⟨r0, hr0, hb0, hO⟩ := R.live k o0 hk
  rw [hr] at hr0; cases hr0
  have hp : ρ <+: ρ ++ [⟨r.b, s, r.z⟩] := List.prefix_append _ _
  have hkn := R.get_lt hk
  have old : ∀ j oj, ((h.kill k).push o).get j = some oj → j ≠ h.next → h.get j = some oj ∧ j ≠ k := by
    intro j oj hj hne
    rw [AH.get_push, AH.next_kill, if_neg hne, AH.get_kill] at hj
    split at hj
    · cases hj
    · rename_i e; exact ⟨hj, e⟩
  have new : ∀ oj, ((h.kill k).push o).get h.next = some oj → oj = o := by
    intro oj hj
    rw [AH.get_push, AH.next_kill, if_pos rfl] at hj
    exact (Option.some.inj hj).symm
  have rnew : ∀ r', (ρ ++ [⟨r.b, s, r.z⟩])[h.next]? = some r' → r' = ⟨r.b, s, r.z⟩ := by
    intro r' hr'
    rw [← R.len] at hr'
    simp at hr'
    exact hr'.symm
  refine ⟨R.below.trans ⟨h1, h2, h3, by omega, fun j hj => hW j (by omega)⟩, by simp [R.len], fun j oj hj => ?_, fun k1 k2 o1 o2 r1 r2 hk1 hk2 hr1 hr2 hb => ?_, fun r1 hr1 => by
    rcases List.mem_append.1 hr1 with hr1 | hr1
    · exact R.home r1 hr1
    · simp only [List.mem_singleton] at hr1; rw [hr1]; exact hs⟩
  · by_cases e : j = h.next
    · subst e
      cases new oj hj
      refine ⟨⟨r.b, s, r.z⟩, by rw [← R.len]; simp, hb0, ho⟩
    · obtain ⟨hj', hne⟩ := old j oj hj e
      obtain ⟨r', hr', hb', hO'⟩ := R.live j oj hj'
      exact ⟨r', get?_prefix hp hr', hb', ORel.mono hp (hO'.world (hW _ fun he => hne (R.inj j k oj o0 r' r hj' hk hr' hr he)))⟩
  · have down : ∀ j oj rj, h.get j = some oj → (ρ ++ [⟨r.b, s, r.z⟩])[j]? = some rj → ρ[j]? = some rj := by
      intro j oj rj hj hrj
      obtain ⟨r', hr', _⟩ := R.live j oj hj
      have := get?_prefix hp hr'
      rw [hrj] at this; cases this; exact hr'
    by_cases e1 : k1 = h.next <;> by_cases e2 : k2 = h.next
    · omega
    · subst e1
      obtain ⟨h2', hne⟩ := old k2 o2 hk2 e2
      cases rnew r1 hr1
      exact absurd (R.inj k2 k o2 o0 r2 r h2' hk (down _ _ _ h2' hr2) hr hb.symm) hne
    · subst e2
      obtain ⟨h1', hne⟩ := old k1 o1 hk1 e1
      cases rnew r2 hr2
      exact absurd (R.inj k1 k o1 o0 r1 r h1' hk (down _ _ _ h1' hr1) hr hb) hne
    · obtain ⟨h1', _⟩ := old k1 o1 hk1 e1
      obtain ⟨h2', _⟩ := old k2 o2 hk2 e2
      exact R.inj k1 k2 o1 o2 r1 r2 h1' h2' (down _ _ _ h1' hr1) (down _ _ _ h2' hr2) hb

end Go.Proofs.Ytgcoipcnhmkeaaa.Ax
