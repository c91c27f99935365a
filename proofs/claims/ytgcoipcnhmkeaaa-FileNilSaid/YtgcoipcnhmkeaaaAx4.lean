/- AX, part 4: reading memory, parts of values, places: each with what the machine does. -/
import Derived.Test.YtgcoipcnhmkeaaaAx3
set_option linter.unusedVariables false
set_option linter.unusedSimpArgs false
namespace Go.Proofs.Ytgcoipcnhmkeaaa.Ax
open Go.RowKit

section
variable {C : Cx} {ρ : Rho} {h : AH} {W : World}

/-! ### loads -/
def aCell (C : Cx) (h : AH) : AA → Option AV
  | .base b o => (C.W0.cell? ⟨b, o, none⟩).map ofV
  | .new k o => match h.get k with
    | some (.cells cs _) => cs[o]?
    | _ => none

def aCells (C : Cx) (h : AH) (a : AA) (n : Nat) : Option (List AV) :=
  match a with
  | .base _ _ => (List.range n).mapM fun i => aCell C h (a.add i)
  | .new k o => match h.get k with
    | some (.cells cs _) => if o + n ≤ cs.length then some ((cs.drop o).take n) else none
    | _ => none

theorem add_addr (b o n : Nat) : Addr.add ⟨b, o, none⟩ n = ⟨b, o + n, none⟩ := by
  unfold Addr.add; split
  · rename_i e; subst e; simp
  · rfl

theorem ARel.add {a : AA} {A : Addr} (ha : ARel ρ a A) (n : Nat) : ARel ρ (a.add n) (A.add n) := by
  cases a with
  | base b o => simp only [ARel] at ha; subst ha; rw [add_addr]; rfl
  | new k o => obtain ⟨r, hr, rfl⟩ := ha; rw [add_addr]; exact ⟨r, hr, by simp only [Nat.add_assoc]⟩

theorem base_cell (R : Rel C.W0 ρ h W) {b o : Nat} {V : Value} (hc : C.W0.cell? ⟨b, o, none⟩ = some V) : W.cell? ⟨b, o, none⟩ = some V := by
  have hlt := World.block_lt_of_cell? _ _ hc
  rw [R.below.cell hlt]
  exact hc

theorem cell_rel (R : Rel C.W0 ρ h W) {a : AA} {A : Addr} (ha : ARel ρ a A) {v : AV} (hv : aCell C h a = some v) : ∃ V, W.cell? A = some V ∧ VRel ρ v V := by
  cases a with
  | base b o =>
    simp only [ARel] at ha; subst ha
    simp only [aCell, Option.map_eq_some_iff] at hv
    obtain ⟨V, hV, rfl⟩ := hv
    exact ⟨V, base_cell R hV, ofV_rel ρ V⟩
  | new k o =>
    obtain ⟨r, hr, rfl⟩ := ha
    simp only [aCell] at hv
    split at hv
    · rename_i cs t hk
      obtain ⟨r', hr', _, c, fr, hb, _, _, hall, _⟩ := R.live k _ hk
      rw [hr] at hr'; cases hr'
      obtain ⟨V, hV, hrel⟩ := hall o v hv
      exact ⟨V, by simp [World.cell?, hb, hV], hrel⟩
    · simp at hv

theorem aCells_get {a : AA} {n : Nat} {vs : List AV} (hv : aCells C h a n = some vs) : vs.length = n ∧ ∀ i, i < n → aCell C h (a.add i) = vs[i]? := by
  cases a with
  | base b o =>
    simp only [aCells] at hv
    have key : ∀ (l : List Nat) (vs : List AV), (l.mapM fun i => aCell C h (AA.add (.base b o) i)) = some vs → vs.length = l.length ∧ ∀ i, i < l.length → aCell C h (AA.add (.base b o) (l.getD i 0)) = vs[i]? := by
      intro l
      induction l with
      | nil => intro vs hvs; simp at hvs; subst hvs; simp
      | cons x l ih =>
        intro vs hvs
        simp only [List.mapM_cons, bind, Option.bind_eq_some_iff] at hvs
        obtain ⟨y, hy, ys, hys, hp⟩ := hvs
        simp [pure] at hp; subst hp
        obtain ⟨h1, h2⟩ := ih ys hys
        refine ⟨by simp [h1], fun i hi => ?_⟩
        cases i with
        | zero => simpa using hy
        | succ i => simpa using h2 i (by simpa using hi)
    obtain ⟨h1, h2⟩ := key _ vs hv
    simp at h1
    refine ⟨h1, fun i hi => ?_⟩
    have := h2 i (by simpa using hi)
    simpa [List.getD_eq_getElem?_getD, hi] using this
  | new k o =>
    simp only [aCells] at hv
    split at hv
    · rename_i cs t hk
      split at hv
      · rename_i hle
        simp at hv; subst hv
        refine ⟨by simp; omega, fun i hi => ?_⟩
        simp only [AA.add, aCell, hk]
        rw [List.getElem?_take, if_pos hi, List.getElem?_drop]
      · simp at hv
    · simp at hv

theorem loadFrom_rel (P : Program) (A : Addr) : ∀ (n i : Nat) (acc : Array Value) (vs : List AV), vs.length = n → (∀ j v, vs[j]? = some v → ∃ V, W.cell? (A.add (i + j)) = some V ∧ VRel ρ v V) →
    ∃ Vs, (loadCellsFrom A i n acc).run P W = .ok (acc ++ Vs) W ∧ VsRel ρ vs Vs.toList
  | 0, i, acc, vs, hl, _ => by
    have : vs = [] := List.length_eq_zero_iff.1 hl
    subst this
    exact ⟨#[], by simp [loadCellsFrom], by simp [VsRel]⟩
  | n + 1, i, acc, vs, hl, hall => by
    cases vs with
    | nil => simp at hl
    | cons v vs =>
      obtain ⟨V, hV, hrel⟩ := hall 0 v (by simp)
      obtain ⟨Vs, hrun, hrs⟩ := loadFrom_rel P A n (i + 1) (acc.push V) vs (by simpa using hl) (fun j v' hj => by
        have := hall (j + 1) v' (by simpa using hj)
        rwa [show i + 1 + j = i + (j + 1) by omega])
      refine ⟨#[V] ++ Vs, ?_, by simp only [VsRel]; exact ⟨V, Vs.toList, by simp, hrel, hrs⟩⟩
      simp only [Nat.add_zero] at hV
      simp only [loadCellsFrom, Sem.run_bind, run_load, hV, Result.andThen_ok, hrun]
      simp

theorem loadCells_rel (R : Rel C.W0 ρ h W) {a : AA} {A : Addr} (ha : ARel ρ a A) {n : Nat} {vs : List AV} (hv : aCells C h a n = some vs) :
    ∃ Vs, (loadCells A n).run C.P W = .ok Vs W ∧ VsRel ρ vs Vs.toList := by
  obtain ⟨h1, h2⟩ := aCells_get hv
  obtain ⟨Vs, hr, hrel⟩ := loadFrom_rel (W := W) (ρ := ρ) C.P A n 0 #[] vs h1 (fun j v hj => by
    have hjn : j < n := by rw [← h1]; exact (List.getElem?_eq_some_iff.1 hj).1
    simp only [Nat.zero_add]
    exact cell_rel R (ha.add j) ((h2 j hjn).trans hj))
  exact ⟨Vs, by simpa [loadCells] using hr, hrel⟩

/-- What a variable of type t at a holds. -/
def aLoad (C : Cx) (h : AH) (t : TypeId) (a : AA) : Option AV :=
  match C.ty t with
  | none => none
  | some y => if y.kind.isOther then none else if y.kind.isAgg then (aCells C h a y.size).map .agg else aCell C h a

theorem run_aLoad (ok : C.OK) (R : Rel C.W0 ρ h W) {t : TypeId} {a : AA} {A : Addr} (ha : ARel ρ a A) {v : AV} (hv : aLoad C h t a = some v) :
    ∃ V, (loadVar t A).run C.P W = .ok V W ∧ VRel ρ v V := by
  unfold aLoad at hv
  cases ht : C.ty t with
  | none => rw [ht] at hv; simp at hv
  | some y =>
    rw [ht] at hv
    simp only at hv
    have hk : C.kind t = y.kind := by simp [Cx.kind, ht]
    have hs : C.size t = some y.size := by simp [Cx.size, ht]
    split at hv
    · simp at hv
    · rename_i hno
      have hne : y.kind ≠ .other := by intro e; simp [e, AKind.isOther] at hno
      simp only [loadVar, Sem.run_bind, run_isAgg' ok hk hne W, Result.andThen_ok]
      cases hA : y.kind.isAgg with
      | true =>
        rw [hA] at hv
        simp only [if_true, Option.map_eq_some_iff] at hv
        obtain ⟨vs, hvs, rfl⟩ := hv
        obtain ⟨Vs, hrun, hrel⟩ := loadCells_rel R ha hvs
        exact ⟨.agg Vs, by simp [run_sizeOf' ok hs W, hrun], by simp only [VRel]; exact ⟨Vs, rfl, hrel⟩⟩
      | false =>
        rw [hA] at hv
        simp at hv
        obtain ⟨V, hV, hrel⟩ := cell_rel R ha hv
        exact ⟨V, by simp [hV], hrel⟩

/-! ### parts and places -/
def aOff (C : Cx) (s : TypeId) (f : Nat) : Option (Nat × TypeId) :=
  match C.kind s with
  | .struct fs _ => fs[f]?
  | _ => none

theorem und_struct (ok : C.OK) {s : TypeId} {f o : Nat} {t : TypeId} (hf : aOff C s f = some (o, t)) :
    ∃ F fl, C.P.underlying s = some (.struct F) ∧ F[f]? = some fl ∧ fl.offset = o ∧ fl.type = t := by
  unfold aOff at hf
  split at hf
  · rename_i fs pl hk
    obtain ⟨D, hD, hr⟩ := kind_und ok hk (by simp)
    simp only [KindRel] at hr
    obtain ⟨F, rfl, hF, _⟩ := hr
    rw [← hF] at hf
    simp only [List.getElem?_map, Option.map_eq_some_iff, Prod.mk.injEq] at hf
    obtain ⟨fl, hfl, h1, h2⟩ := hf
    exact ⟨F, fl, hD, by simpa using hfl, h1, h2⟩
  · simp at hf

def aField (C : Cx) (s : TypeId) (x : AV) (f : Nat) : Option AV :=
  match x, aOff C s f with
  | .agg cs, some (o, t) => aPart C t cs o
  | _, _ => none

theorem run_aField (ok : C.OK) {s : TypeId} {x v : AV} {f : Nat} {X : Value} (hv : aField C s x f = some v) (hx : VRel ρ x X) (w : World) :
    ∃ V, (Instr.field s X f).run C.P w = .ok V w ∧ VRel ρ v V := by
  unfold aField at hv
  split at hv
  · rename_i cs o t ho
    obtain ⟨F, fl, hD, hfl, rfl, rfl⟩ := und_struct ok ho
    simp only [VRel] at hx
    obtain ⟨vs, rfl, hvs⟩ := hx
    obtain ⟨V, hV, hrel⟩ := run_part ok hv hvs w
    exact ⟨V, by simp [Instr.field, run_und hD, hfl, asAgg, hV], hrel⟩
  · simp at hv

def aFieldAddr (C : Cx) (s : TypeId) (x : AV) (f : Nat) : Option AV :=
  match x, aOff C s f with
  | .ptr (some a), some (o, t) => match C.size t with
    | some (_ + 1) => some (.ptr (some (a.add o)))
    | _ => none
  | _, _ => none

theorem run_aFieldAddr (ok : C.OK) {s : TypeId} {x v : AV} {f : Nat} {X : Value} (hv : aFieldAddr C s x f = some v) (hx : VRel ρ x X) (w : World) :
    ∃ V, (Instr.fieldAt s X f).run C.P w = .ok V w ∧ VRel ρ v V := by
  unfold aFieldAddr at hv
  split at hv
  · rename_i a o t ho
    split at hv
    · rename_i n hn
      simp at hv; subst hv
      obtain ⟨F, fl, hD, hfl, rfl, rfl⟩ := und_struct ok ho
      simp only [VRel] at hx
      obtain ⟨A, hA, rfl⟩ := hx
      exact ⟨.pointer (some (A.add fl.offset)), by simp [Instr.fieldAt, run_und hD, hfl, Instr.sureAddr, fieldPlace, run_sizeOf' ok hn], by simp only [VRel]; exact ⟨_, hA.add _, rfl⟩⟩
    · simp at hv
  · simp at hv

def aIndexAddr (C : Cx) (t : TypeId) (x i : AV) : Option AV :=
  match C.kind t, x, i with
  | .array n el, .ptr (some a), .int _ i => match C.size el with
    | some sz => if 0 ≤ i ∧ i < n then some (.ptr (some (a.add (i.toNat * sz)))) else none
    | none => none
  | .slice el, .sl (some a) len _ _, .int _ i => match C.size el with
    | some sz => if 0 ≤ i ∧ i < len then some (.ptr (some (a.add (i.toNat * sz)))) else none
    | none => none
  | _, _, _ => none

/-- A slice's address, where it has an element. -/
theorem sl_addr {a : AA} {len cap : Nat} {gr : Option Nat} {X : Value} (hx : VRel ρ (.sl (some a) len cap gr) X) (hl : 0 < len) : ∃ A cap', X = .slice (some A) len cap' ∧ ARel ρ a A := by
  cases a with
  | base b o => simp only [VRel] at hx; exact ⟨_, _, hx.2, rfl⟩
  | new k o =>
    simp only [VRel] at hx
    obtain ⟨r, A, cap', hr, hX, h1, h2, h3, h4⟩ := hx
    rcases h4 with ⟨hA, _⟩ | h0
    · exact ⟨A, cap', hX, ⟨r, hr, hA⟩⟩
    · omega

theorem run_aIndexAddr (ok : C.OK) {t : TypeId} {x i v : AV} {X I : Value} (hv : aIndexAddr C t x i = some v) (hx : VRel ρ x X) (hi : VRel ρ i I) (w : World) :
    ∃ V, (Instr.indexAt t X I).run C.P w = .ok V w ∧ VRel ρ v V := by
  unfold aIndexAddr at hv
  split at hv
  · rename_i n el a k i hk
    rw [int_rel hi]
    split at hv
    · rename_i sz hsz
      split at hv
      · rename_i hb
        simp at hv; subst hv
        obtain ⟨D, hD, hr⟩ := kind_und ok hk (by simp)
        simp only [KindRel] at hr; subst hr
        simp only [VRel] at hx
        obtain ⟨A, hA, rfl⟩ := hx
        refine ⟨.pointer (some (A.add (i.toNat * sz))), ?_, by simp only [VRel]; exact ⟨_, hA.add _, rfl⟩⟩
        simp [Instr.indexAt, asIntOf, run_und hD, Instr.sureAddr, hb, run_sizeOf' ok hsz]
      · simp at hv
    · simp at hv
  · rename_i el a len cap gr k i hk
    rw [int_rel hi]
    split at hv
    · rename_i sz hsz
      split at hv
      · rename_i hb
        simp at hv; subst hv
        obtain ⟨D, hD, hr⟩ := kind_und ok hk (by simp)
        simp only [KindRel] at hr; subst hr
        obtain ⟨A, cap', rfl, hA⟩ := sl_addr hx (by omega)
        refine ⟨.pointer (some (A.add (i.toNat * sz))), ?_, by simp only [VRel]; exact ⟨_, hA.add _, rfl⟩⟩
        simp [Instr.indexAt, asIntOf, run_und hD, hb, run_sizeOf' ok hsz]
      · simp at hv
    · simp at hv
  · simp at hv

def aIndex (C : Cx) (t : TypeId) (x i : AV) : Option AV :=
  match C.kind t, x, i with
  | .array n el, .agg cs, .int _ i => match C.size el with
    | some sz => if 0 ≤ i ∧ i < n then aPart C el cs (i.toNat * sz) else none
    | none => none
  | .str, .str s, .int _ i => if 0 ≤ i then (s[i.toNat]?).map fun b => .int .u8 b.toNat else none
  | _, _, _ => none

theorem run_aIndex (ok : C.OK) {t : TypeId} {x i v : AV} {X I : Value} (hv : aIndex C t x i = some v) (hx : VRel ρ x X) (hi : VRel ρ i I) (w : World) :
    ∃ V, (Instr.index t X I).run C.P w = .ok V w ∧ VRel ρ v V := by
  unfold aIndex at hv
  split at hv
  · rename_i n el cs k i hk
    rw [int_rel hi]
    split at hv
    · rename_i sz hsz
      split at hv
      · rename_i hb
        obtain ⟨D, hD, hr⟩ := kind_und ok hk (by simp)
        simp only [KindRel] at hr; subst hr
        simp only [VRel] at hx
        obtain ⟨vs, rfl, hvs⟩ := hx
        obtain ⟨V, hV, hrel⟩ := run_part ok hv hvs w
        exact ⟨V, by simp [Instr.index, asIntOf, run_und hD, hb, run_sizeOf' ok hsz, hV], hrel⟩
      · simp at hv
    · simp at hv
  · rename_i s k i hk
    rw [int_rel hi, str_rel hx]
    split at hv
    · rename_i hb
      simp only [Option.map_eq_some_iff] at hv
      obtain ⟨b, hs, rfl⟩ := hv
      obtain ⟨D, hD, hr⟩ := kind_und ok hk (by simp)
      simp only [KindRel] at hr; subst hr
      refine ⟨.int .u8 b.toNat, ?_, by simp [VRel]⟩
      have hlt := (List.getElem?_eq_some_iff.1 hs).1
      have hg : (ByteArray.mk s.toArray)[i.toNat]? = some b := by
        rw [getElem?_pos (ByteArray.mk s.toArray) i.toNat (by rw [ba_size]; exact hlt)]
        congr 1
        exact (List.getElem?_eq_some_iff.1 hs).2
      simp [Instr.index, asIntOf, run_und hD, hb, hg]
    · simp at hv
  · simp at hv

def aExtract (x : AV) (i : Nat) : Option AV :=
  match x with
  | .tup vs => vs[i]?
  | _ => none

theorem run_aExtract {x v : AV} {i : Nat} {X : Value} (hv : aExtract x i = some v) (hx : VRel ρ x X) (P : Program) (w : World) : ∃ V, (Instr.extract X i).run P w = .ok V w ∧ VRel ρ v V := by
  unfold aExtract at hv
  split at hv
  · rename_i vs
    simp only [VRel] at hx
    obtain ⟨us, rfl, hus⟩ := hx
    obtain ⟨V, hV, hrel⟩ := hus.get i v hv
    have hV' : us[i]? = some V := by simpa using hV
    exact ⟨V, by simp [Instr.extract, hV'], hrel⟩
  · simp at hv

end
end Go.Proofs.Ytgcoipcnhmkeaaa.Ax
