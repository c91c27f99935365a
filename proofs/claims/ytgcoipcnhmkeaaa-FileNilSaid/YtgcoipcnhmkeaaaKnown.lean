/- What is known of library calls that no walk enters: the keys of a map, sorted. -/
import Derived.Test.YtgcoipcnhmkeaaaTab
import Derived.Test.YtgcoipcnhmkeaaaAx26
import Derived.Test.YtgcoipcnhmkeaaaShelfK
set_option linter.unusedVariables false
set_option linter.unusedSimpArgs false
namespace Go.Proofs.Ytgcoipcnhmkeaaa.Ax
open Go.RowKit

def orKn (a b : Known) : Known := fun f args h => match a f args h with
  | some r => some r
  | none => b f args h
theorem orKn_ok {C : Cx} {a b : Known} (ha : KnownOK C a) (hb : KnownOK C b) : KnownOK C (orKn a b) := by
  intro f args h r hr
  unfold orKn at hr
  split at hr
  · rename_i r' h'; cases hr; exact ha f args h _ h'
  · exact hb f args h r hr

def insI (x : Int) : List Int → List Int
  | [] => [x]
  | y :: l => if x ≤ y then x :: y :: l else y :: insI x l
def sortI : List Int → List Int
  | [] => []
  | x :: l => insI x (sortI l)

theorem insI_perm (x : Int) : ∀ l, (insI x l).Perm (x :: l)
  | [] => List.Perm.refl _
  | y :: l => by
    simp only [insI]
    split
    · exact List.Perm.refl _
    · exact ((insI_perm x l).cons y).trans (List.Perm.swap x y l)
theorem sortI_perm : ∀ l, (sortI l).Perm l
  | [] => List.Perm.refl _
  | x :: l => (insI_perm x _).trans ((sortI_perm l).cons x)
theorem insI_sorted (x : Int) : ∀ l, l.Pairwise (· ≤ ·) → (insI x l).Pairwise (· ≤ ·)
  | [], _ => by simp [insI]
  | y :: l, h => by
    simp only [insI]
    split
    · rename_i hxy
      refine List.pairwise_cons.2 ⟨fun z hz => ?_, h⟩
      rcases List.mem_cons.1 hz with rfl | hz
      · exact hxy
      · exact Int.le_trans hxy ((List.pairwise_cons.1 h).1 z hz)
    · rename_i hxy
      have h2 := List.pairwise_cons.1 h
      refine List.pairwise_cons.2 ⟨fun z hz => ?_, insI_sorted x l h2.2⟩
      have := (insI_perm x l).mem_iff.1 hz
      rcases List.mem_cons.1 this with rfl | hz
      · omega
      · exact h2.1 z hz
theorem sortI_sorted : ∀ l, (sortI l).Pairwise (· ≤ ·)
  | [] => List.Pairwise.nil
  | x :: l => insI_sorted x _ (sortI_sorted l)
theorem sortI_eq {l ss : List Int} (h : ss.Perm l) : ss.mergeSort (fun x y => decide (x ≤ y)) = sortI l := by
  have tr : ∀ a b c : Int, decide (a ≤ b) = true → decide (b ≤ c) = true → decide (a ≤ c) = true := fun a b c h1 h2 => by simp only [decide_eq_true_eq] at *; exact Int.le_trans h1 h2
  have to : ∀ a b : Int, (decide (a ≤ b) || decide (b ≤ a)) = true := fun a b => by simp only [Bool.or_eq_true, decide_eq_true_eq]; exact Int.le_total a b
  refine List.Perm.eq_of_pairwise (le := fun a b : Int => a ≤ b) (fun a b _ _ h1 h2 => Int.le_antisymm h1 h2) ?_ (sortI_sorted l) (((List.mergeSort_perm ss _).trans h).trans (sortI_perm l).symm)
  exact (List.pairwise_mergeSort tr to ss).imp fun h => by simpa using h

def intKey (e : AEnt) : Int := match e.key with
  | .int _ n => n
  | _ => 0
def isIntKey (e : AEnt) : Bool := match e.key with
  | .int .i64 n => decide (-9223372036854775808 ≤ n) && decide (n < 9223372036854775808)
  | _ => false
def nodupN : List Nat → Bool
  | [] => true
  | x :: l => !l.contains x && nodupN l
def nodupI : List Int → Bool
  | [] => true
  | x :: l => !l.contains x && nodupI l
theorem nodupN_iff : ∀ l, nodupN l = true ↔ l.Nodup
  | [] => by simp [nodupN]
  | x :: l => by simp [nodupN, nodupN_iff l]
theorem nodupI_iff : ∀ l, nodupI l = true ↔ l.Nodup
  | [] => by simp [nodupI]
  | x :: l => by simp [nodupI, nodupI_iff l]

/-- A map's entries: ints for keys, none twice, each stamp below the clock and none twice. -/
structure OkEs (es : List AEnt) (clock : Nat) : Prop where
  ints : ∀ e ∈ es, isIntKey e = true
  below : ∀ e ∈ es, e.born < clock
  borns : (es.map (·.born)).Nodup
  keys : (es.map intKey).Nodup
  few : es.length ≤ 1000000
def okEs (es : List AEnt) (clock : Nat) : Bool :=
  es.all isIntKey && es.all (fun e => decide (e.born < clock)) && nodupN (es.map (·.born)) && nodupI (es.map intKey) && decide (es.length ≤ 1000000)
theorem okEs_ok {es : List AEnt} {clock : Nat} (h : okEs es clock = true) : OkEs es clock := by
  simp only [okEs, Bool.and_eq_true, List.all_eq_true, decide_eq_true_eq, nodupN_iff, nodupI_iff] at h
  exact ⟨h.1.1.1.1, h.1.1.1.2, h.1.1.2, h.1.2, h.2⟩

/-- slices.Sorted over what maps.Keys gave: a new slice of the keys. -/
def sortedKn (fS g E : Nat) : Known := fun f args h =>
  if f = fS then match args with
    | [.fn (.func g') [] [.ptr (some (.new k 0))]] =>
      if g' = g then match h.get k with
        | some (.cells [.map none] _) => some (.sl none 0 0 none, h)
        | some (.cells [.map (some j)] _) => match h.get j with
          | some (.map es clock) =>
            if okEs es clock then match es with
              | [] => some (.sl none 0 0 none, h)
              | _ => some (.sl (some (.new h.next 0)) es.length es.length (some 1), h.push (.cells ((sortI (es.map intKey)).map fun n => .int .i64 n) E))
            else none
          | _ => none
        | _ => none
      else none
    | _ => none
  else none

/-! ### the machine's map -/
open Go.Maps Go.Sort Go.Shelf

def RU : Value → Option (DataW Unit × List MemPlace) := fun _ => some (.lit (.bool true), [])

theorem insert_perm {H : Type} (x : Lit × DataW H) : ∀ l, (DataW.insert x l).Perm (x :: l)
  | [] => List.Perm.refl _
  | y :: l => by
    simp only [DataW.insert]
    split
    · exact List.Perm.refl _
    · exact ((insert_perm x l).cons y).trans (List.Perm.swap x y l)
theorem foldr_insert_perm {H : Type} : ∀ l : List (Lit × DataW H), (l.foldr DataW.insert []).Perm l
  | [] => List.Perm.refl _
  | x :: l => (insert_perm x _).trans ((foldr_insert_perm l).cons x)

theorem keyOf_int {P : Program} {K : TypeId} (hK : P.underlying K = some (.int .i64)) {n : Int} (h1 : -9223372036854775808 ≤ n) (h2 : n < 9223372036854775808) : keyOf P K (.int .i64 n) = some (.int .i64 n) := by
  have hw : (Lit.int .i64 n).wf = true := by
    have e1 : IntKind.i64.min = -9223372036854775808 := by decide +kernel
    have e2 : IntKind.i64.max = 9223372036854775807 := by decide +kernel
    simp [Lit.wf, e1, e2]
    omega
  simp [keyOf, hK, mapKey, hw]

def entKey (x : MapEntry) : Int := match x.key with
  | .int _ n => n
  | _ => 0

theorem ents_int {ρ : Rho} : ∀ {es : List AEnt} {xs : List MapEntry}, EntsRel ρ es xs → (∀ e ∈ es, isIntKey e = true) →
    xs.map entKey = es.map intKey ∧ xs.map (·.born) = es.map (·.born) ∧ ∀ x ∈ xs, ∃ n, x.key = .int .i64 n ∧ -9223372036854775808 ≤ n ∧ n < 9223372036854775808
  | [], xs, h, _ => by simp only [EntsRel] at h; subst h; simp
  | e :: es, xs, h, hi => by
    simp only [EntsRel] at h
    obtain ⟨x, xs', rfl, ⟨h1, _, h3⟩, h4⟩ := h
    obtain ⟨a, b, c⟩ := ents_int h4 fun e he => hi e (by simp [he])
    have he := hi e (by simp)
    unfold isIntKey at he
    split at he
    · rename_i n hk
      simp only [Bool.and_eq_true, decide_eq_true_eq] at he
      rw [hk] at h1
      have hx := int_rel h1
      refine ⟨by simp [a, entKey, intKey, hk, hx], by simp [b, h3], fun y hy => ?_⟩
      rcases List.mem_cons.1 hy with rfl | hy
      · exact ⟨n, hx, he.1, he.2⟩
      · exact c y hy
    · simp at he

theorem nodup_of_map {α β : Type} (f : α → β) : ∀ {l : List α}, (l.map f).Nodup → l.Nodup
  | [], _ => List.nodup_nil
  | x :: l, h => by
    rw [List.map_cons, List.nodup_cons] at h
    exact List.nodup_cons.2 ⟨fun hx => h.1 (List.mem_map.2 ⟨x, hx, rfl⟩), nodup_of_map f h.2⟩

/-- The machine's block is a map of int keys: as the kit says it. -/
theorem owns_of_ents {P : Program} {K : TypeId} (hK : P.underlying K = some (.int .i64)) {W : World} {b clock : Nat} {es' : Array MapEntry} {es : List AEnt} {ρ : Rho} (hb : W.heap[b]? = some (.map es' clock)) (hr : EntsRel ρ es es'.toList) (ok : OkEs es clock) :
    ∃ D0 : DataW Unit, W.ownsMap P K RU b es'.size D0 ∧ Maps.size D0 = es.length ∧ (intKeys D0).Perm (es.map intKey) := by
  obtain ⟨h1, h2, h3⟩ := ents_int hr ok.ints
  have hlen : es'.size = es.length := by have := hr.length; simpa using this
  have hrd : ∀ x ∈ es'.toList, Go.WideElems.rd P K RU x = some (.int .i64 (entKey x), .lit (.bool true)) := by
    intro x hx
    obtain ⟨n, hn, a, b⟩ := h3 x hx
    simp [Go.WideElems.rd, hn, keyOf_int hK a b, RU, entKey]
  refine ⟨_, ⟨es', clock, hb, ⟨?_, ⟨fun x hx => ?_, ?_, ?_⟩, fun x hx => ⟨_, hrd x hx⟩⟩, Nat.le_refl _, rfl⟩, ?_, ?_⟩
  · have := ok.few; unfold maxLen; omega
  · have : x.born ∈ es'.toList.map (·.born) := List.mem_map.2 ⟨x, hx, rfl⟩
    rw [h2] at this
    obtain ⟨e, he, h4⟩ := List.mem_map.1 this
    have := ok.below e he
    omega
  · rw [h2]; exact ok.borns
  · have hk : (es'.toList.map (·.key)).map (fun v => match v with | Value.int _ n => n | _ => 0) = es'.toList.map entKey := by
      rw [List.map_map]; rfl
    refine nodup_of_map (fun v => match v with | Value.int _ n => n | _ => 0) ?_
    rw [hk, h1]; exact ok.keys
  · show (List.foldr DataW.insert [] (es'.toList.map (Go.WideElems.rg P K RU))).length = _
    rw [(foldr_insert_perm _).length_eq]
    simp [hlen]
  · refine ((foldr_insert_perm _).map (fun p : Lit × DataW Unit => Go.intOf p.1)).trans ?_
    rw [List.map_map, ← h1]
    refine List.Perm.of_eq (List.map_congr_left fun x hx => ?_)
    simp [Go.WideElems.rg, hrd x hx]
    rfl
end Go.Proofs.Ytgcoipcnhmkeaaa.Ax
