/- AX, part 13: maps written, ranges, copy, a string's bytes. -/
import Derived.Test.YtgcoipcnhmkeaaaAx12
import Derived.Lib.ConvBytes
import Derived.Laws.RangeString
set_option linter.unusedVariables false
set_option linter.unusedSimpArgs false
namespace Go.Proofs.Ytgcoipcnhmkeaaa.Ax
open Go.RowKit

section
variable {C : Cx} {ρ : Rho} {h : AH} {W : World}

/-- A new block, in whatever world it has come to lie in. -/
theorem Rel.pushG (R : Rel C.W0 ρ h W) {W' : World} (hold : ∀ j, j < W.heap.size → W'.heap[j]? = W.heap[j]?) (hsz : W.heap.size ≤ W'.heap.size) (h1 : W'.os = W.os) (h2 : W'.tape = W.tape) (h3 : W'.output = W.output)
    (o : AObj) (s z : Nat) (ho : ORel W' (ρ ++ [⟨W.heap.size, s, z⟩]) ⟨W.heap.size, s, z⟩ o) (hs : s = 0 := by rfl) : Rel C.W0 (ρ ++ [⟨W.heap.size, s, z⟩]) (h.push o) W' := by
  have hp : ρ <+: ρ ++ [⟨W.heap.size, s, z⟩] := List.prefix_append _ _
  have h0 : C.W0.heap.size ≤ W.heap.size := R.below.size
  refine ⟨R.below.trans ⟨h1, h2, h3, hsz, fun k hk => hold k (by omega)⟩, by simp [R.len], fun k o' hk => ?_, fun k k' o1 o2 r r' hk hk' hr hr' hb => ?_, fun r hr => by
    rcases List.mem_append.1 hr with hr | hr
    · exact R.home r hr
    · simp only [List.mem_singleton] at hr; rw [hr]; exact hs⟩
  · rw [AH.get_push] at hk
    split at hk
    · rename_i e
      cases hk
      exact ⟨⟨W.heap.size, s, z⟩, by rw [e, ← R.len]; simp, h0, ho⟩
    · obtain ⟨r, hr, hb, hO⟩ := R.live k o' hk
      exact ⟨r, get?_prefix hp hr, hb, ORel.mono hp (hO.world (hold _ hO.lt))⟩
  · have key : ∀ (k : Nat) (o : AObj) (r : RE), h.get k = some o → (ρ ++ [⟨W.heap.size, s, z⟩])[k]? = some r → ρ[k]? = some r ∧ r.b < W.heap.size := by
      intro k o r hk hr
      obtain ⟨r0, hr0, hb0, hO⟩ := R.live k o hk
      have := get?_prefix hp hr0
      rw [hr] at this
      cases this
      exact ⟨hr0, hO.lt⟩
    have last : ∀ (r : RE), (ρ ++ [⟨W.heap.size, s, z⟩])[h.next]? = some r → r.b = W.heap.size := by
      intro r hr
      rw [← R.len] at hr
      simp at hr
      rw [← hr]
    rw [AH.get_push] at hk hk'
    split at hk <;> split at hk'
    · rename_i e e'; omega
    · rename_i e e'
      subst e
      obtain ⟨_, h2⟩ := key k' o2 r' hk' hr'
      have := last r hr
      omega
    · rename_i e e'
      subst e'
      obtain ⟨_, h2⟩ := key k o1 r hk hr
      have := last r' hr'
      omega
    · obtain ⟨h1, _⟩ := key k o1 r hk hr
      obtain ⟨h2, _⟩ := key k' o2 r' hk' hr'
      exact R.inj k k' o1 o2 r r' hk hk' h1 h2 hb

def aConvE (C : Cx) (h : AH) (s d : TypeId) (x : AV) : Option (AV × AH) :=
  match C.kind s, C.kind d, x with
  | .other, _, _ => none
  | _, .slice e, .str l => match C.kind e with
    | .int .u8 => some (.sl (some (.new h.next 0)) l.length l.length (some 1), h.push (.cells (l.map fun b => .int .u8 b.toNat) e))
    | _ => none
  | _, _, _ => none

theorem run_aConvE (ok : C.OK) (R : Rel C.W0 ρ h W) {s d : TypeId} {x v : AV} {X : Value} {h' : AH} (hs : aConvE C h s d x = some (v, h')) (hx : VRel ρ x X) :
    ∃ V W' ρ', (convert s d X).run C.P W = .ok V W' ∧ ρ <+: ρ' ∧ Rel C.W0 ρ' h' W' ∧ VRel ρ' v V := by
  unfold aConvE at hs
  split at hs
  · simp at hs
  · rename_i k0 k1 e l hk1 hk2
    split at hs
    · rename_i he
      simp at hs
      obtain ⟨rfl, rfl⟩ := hs
      obtain ⟨Ds, hDs, _⟩ := kind_und ok (rfl : C.kind s = C.kind s) hk2
      obtain ⟨D, hD, hr2⟩ := kind_und ok hk1 (by simp)
      obtain ⟨De, hDe, hr3⟩ := kind_und ok he (by simp)
      simp only [KindRel] at hr2 hr3; subst hr2; subst hr3
      rw [str_rel hx]
      have hrun := Lib.run_convert_string_bytes (P := C.P) W s d e ⟨l.toArray⟩ hDs hD hDe
      have hcs : (Lib.bytesCells W e ⟨l.toArray⟩).size = grownCap W l.length 0 e := by
        have : l.length ≤ grownCap W l.length 0 e := by show l.length ≤ _ + _; omega
        simp [Lib.bytesCells, ba_size]
        omega
      have hge : l.length ≤ grownCap W l.length 0 e := by show l.length ≤ _ + _; omega
      rw [ba_size] at hrun
      refine ⟨_, _, ρ ++ [⟨W.heap.size, 0, grownCap W l.length 0 e⟩], hrun, List.prefix_append _ _, ?_, ?_⟩
      · refine R.pushG (fun j hj => Lib.bytesWorld_at_old W e _ j hj) (by rw [Lib.bytesWorld_size]; omega) rfl rfl rfl _ 0 _ ?_
        refine ⟨_, _, Lib.bytesWorld_at_new W e _, hcs, by simp; exact hge, fun i v hi => ?_, fun j hj => ?_⟩
        · simp only [List.getElem?_map, Option.map_eq_some_iff] at hi
          obtain ⟨b, hb, rfl⟩ := hi
          have hlt := (List.getElem?_eq_some_iff.1 hb).1
          refine ⟨.int .u8 b.toNat, ?_, by simp [VRel]⟩
          simp only [Lib.bytesCells, Nat.zero_add]
          rw [Array.getElem?_append_left (by simp; exact hlt)]
          simp [hb]
        · simp; omega
      · simp only [VRel]
        refine ⟨⟨W.heap.size, 0, grownCap W l.length 0 e⟩, _, _, by rw [← R.len]; simp, rfl, hge, hge, fun e => by simp at e, .inl ⟨by simp, fun n hn => ?_⟩⟩
        simp at hn; subst hn
        show 0 + 0 + grownCap W l.length 0 e * 1 ≤ grownCap W l.length 0 e
        omega
    · simp at hs
  · simp at hs

def aCopy (C : Cx) (h : AH) (ts : Array TypeId) (d x : AV) : Option (AV × AH) :=
  match ts[0]? with
  | none => none
  | some st => match C.kind st, d with
    | .slice el, .sl base dLen _ _ => match C.size el with
      | some sz =>
        if 0 < sz then
          match (match x with
            | .str l => if sz = 1 then some (Nat.min l.length dLen, (l.take (Nat.min l.length dLen)).map fun b => AV.int .u8 b.toNat) else none
            | .sl none n _ _ => some (Nat.min n dLen, [])
            | .sl (some a) n _ _ => if Nat.min n dLen = 0 then some (0, []) else (aCells C h a (Nat.min n dLen * sz)).map fun vs => (Nat.min n dLen, vs)
            | _ => none : Option (Nat × List AV)) with
          | none => none
          | some (n, vs) => if vs = [] then some (.i n, h) else match base with
            | some a => (aStore C h a vs).map fun h' => (.i n, h')
            | none => none
        else none
      | none => none
    | _, _ => none

/-! ### maps -/
def aSame : AV → AV → Bool
  | .int k a, .int k' b => k = k' && a == b
  | .str a, .str b => a == b
  | .bool a, .bool b => a == b
  | .agg xs, .agg ys => sameL xs ys
  | _, _ => false
where
  sameL : List AV → List AV → Bool
    | [], [] => true
    | .int k a :: xs, .int k' b :: ys => k = k' && a == b && sameL xs ys
    | .str a :: xs, .str b :: ys => a == b && sameL xs ys
    | .bool a :: xs, .bool b :: ys => a == b && sameL xs ys
    | _, _ => false

theorem sameL_eq : ∀ (xs ys : List AV), aSame.sameL xs ys = true → xs = ys
  | [], [], _ => rfl
  | .int k a :: xs, .int k' b :: ys, h => by
    simp only [aSame.sameL, Bool.and_eq_true, decide_eq_true_eq, beq_iff_eq] at h
    obtain ⟨⟨rfl, rfl⟩, h⟩ := h
    rw [sameL_eq xs ys h]
  | .str a :: xs, .str b :: ys, h => by
    simp only [aSame.sameL, Bool.and_eq_true, beq_iff_eq] at h
    obtain ⟨rfl, h⟩ := h
    rw [sameL_eq xs ys h]
  | .bool a :: xs, .bool b :: ys, h => by
    simp only [aSame.sameL, Bool.and_eq_true, beq_iff_eq] at h
    obtain ⟨rfl, h⟩ := h
    rw [sameL_eq xs ys h]

theorem aSame_eq {x y : AV} (h : aSame x y = true) : x = y := by
  unfold aSame at h
  split at h
  · simp at h; obtain ⟨rfl, rfl⟩ := h; rfl
  · simp at h; subst h; rfl
  · simp at h; subst h; rfl
  · rw [sameL_eq _ _ h]
  · simp at h

theorem EntsRel.get {as : List AEnt} : ∀ {es : List MapEntry}, EntsRel ρ as es → ∀ (i : Nat) (a : AEnt), as[i]? = some a → ∃ e, es[i]? = some e ∧ EntRel ρ a e := by
  induction as with
  | nil => intro es h i a hi; simp at hi
  | cons b as ih =>
    intro es h i a hi
    simp only [EntsRel] at h
    obtain ⟨e, es', rfl, h1, h2⟩ := h
    cases i with
    | zero => simp at hi; subst hi; exact ⟨e, by simp, h1⟩
    | succ i => simp at hi; simpa using ih h2 i a hi

theorem EntsRel.of_get : ∀ {as : List AEnt} {es : List MapEntry}, es.length = as.length → (∀ (i : Nat) (a : AEnt), as[i]? = some a → ∃ e, es[i]? = some e ∧ EntRel ρ a e) → EntsRel ρ as es
  | [], es, hl, _ => by simp only [EntsRel]; simpa using hl
  | b :: as, es, hl, h => by
    cases es with
    | nil => simp at hl
    | cons x xs =>
      simp only [EntsRel]
      refine ⟨x, xs, rfl, ?_, EntsRel.of_get (by simpa using hl) fun i v hi => ?_⟩
      · obtain ⟨V, hV, hr⟩ := h 0 b (by simp)
        simp at hV; subst hV; exact hr
      · simpa using h (i + 1) v (by simpa using hi)

theorem EntsRel.append {as : List AEnt} {es : List MapEntry} (h : EntsRel ρ as es) {a : AEnt} {e : MapEntry} (he : EntRel ρ a e) : EntsRel ρ (as ++ [a]) (es ++ [e]) := by
  have hl := h.length
  refine EntsRel.of_get (by simp [hl]) fun i v hi => ?_
  rw [List.getElem?_append] at hi ⊢
  rw [hl]
  split
  · rename_i hlt; rw [if_pos hlt] at hi; exact h.get i v hi
  · rename_i hlt
    rw [if_neg hlt] at hi
    cases hi0 : i - as.length with
    | zero => rw [hi0] at hi; simp at hi; subst hi; exact ⟨e, by simp, he⟩
    | succ j => rw [hi0] at hi; simp at hi

theorem EntsRel.modify {as : List AEnt} {es : List MapEntry} (h : EntsRel ρ as es) (i : Nat) {a : AEnt} (f : MapEntry → MapEntry) (hf : ∀ e, es[i]? = some e → EntRel ρ a (f e)) : EntsRel ρ (as.set i a) (es.modify i f) := by
  have hl := h.length
  refine EntsRel.of_get (by simp [hl]) fun j v hj => ?_
  rw [List.getElem?_set] at hj
  rw [List.getElem?_modify]
  split at hj
  · rename_i e0
    subst e0
    split at hj
    · rename_i hlt
      simp at hj; subst hj
      have : i < es.length := by omega
      exact ⟨f es[i], by simp [this], hf _ (by simp [this])⟩
    · simp at hj
  · rename_i e0
    obtain ⟨e, he, hr⟩ := h.get j v hj
    exact ⟨e, by simp [e0, he], hr⟩

theorem EntsRel.erase {as : List AEnt} {es : List MapEntry} (h : EntsRel ρ as es) (i : Nat) : EntsRel ρ (as.eraseIdx i) (es.eraseIdx i) := by
  have hl := h.length
  refine EntsRel.of_get (by simp [List.length_eraseIdx, hl]) fun j v hj => ?_
  rw [List.getElem?_eraseIdx] at hj ⊢
  split at hj
  · rename_i hlt; simp only [hlt, if_true]; exact h.get j v hj
  · rename_i hlt; simp only [hlt, if_false]; exact h.get _ v hj

/-- A map's block is written. -/
theorem Rel.setMap (R : Rel C.W0 ρ h W) {k : Nat} {es : List AEnt} {clock : Nat} (hk : h.get k = some (.map es clock)) {r : RE} (hr : ρ[k]? = some r) {es1 : List AEnt} {es1' : Array MapEntry} {clock1 : Nat}
    (he : EntsRel ρ es1 es1'.toList) : (setObj r.b (.map es1' clock1)).run C.P W = .ok () { W with heap := W.heap.setIfInBounds r.b (.map es1' clock1) } ∧
      Rel C.W0 ρ (h.set k (.map es1 clock1)) { W with heap := W.heap.setIfInBounds r.b (.map es1' clock1) } := by
  obtain ⟨es', hb, _⟩ := map_block R hk hr
  have hlt : r.b < W.heap.size := by
    rcases Nat.lt_or_ge r.b W.heap.size with h | h
    · exact h
    · rw [Array.getElem?_eq_none h] at hb; cases hb
  refine ⟨by simp [setObj, Sem.run, hb], R.set hk _ hr (fun j hj => ?_) (by simp) rfl rfl rfl ⟨es1', ?_, he⟩⟩
  · simp only [Array.getElem?_setIfInBounds]
    rw [if_neg (by omega)]
  · simp [hlt]

def aMapSet (C : Cx) (h : AH) (t : TypeId) (m k x : AV) : Option AH :=
  match C.kind t, m with
  | .map kt _, .map (some r) => match h.get r with
    | some (.map es clock) =>
      if aKey C 100 kt k then
        match aFind C kt k es 0 with
        | some (some (i, _)) => match es[i]? with
          | some e => if aSame e.key k then some (h.set r (.map (es.set i { e with val := x }) clock)) else none
          | none => none
        | some none => some (h.set r (.map (es ++ [⟨k, x, clock⟩]) (clock + 1)))
        | none => none
      else none
    | _ => none
  | _, _ => none

/-- Of two equal keys the machine keeps the one or the other. -/
theorem run_keyStays (W : World) (P : Program) (old new : Value) : ∃ key W', (Instr.keyThatStays old new).run P W = .ok key W' ∧ (key = old ∨ key = new) ∧ (W' = W ∨ W' = W.drew) := by
  unfold Instr.keyThatStays
  split
  · exact ⟨new, W, by simp, .inr rfl, .inl rfl⟩
  · simp only [Sem.run_bind, run_choose]
    have hf : (Question.extern "map.whichKeyStays" 2).forced = false := rfl
    rw [if_neg (by rw [hf]; simp)]
    simp only [Result.andThen_ok, Sem.run_pure]
    split
    · exact ⟨new, _, rfl, .inr rfl, .inr rfl⟩
    · exact ⟨old, _, rfl, .inl rfl, .inr rfl⟩

theorem run_aMapSet (ok : C.OK) (R : Rel C.W0 ρ h W) {t : TypeId} {m k x : AV} {M K X : Value} {h' : AH} (hs : aMapSet C h t m k x = some h') (hm : VRel ρ m M) (hk : VRel ρ k K) (hx : VRel ρ x X) :
    ∃ W', (Instr.mapUpdate t M K X).run C.P W = .ok () W' ∧ Rel C.W0 ρ h' W' := by
  unfold aMapSet at hs
  split at hs
  case h_2 => simp at hs
  rename_i kt vt r hkind
  obtain ⟨D, hD, hr⟩ := kind_und ok hkind (by simp)
  simp only [KindRel] at hr; subst hr
  split at hs
  case h_2 => simp at hs
  rename_i es clock hg
  split at hs
  case isFalse => simp at hs
  rename_i hkey
  obtain ⟨hn, hagg⟩ := aKey_kind hkey
  simp only [VRel] at hm
  obtain ⟨re, hr, rfl⟩ := hm
  obtain ⟨es', hrun, hrel, hbk⟩ := run_getMap R hg hr
  have hc := run_aKey ok false 100 10000 (by omega) kt k hkey K hk W
  split at hs
  · rename_i i v0 hf
    split at hs
    case h_2 => simp at hs
    rename_i e he
    split at hs
    case isFalse => simp at hs
    rename_i hsame
    simp at hs; subst hs
    have hke := aSame_eq hsame
    obtain ⟨r', hfind, hfr⟩ := findKey_rel ok hn hk hagg W hrel hf
    cases r' with
    | none => exact hfr.elim
    | some p =>
      obtain ⟨j, V0⟩ := p
      obtain ⟨rfl, _⟩ := hfr
      obtain ⟨e', he', hee⟩ := hrel.get i e he
      have he2 : es'[i]? = some e' := by simpa using he'
      obtain ⟨key, W', hst, hkey2, hW'⟩ := run_keyStays W C.P e'.key K
      have hkr : VRel ρ e.key key := by
        rcases hkey2 with rfl | rfl
        · exact hee.1
        · rw [hke]; exact hk
      have R' : Rel C.W0 ρ h W' := by
        rcases hW' with rfl | rfl
        · exact R
        · exact R.drew
      have hes : EntsRel ρ (es.set i { e with val := x }) (es'.modify i fun e => { e with key, val := X }).toList := by
        rw [Array.toList_modify]
        exact hrel.modify i _ fun e2 h2 => by
          rw [he'] at h2
          simp at h2; subst h2
          exact ⟨hkr, hx, hee.2.2⟩
      obtain ⟨hset, hR2⟩ := R'.setMap hg hr hes (clock1 := clock)
      refine ⟨_, ?_, hR2⟩
      simp only [Instr.mapUpdate, Sem.run_bind, run_und hD, Result.andThen_ok, hrun, hc, hfind, he2, Option.map_some, Option.getD_some, hst, hset]
  · rename_i hf
    simp at hs; subst hs
    obtain ⟨r', hfind, hfr⟩ := findKey_rel ok hn hk hagg W hrel hf
    cases r' with
    | some p => exact hfr.elim
    | none =>
      have hes : EntsRel ρ (es ++ [⟨k, x, clock⟩]) (es'.push { key := K, val := X, born := clock }).toList := by
        rw [Array.toList_push]
        exact hrel.append ⟨hk, hx, rfl⟩
      obtain ⟨hset, hR2⟩ := R.setMap hg hr hes (clock1 := clock + 1)
      refine ⟨_, ?_, hR2⟩
      simp only [Instr.mapUpdate, Sem.run_bind, run_und hD, Result.andThen_ok, hrun, hc, hfind, hset]
  · simp at hs

def aDelete (C : Cx) (h : AH) (ts : Array TypeId) (m k : AV) : Option AH :=
  match ts[0]? with
  | none => none
  | some t => match C.kind t, m with
    | .map kt _, .map none => if aKey C 100 kt k then some h else none
    | .map kt _, .map (some r) => match h.get r with
      | some (.map es clock) =>
        if aKey C 100 kt k then
          match aFind C kt k es 0 with
          | some (some (i, _)) => some (h.set r (.map (es.eraseIdx i) clock))
          | some none => some (h.set r (.map es clock))
          | none => none
        else none
      | _ => none
    | _, _ => none

theorem run_aDelete (ok : C.OK) (R : Rel C.W0 ρ h W) {ts : Array TypeId} {ty : TypeId} {m k : AV} {M K : Value} {h' : AH} (hs : aDelete C h ts m k = some h') (hm : VRel ρ m M) (hk : VRel ρ k K) :
    ∃ W', (Builtin.delete_ ts ty #[M, K]).run C.P W = .ok (.tuple #[]) W' ∧ Rel C.W0 ρ h' W' := by
  unfold aDelete at hs
  split at hs
  · simp at hs
  rename_i t hts
  split at hs
  · rename_i kt vt hkind
    obtain ⟨D, hD, hr⟩ := kind_und ok hkind (by simp)
    simp only [KindRel] at hr; subst hr
    split at hs
    case isFalse => simp at hs
    rename_i hkey
    simp at hs; subst hs
    simp only [VRel] at hm; subst hm
    have hc := run_aKey ok true 100 10000 (by omega) kt k hkey K hk W
    exact ⟨W, by simp [Builtin.delete_, hts, run_und hD, hc], R⟩
  · rename_i kt vt r hkind
    obtain ⟨D, hD, hr⟩ := kind_und ok hkind (by simp)
    simp only [KindRel] at hr; subst hr
    split at hs
    case h_2 => simp at hs
    rename_i es clock hg
    split at hs
    case isFalse => simp at hs
    rename_i hkey
    obtain ⟨hn, hagg⟩ := aKey_kind hkey
    simp only [VRel] at hm
    obtain ⟨re, hr, rfl⟩ := hm
    obtain ⟨es', hrun, hrel, hbk⟩ := run_getMap R hg hr
    have hc := run_aKey ok es'.isEmpty 100 10000 (by omega) kt k hkey K hk W
    split at hs
    · rename_i i v0 hf
      simp at hs; subst hs
      obtain ⟨r', hfind, hfr⟩ := findKey_rel ok hn hk hagg W hrel hf
      cases r' with
      | none => exact hfr.elim
      | some p =>
        obtain ⟨j, V0⟩ := p
        obtain ⟨rfl, _⟩ := hfr
        have hes : EntsRel ρ (es.eraseIdx i) (es'.eraseIdxIfInBounds i).toList := by
          rw [Array.toList_eraseIdxIfInBounds]
          exact hrel.erase i
        obtain ⟨hset, hR2⟩ := R.setMap hg hr hes (clock1 := clock)
        refine ⟨_, ?_, hR2⟩
        simp [Builtin.delete_, hts, run_und hD, hrun, hc, hfind, hset]
    · rename_i hf
      simp at hs; subst hs
      obtain ⟨r', hfind, hfr⟩ := findKey_rel ok hn hk hagg W hrel hf
      cases r' with
      | some p => exact hfr.elim
      | none =>
        obtain ⟨hset, hR2⟩ := R.setMap hg hr hrel (clock1 := clock)
        refine ⟨_, ?_, hR2⟩
        simp [Builtin.delete_, hts, run_und hD, hrun, hc, hfind, hset]
    · simp at hs
  · simp at hs

def aClear (C : Cx) (h : AH) (ts : Array TypeId) (m : AV) : Option AH :=
  match ts[0]? with
  | none => none
  | some t => match C.kind t, m with
    | .map _ _, .map none => some h
    | .map _ _, .map (some r) => match h.get r with
      | some (.map _ clock) => some (h.set r (.map [] clock))
      | _ => none
    | _, _ => none

theorem run_aClear (ok : C.OK) (R : Rel C.W0 ρ h W) {ts : Array TypeId} {ty : TypeId} {m : AV} {M : Value} {h' : AH} (hs : aClear C h ts m = some h') (hm : VRel ρ m M) :
    ∃ W', (Builtin.clear_ ts ty #[M]).run C.P W = .ok (.tuple #[]) W' ∧ Rel C.W0 ρ h' W' := by
  unfold aClear at hs
  split at hs
  · simp at hs
  rename_i t hts
  split at hs
  · rename_i kt vt hkind
    obtain ⟨D, hD, hr⟩ := kind_und ok hkind (by simp)
    simp only [KindRel] at hr; subst hr
    simp at hs; subst hs
    simp only [VRel] at hm; subst hm
    exact ⟨W, by simp [Builtin.clear_, hts, run_und hD], R⟩
  · rename_i kt vt r hkind
    obtain ⟨D, hD, hr⟩ := kind_und ok hkind (by simp)
    simp only [KindRel] at hr; subst hr
    split at hs
    case h_2 => simp at hs
    rename_i es clock hg
    simp at hs; subst hs
    simp only [VRel] at hm
    obtain ⟨re, hr, rfl⟩ := hm
    obtain ⟨es', hrun, hrel, hbk⟩ := run_getMap R hg hr
    obtain ⟨hset, hR2⟩ := R.setMap hg hr (es1 := []) (es1' := #[]) (by simp [EntsRel]) (clock1 := clock)
    exact ⟨_, by simp [Builtin.clear_, hts, run_und hD, hrun, hset], hR2⟩
  · simp at hs

/-! ### ranges -/
def aRange (C : Cx) (h : AH) (t : TypeId) (x : AV) : Option (AV × AH) :=
  match C.kind t, x with
  | .str, .str s => some (.ptr (some (.new h.next 0)), h.push (.siter s 0))
  | .map _ _, .map none => some (.ptr (some (.new h.next 0)), h.push (.miter none 0 [] 0))
  | .map _ _, .map (some m) => match h.get m with
    | some (.map _ clock) => some (.ptr (some (.new h.next 0)), h.push (.miter (some m) clock [] clock))
    | _ => none
  | _, _ => none

theorem run_aRange (ok : C.OK) (R : Rel C.W0 ρ h W) {t : TypeId} {x v : AV} {X : Value} {h' : AH} (hs : aRange C h t x = some (v, h')) (hx : VRel ρ x X) :
    ∃ V W' ρ', (Instr.range t X).run C.P W = .ok V W' ∧ ρ <+: ρ' ∧ Rel C.W0 ρ' h' W' ∧ VRel ρ' v V := by
  have fin : ∀ ρ', ρ' = ρ ++ [(⟨W.heap.size, 0, 0⟩ : RE)] → VRel ρ' (.ptr (some (.new h.next 0))) (.pointer (some ⟨W.heap.size, 0, none⟩)) := by
    intro ρ' e
    subst e
    simp only [VRel]
    exact ⟨_, ⟨⟨W.heap.size, 0, 0⟩, by rw [← R.len]; simp, rfl⟩, by simp⟩
  unfold aRange at hs
  split at hs
  · rename_i s hk
    simp at hs
    obtain ⟨rfl, rfl⟩ := hs
    obtain ⟨D, hD, hr⟩ := kind_und ok hk (by simp)
    simp only [KindRel] at hr; subst hr
    rw [str_rel hx]
    exact ⟨_, _, _, by simp [Instr.range, run_und hD], List.prefix_append _ _, R.push (.siter s 0) (.stringIter ⟨s.toArray⟩ 0) 0 0 (fun W' hW' => ⟨rfl, hW'⟩), fin _ rfl⟩
  · rename_i k0 v0 hk
    simp at hs
    obtain ⟨rfl, rfl⟩ := hs
    obtain ⟨D, hD, hr⟩ := kind_und ok hk (by simp)
    simp only [KindRel] at hr; subst hr
    simp only [VRel] at hx; subst hx
    exact ⟨_, _, _, by simp [Instr.range, run_und hD], List.prefix_append _ _, R.push (.miter none 0 [] 0) (.mapIter none 0 #[] 0) 0 0 (fun W' hW' => ⟨rfl, none, hW', rfl⟩), fin _ rfl⟩
  · rename_i k0 v0 m hk
    split at hs
    case h_2 => simp at hs
    rename_i es clock hg
    simp at hs
    obtain ⟨rfl, rfl⟩ := hs
    obtain ⟨D, hD, hr⟩ := kind_und ok hk (by simp)
    simp only [KindRel] at hr; subst hr
    simp only [VRel] at hx
    obtain ⟨re, hr, rfl⟩ := hx
    obtain ⟨es', hrun, hrel, hbk⟩ := run_getMap R hg hr
    exact ⟨_, _, _, by simp [Instr.range, run_und hD, hrun], List.prefix_append _ _, R.push (.miter (some m) clock [] clock) (.mapIter (some re.b) clock #[] clock) 0 0
      (fun W' hW' => ⟨rfl, some re.b, hW', ⟨re, get?_prefix (List.prefix_append _ _) hr, rfl⟩⟩), fin _ rfl⟩
  · simp at hs

/-- The next rune. -/
def aNextS (h : AH) (it : AV) : Option (AV × AH) :=
  match it with
  | .ptr (some (.new k 0)) => match h.get k with
    | some (.siter s pos) =>
      if pos < s.length then
        let d := Utf8.decode ⟨s.toArray⟩ pos
        some (.tup [.bool true, .i pos, .int .i32 d.1], h.set k (.siter s (pos + d.2)))
      else some (.tup [.bool false], h)
    | _ => none
  | _ => none

theorem run_aNextS (R : Rel C.W0 ρ h W) {it v : AV} {I : Value} {ty : TypeId} {h' : AH} (hs : aNextS h it = some (v, h')) (hi : VRel ρ it I) :
    ∃ V W', (Instr.next I true ty).run C.P W = .ok V W' ∧ Rel C.W0 ρ h' W' ∧ VRel ρ v V := by
  unfold aNextS at hs
  split at hs
  case h_2 => simp at hs
  rename_i k
  split at hs
  case h_2 => simp at hs
  rename_i s pos hg
  simp only [VRel] at hi
  obtain ⟨A, ⟨r, hr, rfl⟩, rfl⟩ := hi
  obtain ⟨r', hr', hb0, ho⟩ := R.live k _ hg
  rw [hr] at hr'; cases hr'
  obtain ⟨hs0, hob⟩ := ho
  have hlt : r.b < W.heap.size := by
    rcases Nat.lt_or_ge r.b W.heap.size with h | h
    · exact h
    · rw [Array.getElem?_eq_none h] at hob; cases hob
  rw [hs0]
  split at hs
  · rename_i hp
    simp at hs
    obtain ⟨rfl, rfl⟩ := hs
    refine ⟨.tuple #[.bool true, goInt pos, .int .i32 (Utf8.decode ⟨s.toArray⟩ pos).1], { W with heap := W.heap.setIfInBounds r.b (.stringIter ⟨s.toArray⟩ (pos + (Utf8.decode ⟨s.toArray⟩ pos).2)) }, ?_,
      R.set hg _ hr (fun j hj => by simp only [Array.getElem?_setIfInBounds]; rw [if_neg (by omega)]) (by simp) rfl rfl rfl ⟨hs0, by simp [hlt]⟩, by simp only [VRel]; exact ⟨_, rfl, by simp [VsRel, VRel, goInt]⟩⟩
    have hp' : pos < (ByteArray.mk s.toArray).size := by rw [ba_size]; exact hp
    simp [Instr.next, getObj, setObj, Sem.run, hob, hp']
  · rename_i hp
    simp at hs
    obtain ⟨rfl, rfl⟩ := hs
    have hp' : ¬ pos < (ByteArray.mk s.toArray).size := by rw [ba_size]; exact hp
    exact ⟨.tuple #[.bool false], W, by simp [Instr.next, getObj, Sem.run, hob, hp'], R, by simp only [VRel]; exact ⟨_, rfl, by simp [VsRel, VRel]⟩⟩

theorem run_aCopy (ok : C.OK) (R : Rel C.W0 ρ h W) {ts : Array TypeId} {ty : TypeId} {d x v : AV} {D X : Value} {h' : AH} (hs : aCopy C h ts d x = some (v, h')) (hd : VRel ρ d D) (hx : VRel ρ x X) :
    ∃ V W', (Builtin.copy_ ts ty #[D, X]).run C.P W = .ok V W' ∧ Rel C.W0 ρ h' W' ∧ VRel ρ v V := by
  unfold aCopy at hs
  split at hs
  · simp at hs
  rename_i st hts
  split at hs
  case h_2 => simp at hs
  rename_i el base dLen cap gr hk
  obtain ⟨DD, hD, hr⟩ := kind_und ok hk (by simp)
  simp only [KindRel] at hr; subst hr
  split at hs
  case h_2 => simp at hs
  rename_i sz hsz
  split at hs
  case isFalse => simp at hs
  rename_i hp
  have hform : ∃ base' cap', D = .slice base' dLen cap' ∧ ∀ a, base = some a → ∃ A, base' = some A ∧ (0 < dLen → ARel ρ a A) := by
    cases base with
    | none => simp only [VRel] at hd; obtain ⟨rfl, rfl, _, rfl⟩ := hd; exact ⟨_, _, rfl, fun a h => by simp at h⟩
    | some a => cases a with
      | base b o => simp only [VRel] at hd; obtain ⟨_, rfl⟩ := hd; exact ⟨_, _, rfl, fun a h => by simp at h; subst h; exact ⟨_, rfl, fun _ => rfl⟩⟩
      | new k o =>
        have hd' := hd
        simp only [VRel] at hd
        obtain ⟨r, A, c, hr, rfl, h1, h2, h3, h4⟩ := hd
        refine ⟨_, _, rfl, fun a h => ?_⟩
        simp at h; subst h
        refine ⟨A, rfl, fun hpos => ?_⟩
        rcases h4 with ⟨hA, _⟩ | h4
        · exact ⟨r, hr, hA⟩
        · omega
  obtain ⟨base', cap', rfl, hbase⟩ := hform
  split at hs
  · simp at hs
  rename_i n vs hsrc
  have main : ∃ m Vs, (Builtin.lenOf X).run C.P W = .ok m W ∧ n = Nat.min m dLen ∧ (Builtin.firstCells sz n X).run C.P W = .ok Vs W ∧ VsRel ρ vs Vs.toList ∧ vs.length = n * sz := by
    split at hsrc
    · rename_i l
      split at hsrc
      · rename_i e
        simp only [Option.some.injEq, Prod.mk.injEq] at hsrc
        obtain ⟨rfl, rfl⟩ := hsrc
        rw [str_rel hx]
        have hex : ((ByteArray.mk l.toArray).extract 0 (Nat.min l.length dLen)).data.toList = l.take (Nat.min l.length dLen) := by simp
        refine ⟨l.length, ((ByteArray.mk l.toArray).extract 0 (Nat.min l.length dLen)).data.map fun b => .int .u8 b.toNat, by simp [Builtin.lenOf, ba_size], rfl, by simp [Builtin.firstCells], ?_, by simp [e]⟩
        rw [Array.toList_map, hex]
        generalize l.take (Nat.min l.length dLen) = l2
        induction l2 with
        | nil => simp [VsRel]
        | cons b l2 ih => simp only [List.map_cons, VsRel]; exact ⟨_, _, rfl, by simp [VRel], ih⟩
      · simp at hsrc
    · rename_i m c2 g2
      simp only [Option.some.injEq, Prod.mk.injEq] at hsrc
      obtain ⟨rfl, rfl⟩ := hsrc
      simp only [VRel] at hx
      obtain ⟨rfl, _, _, rfl⟩ := hx
      exact ⟨0, #[], by simp [Builtin.lenOf], rfl, by simp [Builtin.firstCells], by simp [VsRel], by simp⟩
    · rename_i a m c2 g2
      split at hsrc
      · rename_i e
        simp only [Option.some.injEq, Prod.mk.injEq] at hsrc
        obtain ⟨rfl, rfl⟩ := hsrc
        have : ∃ A c, X = .slice (some A) m c := by
          cases a with
          | base b o => simp only [VRel] at hx; exact ⟨_, _, hx.2⟩
          | new k o => simp only [VRel] at hx; obtain ⟨r, A, c, _, h1, _⟩ := hx; exact ⟨_, _, h1⟩
        obtain ⟨A, c, rfl⟩ := this
        exact ⟨m, #[], by simp [Builtin.lenOf], e.symm, by simp [Builtin.firstCells, loadCells, loadCellsFrom], by simp [VsRel], by simp⟩
      · rename_i e
        simp only [Option.map_eq_some_iff, Prod.mk.injEq] at hsrc
        obtain ⟨us, hus, rfl, rfl⟩ := hsrc
        have hm0 : 0 < m := by
          rcases Nat.eq_zero_or_pos m with h | h
          · subst h; simp at e
          · exact h
        obtain ⟨A, c, rfl, hA⟩ := sl_addr hx hm0
        obtain ⟨Vs, hV, hVr⟩ := loadCells_rel R hA hus
        exact ⟨m, Vs, by simp [Builtin.lenOf], rfl, by simp [Builtin.firstCells, hV], hVr, (aCells_get hus).1⟩
    · simp at hsrc
  obtain ⟨m0, Vs, hlenof, hn, hfirst2, hVr, hvl⟩ := main
  split at hs
  · rename_i hv0
    subst hv0
    simp at hs
    obtain ⟨rfl, rfl⟩ := hs
    have hVs : Vs = #[] := by
      have := hVr.length
      simp at this
      exact this
    subst hVs
    refine ⟨goInt n, W, ?_, R, by simp [VRel, goInt]⟩
    simp only [Builtin.copy_, hts, List.getElem?_toArray, List.getElem?_cons_zero, List.getElem?_cons_succ, Sem.run_bind, run_und hD, Result.andThen_ok, hlenof, run_sizeOf' ok hsz W, ← hn, hfirst2]
    cases base' <;> simp [storeCells, hn]
  · rename_i hv0
    split at hs
    case h_2 => simp at hs
    rename_i a
    simp only [Option.map_eq_some_iff, Prod.mk.injEq] at hs
    obtain ⟨h2, hst, rfl, rfl⟩ := hs
    obtain ⟨A, rfl, hA⟩ := hbase a rfl
    have hd0 : 0 < dLen := by
      rcases Nat.eq_zero_or_pos dLen with h | h
      · subst h
        have : n = 0 := by rw [hn]; simp
        rw [this] at hvl
        simp at hvl
        exact absurd hvl hv0
      · exact h
    obtain ⟨W', hrun, hR'⟩ := run_aStore R (hA hd0) hVr hst
    refine ⟨goInt n, W', ?_, hR', by simp [VRel, goInt]⟩
    simp only [Builtin.copy_, hts, List.getElem?_toArray, List.getElem?_cons_zero, List.getElem?_cons_succ, Sem.run_bind, run_und hD, Result.andThen_ok, hlenof, run_sizeOf' ok hsz W, ← hn, hfirst2, hrun]
    simp [hn]

end
end Go.Proofs.Ytgcoipcnhmkeaaa.Ax
