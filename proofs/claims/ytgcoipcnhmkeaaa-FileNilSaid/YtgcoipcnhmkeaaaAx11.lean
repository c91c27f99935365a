/- AX, part 11: rows: literals, make, append, copy, a string's bytes. -/
import Derived.Test.YtgcoipcnhmkeaaaAx10
import Derived.Laws.AppendOwn
set_option linter.unusedVariables false
set_option linter.unusedSimpArgs false
namespace Go.Proofs.Ytgcoipcnhmkeaaa.Ax
open Go.RowKit

section
variable {C : Cx} {ρ : Rho} {h : AH} {W : World}

def repZ (n : Nat) (zs : List AV) : List AV := (List.replicate n zs).flatten

theorem flat_get {α : Type} (z : List α) (hz : 0 < z.length) : ∀ (n i : Nat), i < n * z.length → (List.replicate n z).flatten[i]? = z[i % z.length]?
  | 0, i, h => by simp at h
  | n + 1, i, h => by
    rw [List.replicate_succ, List.flatten_cons, List.getElem?_append]
    split
    · rename_i h1; rw [Nat.mod_eq_of_lt h1]
    · rename_i h1
      rw [flat_get z hz n (i - z.length) (by rw [Nat.add_mul] at h; omega)]
      congr 1
      rw [← Nat.mod_eq_sub_mod (by omega)]

theorem rep_rel {zs : List AV} {z : Array Value} (hz : VsRel ρ zs z.toList) (n : Nat) (hpos : 0 < zs.length) :
    VsRel ρ (repZ n zs) ((Array.range (n * zs.length)).map (z[· % z.size]!)).toList := by
  have hl := hz.length
  simp only [Array.length_toList] at hl
  refine VsRel.of_get (by simp [repZ]) fun i v hi => ?_
  have hlt : i < n * zs.length := by
    have := (List.getElem?_eq_some_iff.1 hi).1
    simpa [repZ] using this
  rw [repZ, flat_get zs hpos n i hlt] at hi
  obtain ⟨V, hV, hr⟩ := hz.get _ v hi
  refine ⟨V, ?_, hr⟩
  have hm : i % zs.length < z.size := by rw [hl]; exact Nat.mod_lt _ hpos
  simp only [Array.toList_map, Array.toList_range, List.getElem?_map, List.getElem?_range hlt, Option.map_some]
  congr 1
  rw [hl, getElem!_pos z (i % zs.length) hm]
  have : z.toList[i % zs.length]? = some z[i % zs.length] := by simp [hm]
  rw [this] at hV
  exact Option.some.inj hV

theorem map_range0 (f : Nat → Value) : (Array.range 0).map f = #[] := Array.eq_empty_of_size_eq_zero (by simp)

def aBuildSlice (C : Cx) (h : AH) (t : TypeId) (len : Nat) (parts : List (Nat × AV)) : Option (AV × AH) :=
  match C.kind t with
  | .slice el => match C.size el, C.zero el with
    | some sz, some zs =>
      if 0 < sz ∧ len * sz ≤ 2 ^ 24 then (aFill (fun i => some (i * sz, sz)) (repZ len zs) parts).map fun cs => (.sl (some (.new h.next 0)) len len none, h.push (.cells cs el)) else none
    | _, _ => none
  | _ => none

theorem run_aBuildSlice (ok : C.OK) (R : Rel C.W0 ρ h W) {t : TypeId} {len : Nat} {parts : List (Nat × AV)} {parts' : Array (Nat × Value)} {v : AV} {h' : AH} (hs : aBuildSlice C h t len parts = some (v, h'))
    (hi : parts.map (·.1) = parts'.toList.map (·.1)) (hp : VsRel ρ (parts.map (·.2)) (parts'.toList.map (·.2))) :
    ∃ V W' ρ', (Instr.buildSlice t len parts').run C.P W = .ok V W' ∧ ρ <+: ρ' ∧ Rel C.W0 ρ' h' W' ∧ VRel ρ' v V := by
  unfold aBuildSlice at hs
  split at hs
  · rename_i el hk
    obtain ⟨D, hD, hr⟩ := kind_und ok hk (by simp)
    simp only [KindRel] at hr; subst hr
    split at hs
    · rename_i sz zs hsz hz
      split at hs
      · rename_i hc
        simp only [Option.map_eq_some_iff, Prod.mk.injEq] at hs
        obtain ⟨cs, hcs, rfl, rfl⟩ := hs
        obtain ⟨z, hzr, hzrel, _, _, hlen⟩ := run_zero ok hz W
        rw [hsz] at hlen
        simp at hlen
        have hzr' : VsRel ρ zs z.cells.toList := VsRel.mono List.nil_prefix _ _ hzrel
        have hrep := rep_rel hzr' len (by omega)
        rw [hlen] at hrep
        obtain ⟨Out, hO, hrO⟩ := fill_rel parts parts'.toList _ cs _ hi hp hrep hcs
        obtain ⟨hR, hpf, ha⟩ := R.newCells hrO el
        refine ⟨.slice (some ⟨W.heap.size, 0, none⟩) len len, _, _, ?_, hpf, hR, exact_sl ha (Nat.le_refl _)⟩
        have h1 : ¬ (len * sz > 2 ^ 24) := by omega
        by_cases h0 : len * sz = 0
        · have hO' : Instr.fill (fun i => some (i * sz, sz)) #[] parts'.toList = some Out := by
            rw [h0, map_range0] at hO; exact hO
          simp only [Instr.buildSlice, Sem.run_bind, run_und hD, Result.andThen_ok, run_sizeOf' ok hsz W, if_neg h1, Sem.run_pure, if_pos h0]
          rw [h0, map_range0]
          simp only [hO']
          simp [newRow]
        · simp only [Instr.buildSlice, Sem.run_bind, run_und hD, Result.andThen_ok, run_sizeOf' ok hsz W, if_neg h1, Sem.run_pure, if_neg h0, hzr]
          simp only [hO]
          simp [newRow]
      · simp at hs
    · simp at hs
  · simp at hs

def aMakeMap (h : AH) (reserve : Option AV) : Option (AV × AH) :=
  match reserve with
  | none => some (.map (some h.next), h.push (.map [] 0))
  | some _ => none

theorem run_aMakeMap (R : Rel C.W0 ρ h W) {t : TypeId} {res : Option AV} {v : AV} {h' : AH} (hs : aMakeMap h res = some (v, h')) {res' : Option Value} (hr : OptRel ρ res res') :
    ∃ V W' ρ', (Instr.makeMap t res').run C.P W = .ok V W' ∧ ρ <+: ρ' ∧ Rel C.W0 ρ' h' W' ∧ VRel ρ' v V := by
  unfold aMakeMap at hs
  split at hs
  · simp at hs
    obtain ⟨rfl, rfl⟩ := hs
    cases res' with
    | some _ => exact hr.elim
    | none =>
      refine ⟨.map (some W.heap.size), W.alloc (.map #[] 0), ρ ++ [⟨W.heap.size, 0, 0⟩], by simp [Instr.makeMap], List.prefix_append _ _, R.push (.map [] 0) (.map #[] 0) 0 0 (fun W' hW' => ⟨#[], hW', by simp [EntsRel]⟩), ?_⟩
      simp only [VRel]
      exact ⟨⟨W.heap.size, 0, 0⟩, by rw [← R.len]; simp, rfl⟩
  · simp at hs

def Cx.bytes (C : Cx) (t : TypeId) : Nat := ((C.ty t).map (·.bytes)).getD 0

theorem bytes_info (ok : C.OK) {t : TypeId} {n : Nat} (h : C.size t = some n) : ∃ i, C.P.info? t = some i ∧ i.size = n ∧ i.bytes = C.bytes t := by
  unfold Cx.size at h
  cases ht : C.ty t with
  | none => rw [ht] at h; simp at h
  | some a =>
    rw [ht] at h; simp at h
    obtain ⟨i, d, hi, _, hs, hb, _⟩ := ok.ty t a ht
    exact ⟨i, hi, hs.trans h, by simp [Cx.bytes, ht, hb]⟩

theorem wrap_small {n : Int} (h0 : 0 ≤ n) (h1 : n ≤ 9223372036854775807) : IntKind.i64.wrap n = n := by
  have e : n % (2 ^ 64 : Int) = n := Int.emod_eq_of_lt h0 (by omega)
  have h2 : ¬ ((2 : Int) ^ 63 ≤ n) := by omega
  show (if (true && decide ((2 : Int) ^ 63 ≤ n % (2 ^ 64 : Int))) = true then n % (2 ^ 64 : Int) - (2 ^ 64 : Int) else n % (2 ^ 64 : Int)) = n
  simp only [e, Bool.true_and, decide_eq_true_eq, if_neg h2]

def aMakeSlice (C : Cx) (h : AH) (t : TypeId) (len cap : AV) : Option (AV × AH) :=
  match C.kind t, len, cap with
  | .slice el, .int _ l, .int _ c => match C.size el, C.zero el with
    | some sz, some zs =>
      if 0 < sz ∧ 0 ≤ l ∧ l ≤ c ∧ c ≤ 2 ^ 47 ∧ c * C.bytes el ≤ 2 ^ 47 then some (.sl (some (.new h.next 0)) l.toNat c.toNat none, h.push (.cells (repZ c.toNat zs) el)) else none
    | _, _ => none
  | _, _, _ => none

theorem run_aMakeSlice (ok : C.OK) (R : Rel C.W0 ρ h W) {t : TypeId} {len cap v : AV} {L K : Value} {h' : AH} (hs : aMakeSlice C h t len cap = some (v, h')) (hl : VRel ρ len L) (hc : VRel ρ cap K) :
    ∃ V W' ρ', (Instr.makeSlice t L K).run C.P W = .ok V W' ∧ ρ <+: ρ' ∧ Rel C.W0 ρ' h' W' ∧ VRel ρ' v V := by
  unfold aMakeSlice at hs
  split at hs
  · rename_i el kl l kc c hk
    obtain ⟨D, hD, hr⟩ := kind_und ok hk (by simp)
    simp only [KindRel] at hr; subst hr
    rw [int_rel hl, int_rel hc]
    split at hs
    · rename_i sz zs hsz hz
      split at hs
      · rename_i hcond
        simp at hs
        obtain ⟨rfl, rfl⟩ := hs
        obtain ⟨hp, h0, h1, h2, h3⟩ := hcond
        obtain ⟨i, hi, his, hib⟩ := bytes_info ok hsz
        obtain ⟨z, hzr, hzrel, _, _, hlen⟩ := run_zero ok hz W
        rw [hsz] at hlen
        simp at hlen
        have hzr' : VsRel ρ zs z.cells.toList := VsRel.mono List.nil_prefix _ _ hzrel
        have hrep := rep_rel hzr' c.toNat (by omega)
        rw [hlen] at hrep
        obtain ⟨hR, hpf, ha⟩ := R.newCells hrep el
        refine ⟨.slice (some ⟨W.heap.size, 0, none⟩) l.toNat c.toNat, _, _, ?_, hpf, hR, exact_sl ha (by omega)⟩
        have hwl := wrap_small (n := l) h0 (by omega)
        have hwc := wrap_small (n := c) (by omega) (by omega)
        have hb : ((i.bytes : Int) * c) ≤ 2 ^ 47 := by rw [hib, Int.mul_comm]; exact h3
        have hbl : ((i.bytes : Int) * l) ≤ 2 ^ 47 := Int.le_trans (Int.mul_le_mul_of_nonneg_left h1 (by omega)) hb
        have hinfo : (typeInfo el).run C.P W = .ok i W := by simp [typeInfo, hi]
        have hcond2 : ((decide (c < 0) || decide ((i.bytes : Int) * c > 2 ^ 48)) || decide (l < 0) || decide (l > c)) = false := by
          simp only [Bool.or_eq_false_iff, decide_eq_false_iff_not]
          refine ⟨⟨⟨by omega, by omega⟩, by omega⟩, by omega⟩
        simp only [Instr.makeSlice, Sem.run_bind, run_und hD, Result.andThen_ok, asInt, asIntOf, Sem.run_pure, hinfo, hwl, hwc]
        rw [if_neg (by rw [hcond2]; simp)]
        simp only [run_askRoom, Result.andThen_ok, Sem.run_bind, run_sizeOf' ok hsz W]
        by_cases hz0 : c.toNat * sz = 0
        · simp only [if_pos hz0]
          simp [newRow, hz0, map_range0]
        · simp only [if_neg hz0, Sem.run_bind, hzr, Result.andThen_ok, Sem.run_pure]
          simp [newRow]
      · simp at hs
    · simp at hs
  · simp at hs

/-! ### append -/
/-- The cells that are appended. -/
def aNews (C : Cx) (h : AH) (sz : Nat) (x : AV) : Option (Nat × List AV) :=
  match x with
  | .str l => if sz = 1 then some (l.length, l.map fun b => .int .u8 b.toNat) else none
  | .sl none n _ _ => some (n, [])
  | .sl (some a) n _ _ => if n = 0 then some (0, []) else (aCells C h a (n * sz)).map fun vs => (n, vs)
  | _ => none

theorem run_aNews (R : Rel C.W0 ρ h W) {sz : Nat} {x : AV} {X : Value} {n : Nat} {vs : List AV} (hn : aNews C h sz x = some (n, vs)) (hx : VRel ρ x X) (hsz : 0 < sz) :
    (Builtin.lenOf X).run C.P W = .ok n W ∧ vs.length = n * sz ∧ ∀ W', (∀ A v, W.cell? A = some v → W'.cell? A = some v) → ∃ Vs, (Builtin.firstCells sz n X).run C.P W' = .ok Vs W' ∧ VsRel ρ vs Vs.toList := by
  unfold aNews at hn
  split at hn
  · rename_i l
    split at hn
    · rename_i e
      simp at hn
      obtain ⟨rfl, rfl⟩ := hn
      rw [str_rel hx]
      refine ⟨by simp [Builtin.lenOf, ba_size], by simp [e], fun W' _ => ?_⟩
      refine ⟨((ByteArray.mk l.toArray).extract 0 l.length).data.map fun b => .int .u8 b.toNat, by simp [Builtin.firstCells], ?_⟩
      have : ((ByteArray.mk l.toArray).extract 0 l.length).data.toList = l := by simp
      rw [Array.toList_map, this]
      clear this hx
      induction l with
      | nil => simp [VsRel]
      | cons b l ih => simp only [List.map_cons, VsRel]; exact ⟨_, _, rfl, by simp [VRel], ih⟩
    · simp at hn
  · rename_i m cap gr
    simp at hn
    obtain ⟨rfl, rfl⟩ := hn
    simp only [VRel] at hx
    obtain ⟨rfl, _, _, rfl⟩ := hx
    exact ⟨by simp [Builtin.lenOf], by simp, fun W' _ => ⟨#[], by simp [Builtin.firstCells], by simp [VsRel]⟩⟩
  · rename_i a m cap gr
    split at hn
    · rename_i e
      subst e
      simp at hn
      obtain ⟨rfl, rfl⟩ := hn
      have : ∃ A c, X = .slice (some A) 0 c := by
        cases a with
        | base b o => simp only [VRel] at hx; exact ⟨_, _, hx.2⟩
        | new k o => simp only [VRel] at hx; obtain ⟨r, A, c, _, h1, _⟩ := hx; exact ⟨_, _, h1⟩
      obtain ⟨A, c, rfl⟩ := this
      exact ⟨by simp [Builtin.lenOf], by simp, fun W' _ => ⟨#[], by simp [Builtin.firstCells, loadCells, loadCellsFrom], by simp [VsRel]⟩⟩
    · rename_i hne
      simp only [Option.map_eq_some_iff, Prod.mk.injEq] at hn
      obtain ⟨us, hus, rfl, rfl⟩ := hn
      obtain ⟨A, c, rfl, hA⟩ := sl_addr hx (by omega)
      obtain ⟨h1, h2⟩ := aCells_get hus
      refine ⟨by simp [Builtin.lenOf], h1, fun W' hW' => ?_⟩
      obtain ⟨Vs, hr, hrel⟩ := loadFrom_rel (W := W') (ρ := ρ) C.P A (m * sz) 0 #[] us h1 (fun j v hj => by
        have hjn : j < m * sz := by rw [← h1]; exact (List.getElem?_eq_some_iff.1 hj).1
        simp only [Nat.zero_add]
        obtain ⟨V, hV, hvr⟩ := cell_rel R (hA.add j) ((h2 j hjn).trans hj)
        exact ⟨V, hW' _ _ hV, hvr⟩)
      exact ⟨Vs, by simpa [Builtin.firstCells, loadCells] using hr, hrel⟩
  · simp at hn

def notIntKind : AKind → Bool
  | .int _ | .other => false
  | _ => true

def niOK (C : Cx) (ts : Array TypeId) : Bool := match ts[1]? with | some xt => notIntKind (C.kind xt) | none => true

def aAppend (C : Cx) (h : AH) (ts : Array TypeId) (s x : AV) : Option (AV × AH) :=
  match ts[0]? with
  | none => none
  | some st => match C.kind st, s with
    | .slice el, .sl base len cap gr => match C.size el, C.zero el with
      | some sz, some _ =>
        if niOK C ts = true ∧ 0 < sz ∧ 0 < C.bytes el then
          match aNews C h sz x with
          | none => none
          | some (n, news) =>
            if len + n ≤ cap then
              if n = 0 then some (.sl base len cap gr, h)
              else match base with
                | some a => (aStore C h (a.add (len * sz)) news).map fun h' => (.sl base (len + n) cap gr, h')
                | none => none
            else if (len + n) * C.bytes el ≤ 2 ^ 47 then
              match gr with
              | none => match base with
                | none => some (.sl (some (.new h.next 0)) (len + n) (len + n) (some sz), h.push (.cells news el))
                | some a =>
                  if len = 0 then some (.sl (some (.new h.next 0)) (len + n) (len + n) (some sz), h.push (.cells news el))
                  else (aCells C h a (len * sz)).map fun old => (.sl (some (.new h.next 0)) (len + n) (len + n) (some sz), h.push (.cells (old ++ news) el))
              | some _ => match base with
                | some (.new k o) => match h.get k with
                  | some (.cells cs t) =>
                    if t = el ∧ gr = some sz ∧ o + len * sz = cs.length ∧ news.all aOne = true ∧ o = 0 then
                      some (.sl (some (.new h.next 0)) (len + n) (len + n) (some sz), (h.kill k).push (.cells (cs.drop o ++ news) el))
                    else none
                  | _ => none
                | _ => none
            else none
        else none
      | _, _ => none
    | _, _ => none

/-- A row whose known cells are its first ones. -/
theorem Rel.newPrefix (R : Rel C.W0 ρ h W) {cs : List AV} {c : Array Value} (k : Nat) (hk : k = cs.length) (hc : VsRel ρ cs (c.toList.take k)) (hle : k ≤ c.size) (t : TypeId) :
    Rel C.W0 (ρ ++ [⟨W.heap.size, 0, c.size⟩]) (h.push (.cells cs t)) (W.alloc (.cells c t)) ∧ ρ <+: ρ ++ [⟨W.heap.size, 0, c.size⟩] ∧
      (ρ ++ [⟨W.heap.size, 0, c.size⟩])[h.next]? = some ⟨W.heap.size, 0, c.size⟩ := by
  have hp : ρ <+: ρ ++ [⟨W.heap.size, 0, c.size⟩] := List.prefix_append _ _
  refine ⟨R.push _ _ 0 c.size fun W' hW' => ?_, hp, by rw [← R.len]; simp⟩
  refine ⟨c, (0, 0), hW', rfl, by simp; omega, fun i v hi => ?_, fun j _ => by simp⟩
  obtain ⟨V, hV, hr⟩ := hc.get i v hi
  have hlt := (List.getElem?_eq_some_iff.1 hi).1
  rw [List.getElem?_take, if_pos (by omega)] at hV
  exact ⟨V, by simpa using hV, hr.mono hp⟩

theorem notInt_cases (ok : C.OK) {ts : Array TypeId} (h : (match ts[1]? with | some xt => notIntKind (C.kind xt) | none => true) = true) :
    ts[1]? = none ∨ ∃ xt D, ts[1]? = some xt ∧ C.P.underlying xt = some D ∧ (match D with | .int _ => true | _ => false) = false := by
  cases h1 : ts[1]? with
  | none => exact .inl rfl
  | some xt =>
    rw [h1] at h
    simp only at h
    obtain ⟨D, hD, hr⟩ := kind_und ok (rfl : C.kind xt = C.kind xt) (by intro e; rw [e] at h; simp [notIntKind] at h)
    refine .inr ⟨xt, D, rfl, hD, ?_⟩
    cases D <;> first | rfl | skip
    rename_i k
    cases hkk : C.kind xt <;> rw [hkk] at hr h <;> simp [KindRel, notIntKind] at hr h

/-- 'append' where the capacity does: nothing but stores. -/
theorem run_append_in (ok : C.OK) (R : Rel C.W0 ρ h W) {ts : Array TypeId} {ty st el : TypeId} {sz n len cap' : Nat} {news : List AV} {x : AV} {X : Value} {base : Option Addr}
    (hts : ts[0]? = some st) (hk : C.kind st = .slice el) (hsz : C.size el = some sz) (hni : (match ts[1]? with | some xt => notIntKind (C.kind xt) | none => true) = true) (hp : 0 < sz)
    (hx : VRel ρ x X) (hn : aNews C h sz x = some (n, news)) (hle : len + n ≤ cap') :
    (Builtin.append_ ts ty #[.slice base len cap', X]).run C.P W =
      (do let new ← Builtin.firstCells sz n X
          if let some a := base then storeCells (a.add (len * sz)) new.toList
          pure (Value.slice base (len + n) cap') : Sem Value).run C.P W := by
  obtain ⟨D, hD, hr⟩ := kind_und ok hk (by simp)
  simp only [KindRel] at hr; subst hr
  obtain ⟨hlen, _, _⟩ := run_aNews R hn hx hp
  rcases notInt_cases ok hni with h1 | ⟨xt, D, h1, hD1, hm⟩
  · simp only [Builtin.append_, hts, h1, List.getElem?_toArray, List.getElem?_cons_zero, List.getElem?_cons_succ, Sem.run_bind, run_und hD, Result.andThen_ok, Sem.run_pure, run_sizeOf' ok hsz W, Bool.false_eq_true, if_false, hlen, if_pos hle]
    rfl
  · cases D <;> first
      | (simp at hm; done)
      | (simp only [Builtin.append_, hts, h1, List.getElem?_toArray, List.getElem?_cons_zero, List.getElem?_cons_succ, Sem.run_bind, run_und hD, run_und hD1, Result.andThen_ok, Sem.run_pure, run_sizeOf' ok hsz W, Bool.false_eq_true, if_false, hlen, if_pos hle]
         rfl)

/-- 'append' where it doesn't: a new row. -/
theorem run_append_out (ok : C.OK) (R : Rel C.W0 ρ h W) {ts : Array TypeId} {ty st el : TypeId} {sz n len cap' : Nat} {news old : List AV} {x : AV} {X : Value} {base : Option Addr} {zs : List AV}
    (hts : ts[0]? = some st) (hk : C.kind st = .slice el) (hsz : C.size el = some sz) (hz : C.zero el = some zs) (hni : (match ts[1]? with | some xt => notIntKind (C.kind xt) | none => true) = true) (hp : 0 < sz)
    (hb : 0 < C.bytes el) (hx : VRel ρ x X) (hn : aNews C h sz x = some (n, news)) (hlt : cap' < len + n) (hbd : (len + n) * C.bytes el ≤ 2 ^ 47)
    (hol : old.length = len * sz) (hold : ∃ Os, (Builtin.firstCells sz len (.slice base len cap')).run C.P W.drew = .ok Os W.drew ∧ VsRel ρ old Os.toList) :
    ∃ c nc, (Builtin.append_ ts ty #[.slice base len cap', X]).run C.P W = .ok (.slice (some ⟨W.heap.size, 0, none⟩) (len + n) nc) (W.drew.alloc (.cells c el)) ∧
      len + n ≤ nc ∧ c.size = nc * sz ∧ (old ++ news).length = (len + n) * sz ∧ VsRel ρ (old ++ news) (c.toList.take ((len + n) * sz)) := by
  obtain ⟨D, hD, hr⟩ := kind_und ok hk (by simp)
  simp only [KindRel] at hr; subst hr
  obtain ⟨hlen, hnl, hfirst⟩ := run_aNews R hn hx hp
  obtain ⟨Vs, hV, hVr⟩ := hfirst W.drew (fun A v h => h)
  obtain ⟨Os, hO, hOr⟩ := hold
  obtain ⟨i, hi, his, hib⟩ := bytes_info ok hsz
  obtain ⟨z, hzr, hzrel, _, _, hzlen⟩ := run_zero (ρ := ρ) ok hz W.drew
  have hzsz : z.cells.size = sz := by
    have := hzrel.length
    rw [hsz] at hzlen
    simp only [Array.length_toList] at this
    simp at hzlen
    omega
  have hinfo : ∀ w, (typeInfo el).run C.P w = .ok i w := fun w => by simp [typeInfo, hi]
  have hneed63 : ¬ (((len + n : Nat) : Int) > IntKind.i64.max ∧ (False ∨ i.bytes = 0)) := by
    rw [hib]; simp; omega
  have h48 : ¬ (Builtin.nextslicecap (len + n) cap' * i.bytes > 2 ^ 48) := by
    rw [hib]
    have := growslice_fits (bytes := C.bytes el) hlt (by omega)
    omega
  let nc := (Question.appendCap (len + n) cap' el).cut (W.tape W.drawn (.appendCap (len + n) cap' el))
  have hnc : len + n ≤ nc := by show len + n ≤ _ + _; omega
  have hVl := hVr.length
  have hOl := hOr.length
  simp only [Array.length_toList] at hVl hOl
  refine ⟨Os ++ Vs ++ Builtin.zeroCells z.cells (nc - (len + n)), nc, ?_, hnc, ?_, by rw [List.length_append, hol, hnl, Nat.add_mul], ?_⟩
  · rcases notInt_cases ok hni with h1 | ⟨xt, D, h1, hD1, hm⟩
    · simp only [Builtin.append_, hts, h1, List.getElem?_toArray, List.getElem?_cons_zero, List.getElem?_cons_succ, Sem.run_bind, run_und hD, Result.andThen_ok, Sem.run_pure, run_sizeOf' ok hsz W, Bool.false_eq_true,
        if_false, hlen, if_neg (show ¬ len + n ≤ cap' by omega), hinfo]
      rw [if_neg hneed63]
      simp only [Sem.run_bind, hinfo, Result.andThen_ok]
      rw [if_neg h48]
      simp only [Sem.run_bind, run_choose, Question.forced, Bool.false_eq_true, if_false, Result.andThen_ok, hinfo, run_askRoom, World.drew_eq, hO, Bool.not_false, if_true, hV, hzr, Sem.run_pure, newRow, run_newObj, World.alloc_eq]
      rfl
    · cases D <;> first
        | (simp at hm; done)
        | (simp only [Builtin.append_, hts, h1, List.getElem?_toArray, List.getElem?_cons_zero, List.getElem?_cons_succ, Sem.run_bind, run_und hD, run_und hD1, Result.andThen_ok, Sem.run_pure, run_sizeOf' ok hsz W, Bool.false_eq_true,
             if_false, hlen, if_neg (show ¬ len + n ≤ cap' by omega), hinfo]
           rw [if_neg hneed63]
           simp only [Sem.run_bind, hinfo, Result.andThen_ok]
           rw [if_neg h48]
           simp only [Sem.run_bind, run_choose, Question.forced, Bool.false_eq_true, if_false, Result.andThen_ok, hinfo, run_askRoom, World.drew_eq, hO, Bool.not_false, if_true, hV, hzr, Sem.run_pure, newRow, run_newObj, World.alloc_eq]
           rfl)
  · simp only [Array.size_append, hVl, hOl, hnl, hol, size_zeroCells, hzsz]
    rw [← Nat.add_mul, ← Nat.add_mul]
    congr 1
    omega
  · have : ((Os ++ Vs ++ Builtin.zeroCells z.cells (nc - (len + n))).toList.take ((len + n) * sz)) = Os.toList ++ Vs.toList := by
      simp only [Array.toList_append]
      rw [List.take_append_of_le_length (by simp [hVl, hOl, hnl, hol, Nat.add_mul])]
      rw [List.take_of_length_le (by simp [hVl, hOl, hnl, hol, Nat.add_mul])]
    rw [this]
    exact hOr.append hVr

end
end Go.Proofs.Ytgcoipcnhmkeaaa.Ax
