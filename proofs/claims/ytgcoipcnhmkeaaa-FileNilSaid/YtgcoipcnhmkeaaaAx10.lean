/- AX, part 10: what changes memory: stores, new blocks, append, copy. -/
import Derived.Test.YtgcoipcnhmkeaaaAx9
set_option linter.unusedVariables false
set_option linter.unusedSimpArgs false
namespace Go.Proofs.Ytgcoipcnhmkeaaa.Ax
open Go.RowKit

section
variable {C : Cx} {ρ : Rho} {h : AH} {W : World}

/-- What the machine's operation comes to: a value, the world, the blocks. -/
def EffOK (C : Cx) (ρ : Rho) (W : World) (s : Sem Next) (v : AV) (h' : AH) : Prop :=
  ∃ V N W' ρ', s.run C.P W = .ok N W' ∧ (N = .value V ∨ N = .skip ∧ V = undef) ∧ ρ <+: ρ' ∧ Rel C.W0 ρ' h' W' ∧ VRel ρ' v V

/-- A value of one cell, told. -/
def aOne : AV → Bool
  | .bad | .agg _ | .tup _ => false
  | _ => true

theorem one_rel {v : AV} {V : Value} (h : aOne v = true) (hr : VRel ρ v V) : V.oneCell' = true := by
  cases v with
  | ptr a => cases a <;> simp only [VRel] at hr <;> (first | (obtain ⟨_, _, rfl⟩ := hr) | subst hr) <;> rfl
  | sl a len cap gr => cases a with
    | none => simp only [VRel] at hr; obtain ⟨_, _, _, rfl⟩ := hr; rfl
    | some a => cases a with
      | base b o => simp only [VRel] at hr; obtain ⟨_, rfl⟩ := hr; rfl
      | new k o => simp only [VRel] at hr; obtain ⟨_, _, _, _, rfl, _⟩ := hr; rfl
  | map r => cases r <;> simp only [VRel] at hr <;> (first | (obtain ⟨_, _, rfl⟩ := hr) | subst hr) <;> rfl
  | fn f a b => simp only [VRel] at hr; obtain ⟨_, _, rfl, _⟩ := hr; rfl
  | ifc t v => simp only [VRel] at hr; obtain ⟨_, rfl, _⟩ := hr; rfl
  | agg cs => simp [aOne] at h
  | tup cs => simp [aOne] at h
  | bad => simp [aOne] at h
  | _ => simp only [VRel] at hr; subst hr; rfl

theorem ones_rel : ∀ {vs : List AV} {Vs : List Value}, vs.all aOne = true → VsRel ρ vs Vs → ∀ V ∈ Vs, V.oneCell' = true
  | [], Vs, _, hr, V, hV => by simp only [VsRel] at hr; subst hr; simp at hV
  | v :: vs, Vs, h, hr, V, hV => by
    simp only [VsRel] at hr
    obtain ⟨x, xs, rfl, h1, h2⟩ := hr
    simp only [List.all_cons, Bool.and_eq_true] at h
    simp only [List.mem_cons] at hV
    rcases hV with rfl | hV
    · exact one_rel h.1 h1
    · exact ones_rel h.2 h2 V hV

def overV (cs vs : List Value) (o : Nat) : List Value := cs.take o ++ vs ++ cs.drop (o + vs.length)

/-- Only one block, and only cells of it, are written. -/
structure Wrote (W W' : World) (b : Nat) : Prop where
  other : ∀ j, j ≠ b → W'.heap[j]? = W.heap[j]?
  size : W'.heap.size = W.heap.size
  os : W'.os = W.os
  tape : W'.tape = W.tape
  output : W'.output = W.output

theorem Wrote.refl (W : World) (b : Nat) : Wrote W W b := ⟨fun _ _ => rfl, rfl, rfl, rfl, rfl⟩
theorem Wrote.trans {W W' W'' : World} {b : Nat} (h : Wrote W W' b) (h' : Wrote W' W'' b) : Wrote W W'' b :=
  ⟨fun j hj => (h'.other j hj).trans (h.other j hj), h'.size.trans h.size, h'.os.trans h.os, h'.tape.trans h.tape, h'.output.trans h.output⟩

theorem setCell_wrote (W : World) (b p : Nat) (v : Value) : Wrote W (W.setCell ⟨b, p, none⟩ v) b :=
  ⟨fun j hj => Below.heap_setCell _ _ _ _ (by exact hj), by simp, rfl, rfl, rfl⟩

theorem setCell_block (W : World) (b p : Nat) (v : Value) {c : Array Value} {t : TypeId} {fr : Nat × Nat} (hb : W.heap[b]? = some (.cells c t fr)) :
    (W.setCell ⟨b, p, none⟩ v).heap[b]? = some (.cells (c.setIfInBounds p v) t fr) := by
  simp [World.setCell, Array.getElem?_modify, hb]

theorem run_storeCells (P : Program) (b p : Nat) : ∀ (vs : List Value) (i : Nat) (W : World) (c : Array Value) (t : TypeId) (fr : Nat × Nat), W.heap[b]? = some (.cells c t fr) → p + i + vs.length ≤ c.size →
    (∀ j, j < c.size → ¬ (fr.1 ≤ j ∧ j < fr.2)) → (∀ v ∈ vs, v.oneCell' = true) →
    ∃ W' c', (storeCells ⟨b, p, none⟩ vs i).run P W = .ok () W' ∧ Wrote W W' b ∧ W'.heap[b]? = some (.cells c' t fr) ∧ c'.toList = overV c.toList vs (p + i)
  | [], i, W, c, t, fr, hb, hl, hf, h1 => by
    refine ⟨W, c, by simp [storeCells], Wrote.refl W b, hb, ?_⟩
    simp [overV]
  | v :: vs, i, W, c, t, fr, hb, hl, hf, h1 => by
    simp only [List.length_cons] at hl
    have hlt : p + i < c.size := by omega
    have hc : W.cell? ⟨b, p + i, none⟩ = some c[p + i] := by simp [World.cell?, hb, hlt]
    have hfr : W.frozen? ⟨b, p + i, none⟩ = false := by
      simp only [World.frozen?, hb]
      have := hf (p + i) hlt
      cases h : decide (fr.1 ≤ p + i) && decide (p + i < fr.2) with
      | false => rfl
      | true => simp at h; exact absurd h this
    have hstore : (store ((⟨b, p, none⟩ : Addr).add i) v).run P W = .ok () (W.setCell ⟨b, p + i, none⟩ v) := by
      rw [add_addr, run_store P W _ v .plain (h1 v (by simp)), hc]
      simp [hfr]
    obtain ⟨W', c', hrun, hw, hb', hc'⟩ := run_storeCells P b p vs (i + 1) (W.setCell ⟨b, p + i, none⟩ v) _ t fr (setCell_block W b (p + i) v hb) (by simp; omega) (by simpa using hf) (fun u hu => h1 u (by simp [hu]))
    refine ⟨W', c', ?_, (setCell_wrote W b (p + i) v).trans hw, hb', ?_⟩
    · simp only [storeCells, Sem.run_bind, hstore, Result.andThen_ok]
      exact hrun
    · rw [hc']
      simp only [overV, Array.toList_setIfInBounds]
      have hlt' : p + i < c.toList.length := by simpa using hlt
      rw [show p + (i + 1) = p + i + 1 by omega]
      have e1 : (c.toList.set (p + i) v).take (p + i + 1) = c.toList.take (p + i) ++ [v] := by
        rw [List.take_add_one, List.take_set_of_le (Nat.le_refl _), List.getElem?_set_self hlt']
        rfl
      rw [e1, List.drop_set_of_lt (by omega)]
      simp only [List.append_assoc, List.cons_append, List.nil_append, List.length_cons]
      congr 4
      omega

theorem overlay_rel {cs vs : List AV} {c Vs : List Value} (hc : VsRel ρ cs c) (hv : VsRel ρ vs Vs) (o : Nat) : VsRel ρ (overlay cs vs o) (overV c Vs o) := by
  unfold overlay overV
  rw [hv.length]
  exact ((hc.take _).append hv).append (hc.drop _)

/-- The cells of an own block, from its first on. -/
theorem cells_rel {r : RE} {cs : List AV} {c : Array Value} (h1 : r.s + cs.length ≤ c.size) (h : ∀ (i : Nat) (v : AV), cs[i]? = some v → ∃ V, c[r.s + i]? = some V ∧ VRel ρ v V) :
    VsRel ρ cs ((c.toList.drop r.s).take cs.length) := by
  refine VsRel.of_get (by simp; omega) fun i v hi => ?_
  obtain ⟨V, hV, hr⟩ := h i v hi
  have hlt := (List.getElem?_eq_some_iff.1 hi).1
  refine ⟨V, ?_, hr⟩
  rw [List.getElem?_take, if_pos hlt, List.getElem?_drop]
  simpa using hV

theorem overV_get (c Vs : List Value) (o i : Nat) (hl : o + Vs.length ≤ c.length) : (overV c Vs o)[i]? = if i < o then c[i]? else if i < o + Vs.length then Vs[i - o]? else c[i]? := by
  unfold overV
  rw [List.append_assoc, List.getElem?_append]
  have hlen : (c.take o).length = o := by simp; omega
  rw [hlen]
  split
  · rename_i h; rw [List.getElem?_take, if_pos h]
  · rename_i h
    rw [List.getElem?_append]
    split
    · rename_i h2; rw [if_pos (by omega)]
    · rename_i h2
      rw [if_neg (by omega), List.getElem?_drop]
      congr 1
      omega

theorem overlay_get (cs vs : List AV) (o i : Nat) (hl : o + vs.length ≤ cs.length) : (overlay cs vs o)[i]? = if i < o then cs[i]? else if i < o + vs.length then vs[i - o]? else cs[i]? := by
  unfold overlay
  rw [List.append_assoc, List.getElem?_append]
  have hlen : (cs.take o).length = o := by simp; omega
  rw [hlen]
  split
  · rename_i h; rw [List.getElem?_take, if_pos h]
  · rename_i h
    rw [List.getElem?_append]
    split
    · rename_i h2; rw [if_pos (by omega)]
    · rename_i h2
      rw [if_neg (by omega), List.getElem?_drop]
      congr 1
      omega

theorem overlay_length (cs vs : List AV) (o : Nat) (hl : o + vs.length ≤ cs.length) : (overlay cs vs o).length = cs.length := by
  unfold overlay; simp; omega

def aStore (C : Cx) (h : AH) (a : AA) (vs : List AV) : Option AH :=
  match a with
  | .new k o => match h.get k with
    | some (.cells cs t) => if o + vs.length ≤ cs.length ∧ vs.all aOne = true then some (h.set k (.cells (overlay cs vs o) t)) else none
    | _ => none
  | _ => none

theorem run_aStore (R : Rel C.W0 ρ h W) {a : AA} {A : Addr} (ha : ARel ρ a A) {vs : List AV} {Vs : List Value} (hv : VsRel ρ vs Vs) {h' : AH} (hs : aStore C h a vs = some h') :
    ∃ W', (storeCells A Vs).run C.P W = .ok () W' ∧ Rel C.W0 ρ h' W' := by
  unfold aStore at hs
  split at hs
  · rename_i k o
    split at hs
    · rename_i cs t hk
      split at hs
      · rename_i hc
        simp at hs; subst hs
        obtain ⟨r, hr, rfl⟩ := ha
        obtain ⟨r', hr', _, c, fr, hb, hz, hlen, hall, hfr⟩ := R.live k _ hk
        rw [hr] at hr'; cases hr'
        have hvl := hv.length
        obtain ⟨W', c', hrun, hw, hb', hc'⟩ := run_storeCells C.P r.b (r.s + o) Vs 0 W c t fr hb (by omega) hfr (ones_rel hc.2 hv)
        refine ⟨W', hrun, R.set hk _ hr hw.other hw.size hw.os hw.tape hw.output ?_⟩
        have hcsz : c'.size = c.size := by
          have := congrArg List.length hc'
          simp only [Array.length_toList] at this
          rw [this]
          unfold overV; simp; omega
        refine ⟨c', fr, hb', by omega, by rw [overlay_length _ _ _ hc.1]; exact hlen, fun i v hi => ?_, by rw [hcsz]; exact hfr⟩
        have hget : c'[r.s + i]? = (overV c.toList Vs (r.s + o + 0))[r.s + i]? := by rw [← hc']; simp
        rw [hget, overV_get _ _ _ _ (by simp; omega)]
        rw [overlay_get _ _ _ _ hc.1] at hi
        simp only [Nat.add_zero]
        split at hi
        · rename_i h1
          rw [if_pos (by omega)]
          simpa using hall i v hi
        · rename_i h1
          rw [if_neg (by omega)]
          split at hi
          · rename_i h2
            rw [if_pos (by omega)]
            rw [show r.s + i - (r.s + o) = i - o by omega]
            exact hv.get _ _ hi
          · rename_i h2
            rw [if_neg (by omega)]
            simpa using hall i v hi
      · simp at hs
    · simp at hs
  · simp at hs

def aStoreOp (C : Cx) (h : AH) (t : TypeId) (a x : AV) : Option AH :=
  match a, aCellsOf x, C.size t with
  | .ptr (some a), some vs, some n => if vs.length = n then aStore C h a vs else none
  | _, _, _ => none

theorem run_aStoreOp (ok : C.OK) (R : Rel C.W0 ρ h W) {t : TypeId} {a x : AV} {A X : Value} (ha : VRel ρ a A) (hx : VRel ρ x X) {h' : AH} (hs : aStoreOp C h t a x = some h') :
    ∃ W', (Instr.storeAt t A X).run C.P W = .ok () W' ∧ Rel C.W0 ρ h' W' := by
  unfold aStoreOp at hs
  split at hs
  · rename_i aa vs n hcs hsz
    split at hs
    · rename_i hl
      simp only [VRel] at ha
      obtain ⟨AA', hA, rfl⟩ := ha
      have hr := cellsOf_rel hcs hx
      obtain ⟨W', hrun, hR⟩ := run_aStore R hA hr hs
      refine ⟨W', ?_, hR⟩
      have hsz' : X.cells.size = n := by have := hr.length; simp only [Array.length_toList] at this; omega
      simp only [Instr.storeAt, Instr.sureAddr, Sem.run_bind, Sem.run_pure, Result.andThen_ok, storeVar, run_sizeOf' ok hsz W, hsz', ne_eq, not_true_eq_false, if_false, hrun]
    · simp at hs
  · simp at hs

/-! ### new blocks -/
/-- A new row of cells, all of it known. -/
theorem Rel.newCells (R : Rel C.W0 ρ h W) {cs : List AV} {c : Array Value} (hc : VsRel ρ cs c.toList) (t : TypeId) :
    Rel C.W0 (ρ ++ [⟨W.heap.size, 0, c.size⟩]) (h.push (.cells cs t)) (W.alloc (.cells c t)) ∧ ρ <+: ρ ++ [⟨W.heap.size, 0, c.size⟩] ∧
      ARel (ρ ++ [⟨W.heap.size, 0, c.size⟩]) (.new h.next 0) ⟨W.heap.size, 0, none⟩ := by
  have hp : ρ <+: ρ ++ [⟨W.heap.size, 0, c.size⟩] := List.prefix_append _ _
  refine ⟨R.push _ _ 0 c.size fun W' hW' => ?_, hp, ⟨⟨W.heap.size, 0, c.size⟩, by rw [← R.len]; simp, by simp⟩⟩
  have hl := hc.length
  simp only [Array.length_toList] at hl
  refine ⟨c, (0, 0), hW', rfl, by simp; omega, fun i v hi => ?_, fun j _ => by simp⟩
  obtain ⟨V, hV, hr⟩ := hc.get i v hi
  exact ⟨V, by simpa using hV, hr.mono hp⟩

def aAlloc (C : Cx) (h : AH) (t : TypeId) : Option (AV × AH) :=
  match C.zero t with
  | some zs => some (.ptr (some (.new h.next 0)), h.push (.cells zs t))
  | none => none

theorem run_aAlloc (ok : C.OK) (R : Rel C.W0 ρ h W) {t : TypeId} {v : AV} {h' : AH} (hs : aAlloc C h t = some (v, h')) :
    ∃ V W' ρ', (Instr.alloc t true (.tuple #[])).run C.P W = .ok V W' ∧ ρ <+: ρ' ∧ Rel C.W0 ρ' h' W' ∧ VRel ρ' v V := by
  unfold aAlloc at hs
  split at hs
  · rename_i zs hz
    simp at hs
    obtain ⟨rfl, rfl⟩ := hs
    obtain ⟨z, hrun, hrel, _⟩ := run_zero ok hz W
    obtain ⟨hR, hp, ha⟩ := R.newCells (VsRel.mono List.nil_prefix _ _ hrel) t
    exact ⟨.pointer (some ⟨W.heap.size, 0, none⟩), _, _, by simp [Instr.alloc, hrun, newVar, newRow], hp, hR, by simp only [VRel]; exact ⟨_, ha, rfl⟩⟩
  · simp at hs

def aBox (h : AH) (t : TypeId) (x : AV) : Option (AV × AH) :=
  match aCellsOf x with
  | some cs => some (.ptr (some (.new h.next 0)), h.push (.cells cs t))
  | none => none

theorem run_aBox (R : Rel C.W0 ρ h W) {t : TypeId} {x v : AV} {X : Value} {h' : AH} (hx : VRel ρ x X) (hs : aBox h t x = some (v, h')) :
    ∃ V W' ρ', (Instr.box t X).run C.P W = .ok V W' ∧ ρ <+: ρ' ∧ Rel C.W0 ρ' h' W' ∧ VRel ρ' v V := by
  unfold aBox at hs
  split at hs
  · rename_i cs hcs
    simp at hs
    obtain ⟨rfl, rfl⟩ := hs
    obtain ⟨hR, hp, ha⟩ := R.newCells (cellsOf_rel hcs hx) t
    exact ⟨.pointer (some ⟨W.heap.size, 0, none⟩), _, _, by simp [Instr.box, newVar, newRow], hp, hR, by simp only [VRel]; exact ⟨_, ha, rfl⟩⟩
  · simp at hs

end
end Go.Proofs.Ytgcoipcnhmkeaaa.Ax
