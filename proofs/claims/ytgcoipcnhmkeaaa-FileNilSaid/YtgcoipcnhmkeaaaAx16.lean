/- AX, part 16: the orders that a region may draw. -/
import Derived.Test.YtgcoipcnhmkeaaaAx15
set_option linter.unusedVariables false
set_option linter.unusedSimpArgs false
namespace Go.Proofs.Ytgcoipcnhmkeaaa.Ax
open Go.RowKit

def depsM (m : Region.Mode) (ops : Array Oper) (i : Nat) : List Nat := ((ops.getD i default).after.toList.filter (Region.binds m)).map (·.on)
abbrev depsA (ops : Array Oper) (i : Nat) : List Nat := depsM .any ops i

theorem binds_any {m : Region.Mode} {e : Edge} (h : Region.binds .any e = true) : Region.binds m e = true := by
  unfold Region.binds at h ⊢
  split <;> simp_all

theorem deps_sub {m : Region.Mode} {ops : Array Oper} {i d : Nat} (h : d ∈ depsA ops i) : d ∈ depsM m ops i := by
  simp only [depsA, depsM, List.mem_map, List.mem_filter] at h ⊢
  obtain ⟨e, ⟨h1, h2⟩, h3⟩ := h
  exact ⟨e, ⟨h1, binds_any h2⟩, h3⟩

def reach (ops : Array Oper) : Nat → Nat → Nat → Bool
  | 0, _, _ => false
  | f + 1, i, j => (depsA ops i).contains j || (depsA ops i).any fun d => reach ops f d j

def Closed (ops : Array Oper) (L : List Nat) : Prop := ∀ i ∈ L, ∀ d ∈ depsA ops i, d ∈ L

theorem reach_mem {ops : Array Oper} {L : List Nat} (hL : Closed ops L) : ∀ (f i j : Nat), (∀ d ∈ depsA ops i, d ∈ L) → reach ops f i j = true → j ∈ L
  | 0, i, j, _, h => by simp [reach] at h
  | f + 1, i, j, hi, h => by
    simp only [reach, Bool.or_eq_true, List.contains_iff_mem, List.any_eq_true] at h
    rcases h with h | ⟨d, hd, h⟩
    · exact hi j h
    · exact reach_mem hL f d j (hL d (hi d hd)) h

/-! ### the lists that the machine draws -/
/-- Every index once, each behind what it hangs on. -/
structure Ext (m : Region.Mode) (ops : Array Oper) (l : List Nat) : Prop where
  nodup : l.Nodup
  all : ∀ i, i ∈ l ↔ i < ops.size
  order : ∀ l1 i l2, l = l1 ++ i :: l2 → ∀ d ∈ depsM m ops i, d ∈ l1

def extB (m : Region.Mode) (ops : Array Oper) : List Nat → List Nat → Bool
  | _, [] => true
  | seen, i :: rest => decide (i < ops.size) && !seen.contains i && (depsM m ops i).all (seen.contains ·) && extB m ops (i :: seen) rest

theorem extB_order {m : Region.Mode} {ops : Array Oper} : ∀ (l seen : List Nat), extB m ops seen l = true →
    l.Nodup ∧ (∀ i ∈ l, i < ops.size ∧ i ∉ seen) ∧ ∀ l1 i l2, l = l1 ++ i :: l2 → ∀ d ∈ depsM m ops i, d ∈ seen ∨ d ∈ l1
  | [], seen, _ => ⟨List.nodup_nil, by simp, by intro l1 i l2 h; simp at h⟩
  | j :: rest, seen, h => by
    simp only [extB, Bool.and_eq_true, decide_eq_true_eq, Bool.not_eq_true', List.all_eq_true, List.contains_iff_mem] at h
    obtain ⟨⟨⟨h1, h2⟩, h3⟩, h4⟩ := h
    have h2' : j ∉ seen := by simpa using h2
    obtain ⟨a, b, c⟩ := extB_order rest (j :: seen) h4
    refine ⟨List.nodup_cons.2 ⟨fun hj => (b j hj).2 (by simp), a⟩, fun i hi => ?_, fun l1 i l2 he d hd => ?_⟩
    · simp only [List.mem_cons] at hi
      rcases hi with rfl | hi
      · exact ⟨h1, h2'⟩
      · exact ⟨(b i hi).1, fun hs => (b i hi).2 (by simp [hs])⟩
    · cases l1 with
      | nil =>
        simp at he
        obtain ⟨rfl, rfl⟩ := he
        exact .inl (h3 d hd)
      | cons x l1 =>
        simp at he
        obtain ⟨rfl, rfl⟩ := he
        rcases c l1 i l2 rfl d hd with h | h
        · simp only [List.mem_cons] at h
          rcases h with rfl | h
          · exact .inr (by simp)
          · exact .inl h
        · exact .inr (by simp [h])

def isExt (m : Region.Mode) (ops : Array Oper) (l : List Nat) : Bool := extB m ops [] l && decide (l.length = ops.size)

theorem nodup_full {n : Nat} {l : List Nat} (hn : l.Nodup) (hb : ∀ i ∈ l, i < n) (hl : l.length = n) : ∀ i, i < n → i ∈ l := by
  intro i hi
  by_cases h : i ∈ l
  · exact h
  · have h1 : (i :: l).Nodup := List.nodup_cons.2 ⟨h, hn⟩
    have hsub : (i :: l) ⊆ List.range n := by
      intro x hx
      simp only [List.mem_cons] at hx
      rcases hx with rfl | hx
      · exact List.mem_range.2 hi
      · exact List.mem_range.2 (hb x hx)
    have := List.Nodup.length_le_of_subset h1 hsub
    simp at this
    omega

theorem isExt_ext {m : Region.Mode} {ops : Array Oper} {l : List Nat} (h : isExt m ops l = true) : Ext m ops l := by
  simp only [isExt, Bool.and_eq_true, decide_eq_true_eq] at h
  obtain ⟨a, b, c⟩ := extB_order l [] h.1
  refine ⟨a, fun i => ⟨fun hi => (b i hi).1, nodup_full a (fun i hi => (b i hi).1) h.2 i⟩, fun l1 i l2 he d hd => ?_⟩
  rcases c l1 i l2 he d hd with h | h
  · simp at h
  · exact h

structure LinInv (m : Region.Mode) (ops : Array Oper) (listed : Array Bool) (acc : List Nat) : Prop where
  size : listed.size = ops.size
  mem : ∀ i, listed.getD i false = true ↔ i ∈ acc
  lt : ∀ i ∈ acc, i < ops.size
  nodup : acc.Nodup
  order : ∀ l1 i l2, acc = l1 ++ i :: l2 → ∀ d ∈ depsM m ops i, d ∈ l2

theorem lin_go {m : Region.Mode} {ops : Array Oper} {wit : List Nat} (hw : Ext m ops wit) : ∀ (fuel t : Nat) (listed : Array Bool) (acc : List Nat), LinInv m ops listed acc → fuel + acc.length = ops.size →
    Ext m ops (Region.linearise.go m ops fuel t listed acc)
  | 0, t, listed, acc, hI, hl => by
    simp only [Region.linearise.go]
    have hfull := nodup_full hI.nodup hI.lt (by omega)
    refine ⟨List.pairwise_reverse.2 (hI.nodup.imp fun h => h.symm), fun i => ⟨fun hi => hI.lt i (by simpa using hi), fun hi => by simpa using hfull i hi⟩, fun l1 i l2 he d hd => ?_⟩
    have he' : acc = l2.reverse ++ i :: l1.reverse := by
      have := congrArg List.reverse he
      simpa using this
    have := hI.order _ i _ he' d hd
    simpa using this
  | fuel + 1, t, listed, acc, hI, hl => by
    simp only [Region.linearise.go]
    generalize hrs : ((List.range ops.size).filter fun i => !listed.getD i true && ((ops[i]?).map (·.after.all fun e => !Region.binds m e || listed.getD e.on false)).getD false) = rs
    have hrsmem : ∀ i, i ∈ rs ↔ i < ops.size ∧ i ∉ acc ∧ ∀ d ∈ depsM m ops i, d ∈ acc := by
      intro i
      rw [← hrs, List.mem_filter, List.mem_range]
      constructor
      · rintro ⟨h1, h2⟩
        simp only [Bool.and_eq_true, Bool.not_eq_true'] at h2
        have hli : i < listed.size := by rw [hI.size]; exact h1
        have h3 : listed.getD i false = false := by
          have := h2.1
          simp only [Array.getD_eq_getD_getElem?, Array.getElem?_eq_getElem hli, Option.getD_some] at this ⊢
          exact this
        refine ⟨h1, fun hi => by rw [(hI.mem i).2 hi] at h3; simp at h3, fun d hd => ?_⟩
        simp only [depsM, List.mem_map, List.mem_filter] at hd
        obtain ⟨e, ⟨he1, he2⟩, rfl⟩ := hd
        have h4 := h2.2
        rw [Array.getElem?_eq_getElem h1] at h4
        simp only [Option.map_some, Option.getD_some, Array.all_eq_true_iff_forall_mem] at h4
        have hget : ops.getD i default = ops[i] := by simp [Array.getD_eq_getD_getElem?, h1]
        rw [hget] at he1
        have := h4 e (by simpa using he1)
        rw [he2] at this
        simpa using (hI.mem e.on).1 (by simpa using this)
      · rintro ⟨h1, h2, h3⟩
        refine ⟨h1, ?_⟩
        simp only [Bool.and_eq_true, Bool.not_eq_true']
        have hli : i < listed.size := by rw [hI.size]; exact h1
        constructor
        · have : listed.getD i false ≠ true := fun h => h2 ((hI.mem i).1 h)
          simp only [Array.getD_eq_getD_getElem?, Array.getElem?_eq_getElem hli, Option.getD_some] at this ⊢
          simpa using this
        · rw [Array.getElem?_eq_getElem h1]
          simp only [Option.map_some, Option.getD_some, Array.all_eq_true_iff_forall_mem]
          intro e he
          cases hb : Region.binds m e with
          | false => rfl
          | true =>
            simp only [Bool.not_true, Bool.false_or]
            refine (hI.mem e.on).2 (h3 e.on ?_)
            simp only [depsM, List.mem_map, List.mem_filter]
            have hget : ops.getD i default = ops[i] := by simp [Array.getD_eq_getD_getElem?, h1]
            exact ⟨e, ⟨by rw [hget]; simpa using he, hb⟩, rfl⟩
    -- something can be listed
    have hne : rs ≠ [] := by
      -- the witness's first that isn't listed
      have key : ∀ (l1 l2 : List Nat), wit = l1 ++ l2 → (∀ i ∈ l1, i ∈ acc) → ∃ i, i ∈ rs := by
        intro l1 l2
        induction l2 generalizing l1 with
        | nil =>
          intro he hall
          exfalso
          simp at he
          have hsub : List.range ops.size ⊆ acc := fun i hi => hall i (by rw [← he]; exact (hw.all i).2 (List.mem_range.1 hi))
          have := List.Nodup.length_le_of_subset List.nodup_range hsub
          simp at this
          omega
        | cons i l2 ih =>
          intro he hall
          by_cases hi : i ∈ acc
          · refine ih (l1 ++ [i]) (by simp [he]) fun j hj => ?_
            simp only [List.mem_append, List.mem_singleton] at hj
            rcases hj with hj | rfl
            · exact hall j hj
            · exact hi
          · exact ⟨i, (hrsmem i).2 ⟨(hw.all i).1 (by rw [he]; simp), hi, fun d hd => hall d (hw.order l1 i l2 he d hd)⟩⟩
      obtain ⟨i, hi⟩ := key [] wit rfl (by simp)
      intro h; rw [h] at hi; simp at hi
    have hpos : 0 < rs.length := List.length_pos_iff.2 hne
    have hidx : t % rs.length < rs.length := Nat.mod_lt _ hpos
    rw [List.getElem?_eq_getElem hidx]
    simp only
    obtain ⟨h1, h2, h3⟩ := (hrsmem _).1 (List.getElem_mem hidx)
    refine lin_go hw fuel _ _ _ ⟨by simp [hI.size], fun j => ?_, fun j hj => ?_, List.nodup_cons.2 ⟨h2, hI.nodup⟩, fun l1 j l2 he d hd => ?_⟩ (by simp; omega)
    · have hm := hI.mem j
      simp only [Array.getD_eq_getD_getElem?, Array.getElem?_setIfInBounds, List.mem_cons] at hm ⊢
      by_cases e : rs[t % rs.length] = j
      · subst e
        have : rs[t % rs.length] < listed.size := by rw [hI.size]; exact h1
        simp [this]
      · have e' : ¬ j = rs[t % rs.length] := fun h => e h.symm
        simp only [e, if_false, e', false_or]
        exact hm
    · simp only [List.mem_cons] at hj
      rcases hj with rfl | hj
      · exact h1
      · exact hI.lt j hj
    · cases l1 with
      | nil =>
        simp at he
        obtain ⟨rfl, rfl⟩ := he
        exact h3 d hd
      | cons x l1 =>
        simp at he
        obtain ⟨_, rfl⟩ := he
        exact hI.order l1 j l2 rfl d hd

theorem lin_ext {m : Region.Mode} {ops : Array Oper} {wit : List Nat} (hw : Ext m ops wit) (t : Nat) : Ext m ops (Region.linearise m ops t) := by
  refine lin_go hw ops.size t _ [] ⟨by simp, fun i => ?_, by simp, List.nodup_nil, by intro l1 i l2 h; simp at h⟩ (by simp)
  simp only [Array.getD_eq_getD_getElem?, Array.getElem?_replicate]
  split <;> simp

theorem Ext.any {m : Region.Mode} {ops : Array Oper} {l : List Nat} (h : Ext m ops l) : Ext .any ops l :=
  ⟨h.nodup, h.all, fun l1 i l2 he d hd => h.order l1 i l2 he d (deps_sub hd)⟩

/-- The region can be listed in each of its modes. -/
def modesOK (ops : Array Oper) : Bool :=
  isExt .any ops (List.range ops.size) && (!Region.departs ops || (isExt .text ops (List.range ops.size) && isExt .gc ops (Region.linearise .gc ops 0)))

theorem sched_ext {ops : Array Oper} (h : modesOK ops = true) (mixed : Bool) (t : Nat) : Ext .any ops (Region.schedule mixed ops t) := by
  simp only [modesOK, Bool.and_eq_true, Bool.or_eq_true] at h
  unfold Region.schedule
  split
  · exact lin_ext (isExt_ext h.1) t
  · rename_i hd
    have hdep : Region.departs ops = true := by
      cases hdd : Region.departs ops with
      | true => rfl
      | false => simp [hdd] at hd
    have h2 := h.2.resolve_left (by simp [hdep])
    split
    · exact (lin_ext (isExt_ext h2.1) _).any
    · exact (lin_ext (isExt_ext h2.2) _).any

end Go.Proofs.Ytgcoipcnhmkeaaa.Ax
