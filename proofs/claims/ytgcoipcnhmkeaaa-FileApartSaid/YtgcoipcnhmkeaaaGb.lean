/- The texts Ax16, Ax17, Ax18, as one. -/
import Derived.Test.YtgcoipcnhmkeaaaGa

/-! AX, part 16: the orders that a region may draw -/
section
set_option linter.unusedVariables false
set_option linter.unusedSimpArgs false
namespace Go.Proofs.Ytgcoipcnhmkeaaa.Ax
open Go.RowKit

def depsM (m : Region.Mode) (ops : Array Oper) (i : Nat) : List Nat := ((ops.getD i default).after.toList.filter (Region.binds m)).map (·.on)
abbrev depsA (ops : Array Oper) (i : Nat) : List Nat := depsM .any ops i

theorem binds_any {m : Region.Mode} {e : Edge} (h : Region.binds .any e = true) : Region.binds m e = true := by
  unfold Region.binds at h ⊢
  split <;> simp_all

theorem deps_sub {m : Region.Mode} {ops : Array Oper} {i d : Nat} (h : d ∈ depsA ops i) : d ∈ depsM m ops i := by
  simp only [depsA, depsM, List.mem_map, List.mem_filter] at h ⊢
  obtain ⟨e, ⟨h1, h2⟩, h3⟩ := h
  exact ⟨e, ⟨h1, binds_any h2⟩, h3⟩

def reach (ops : Array Oper) : Nat → Nat → Nat → Bool
  | 0, _, _ => false
  | f + 1, i, j => (depsA ops i).contains j || (depsA ops i).any fun d => reach ops f d j

def Closed (ops : Array Oper) (L : List Nat) : Prop := ∀ i ∈ L, ∀ d ∈ depsA ops i, d ∈ L

theorem reach_mem {ops : Array Oper} {L : List Nat} (hL : Closed ops L) : ∀ (f i j : Nat), (∀ d ∈ depsA ops i, d ∈ L) → reach ops f i j = true → j ∈ L
  | 0, i, j, _, h => by simp [reach] at h
  | f + 1, i, j, hi, h => by
    simp only [reach, Bool.or_eq_true, List.contains_iff_mem, List.any_eq_true] at h
    rcases h with h | ⟨d, hd, h⟩
    · exact hi j h
    · exact reach_mem hL f d j (hL d (hi d hd)) h

/-! ### the lists that the machine draws -/
/-- Every index once, each behind what it hangs on. -/
structure Ext (m : Region.Mode) (ops : Array Oper) (l : List Nat) : Prop where
  nodup : l.Nodup
  all : ∀ i, i ∈ l ↔ i < ops.size
  order : ∀ l1 i l2, l = l1 ++ i :: l2 → ∀ d ∈ depsM m ops i, d ∈ l1

def extB (m : Region.Mode) (ops : Array Oper) : List Nat → List Nat → Bool
  | _, [] => true
  | seen, i :: rest => decide (i < ops.size) && !seen.contains i && (depsM m ops i).all (seen.contains ·) && extB m ops (i :: seen) rest

theorem extB_order {m : Region.Mode} {ops : Array Oper} : ∀ (l seen : List Nat), extB m ops seen l = true →
    l.Nodup ∧ (∀ i ∈ l, i < ops.size ∧ i ∉ seen) ∧ ∀ l1 i l2, l = l1 ++ i :: l2 → ∀ d ∈ depsM m ops i, d ∈ seen ∨ d ∈ l1
  | [], seen, _ => ⟨List.nodup_nil, by simp, by intro l1 i l2 h; simp at h⟩
  | j :: rest, seen, h => by
    simp only [extB, Bool.and_eq_true, decide_eq_true_eq, Bool.not_eq_true', List.all_eq_true, List.contains_iff_mem] at h
    obtain ⟨⟨⟨h1, h2⟩, h3⟩, h4⟩ := h
    have h2' : j ∉ seen := by simpa using h2
    obtain ⟨a, b, c⟩ := extB_order rest (j :: seen) h4
    refine ⟨List.nodup_cons.2 ⟨fun hj => (b j hj).2 (by simp), a⟩, fun i hi => ?_, fun l1 i l2 he d hd => ?_⟩
    · simp only [List.mem_cons] at hi
      rcases hi with rfl | hi
      · exact ⟨h1, h2'⟩
      · exact ⟨(b i hi).1, fun hs => (b i hi).2 (by simp [hs])⟩
    · cases l1 with
      | nil =>
        simp at he
        obtain ⟨rfl, rfl⟩ := he
        exact .inl (h3 d hd)
      | cons x l1 =>
        simp at he
        obtain ⟨rfl, rfl⟩ := he
        rcases c l1 i l2 rfl d hd with h | h
        · simp only [List.mem_cons] at h
          rcases h with rfl | h
          · exact .inr (by simp)
          · exact .inl h
        · exact .inr (by simp [h])

def isExt (m : Region.Mode) (ops : Array Oper) (l : List Nat) : Bool := extB m ops [] l && decide (l.length = ops.size)

theorem nodup_full {n : Nat} {l : List Nat} (hn : l.Nodup) (hb : ∀ i ∈ l, i < n) (hl : l.length = n) : ∀ i, i < n → i ∈ l := by
  intro i hi
  by_cases h : i ∈ l
  · exact h
  · have h1 : (i :: l).Nodup := List.nodup_cons.2 ⟨h, hn⟩
    have hsub : (i :: l) ⊆ List.range n := by
      intro x hx
      simp only [List.mem_cons] at hx
      rcases hx with rfl | hx
      · exact List.mem_range.2 hi
      · exact List.mem_range.2 (hb x hx)
    have := List.Nodup.length_le_of_subset h1 hsub
    simp at this
    omega

theorem isExt_ext {m : Region.Mode} {ops : Array Oper} {l : List Nat} (h : isExt m ops l = true) : Ext m ops l := by
  simp only [isExt, Bool.and_eq_true, decide_eq_true_eq] at h
  obtain ⟨a, b, c⟩ := extB_order l [] h.1
  refine ⟨a, fun i => ⟨fun hi => (b i hi).1, nodup_full a (fun i hi => (b i hi).1) h.2 i⟩, fun l1 i l2 he d hd => ?_⟩
  rcases c l1 i l2 he d hd with h | h
  · simp at h
  · exact h

structure LinInv (m : Region.Mode) (ops : Array Oper) (listed : Array Bool) (acc : List Nat) : Prop where
  size : listed.size = ops.size
  mem : ∀ i, listed.getD i false = true ↔ i ∈ acc
  lt : ∀ i ∈ acc, i < ops.size
  nodup : acc.Nodup
  order : ∀ l1 i l2, acc = l1 ++ i :: l2 → ∀ d ∈ depsM m ops i, d ∈ l2

theorem lin_go {m : Region.Mode} {ops : Array Oper} {wit : List Nat} (hw : Ext m ops wit) : ∀ (fuel t : Nat) (listed : Array Bool) (acc : List Nat), LinInv m ops listed acc → fuel + acc.length = ops.size →
    Ext m ops (Region.linearise.go m ops fuel t listed acc)
  | 0, t, listed, acc, hI, hl => by
    simp only [Region.linearise.go]
    have hfull := nodup_full hI.nodup hI.lt (by omega)
    refine ⟨List.pairwise_reverse.2 (hI.nodup.imp fun h => h.symm), fun i => ⟨fun hi => hI.lt i (by simpa using hi), fun hi => by simpa using hfull i hi⟩, fun l1 i l2 he d hd => ?_⟩
    have he' : acc = l2.reverse ++ i :: l1.reverse := by
      have := congrArg List.reverse he
      simpa using this
    have := hI.order _ i _ he' d hd
    simpa using this
  | fuel + 1, t, listed, acc, hI, hl => by
    simp only [Region.linearise.go]
    generalize hrs : ((List.range ops.size).filter fun i => !listed.getD i true && ((ops[i]?).map (·.after.all fun e => !Region.binds m e || listed.getD e.on false)).getD false) = rs
    have hrsmem : ∀ i, i ∈ rs ↔ i < ops.size ∧ i ∉ acc ∧ ∀ d ∈ depsM m ops i, d ∈ acc := by
      intro i
      rw [← hrs, List.mem_filter, List.mem_range]
      constructor
      · rintro ⟨h1, h2⟩
        simp only [Bool.and_eq_true, Bool.not_eq_true'] at h2
        have hli : i < listed.size := by rw [hI.size]; exact h1
        have h3 : listed.getD i false = false := by
          have := h2.1
          simp only [Array.getD_eq_getD_getElem?, Array.getElem?_eq_getElem hli, Option.getD_some] at this ⊢
          exact this
        refine ⟨h1, fun hi => by rw [(hI.mem i).2 hi] at h3; simp at h3, fun d hd => ?_⟩
        simp only [depsM, List.mem_map, List.mem_filter] at hd
        obtain ⟨e, ⟨he1, he2⟩, rfl⟩ := hd
        have h4 := h2.2
        rw [Array.getElem?_eq_getElem h1] at h4
        simp only [Option.map_some, Option.getD_some, Array.all_eq_true_iff_forall_mem] at h4
        have hget : ops.getD i default = ops[i] := by simp [Array.getD_eq_getD_getElem?, h1]
        rw [hget] at he1
        have := h4 e (by simpa using he1)
        rw [he2] at this
        simpa using (hI.mem e.on).1 (by simpa using this)
      · rintro ⟨h1, h2, h3⟩
        refine ⟨h1, ?_⟩
        simp only [Bool.and_eq_true, Bool.not_eq_true']
        have hli : i < listed.size := by rw [hI.size]; exact h1
        constructor
        · have : listed.getD i false ≠ true := fun h => h2 ((hI.mem i).1 h)
          simp only [Array.getD_eq_getD_getElem?, Array.getElem?_eq_getElem hli, Option.getD_some] at this ⊢
          simpa using this
        · rw [Array.getElem?_eq_getElem h1]
          simp only [Option.map_some, Option.getD_some, Array.all_eq_true_iff_forall_mem]
          intro e he
          cases hb : Region.binds m e with
          | false => rfl
          | true =>
            simp only [Bool.not_true, Bool.false_or]
            refine (hI.mem e.on).2 (h3 e.on ?_)
            simp only [depsM, List.mem_map, List.mem_filter]
            have hget : ops.getD i default = ops[i] := by simp [Array.getD_eq_getD_getElem?, h1]
            exact ⟨e, ⟨by rw [hget]; simpa using he, hb⟩, rfl⟩
    -- something can be listed
    have hne : rs ≠ [] := by
      -- the witness's first that isn't listed
      have key : ∀ (l1 l2 : List Nat), wit = l1 ++ l2 → (∀ i ∈ l1, i ∈ acc) → ∃ i, i ∈ rs := by
        intro l1 l2
        induction l2 generalizing l1 with
        | nil =>
          intro he hall
          exfalso
          simp at he
          have hsub : List.range ops.size ⊆ acc := fun i hi => hall i (by rw [← he]; exact (hw.all i).2 (List.mem_range.1 hi))
          have := List.Nodup.length_le_of_subset List.nodup_range hsub
          simp at this
          omega
        | cons i l2 ih =>
          intro he hall
          by_cases hi : i ∈ acc
          · refine ih (l1 ++ [i]) (by simp [he]) fun j hj => ?_
            simp only [List.mem_append, List.mem_singleton] at hj
            rcases hj with hj | rfl
            · exact hall j hj
            · exact hi
          · exact ⟨i, (hrsmem i).2 ⟨(hw.all i).1 (by rw [he]; simp), hi, fun d hd => hall d (hw.order l1 i l2 he d hd)⟩⟩
      obtain ⟨i, hi⟩ := key [] wit rfl (by simp)
      intro h; rw [h] at hi; simp at hi
    have hpos : 0 < rs.length := List.length_pos_iff.2 hne
    have hidx : t % rs.length < rs.length := Nat.mod_lt _ hpos
    rw [List.getElem?_eq_getElem hidx]
    simp only
    obtain ⟨h1, h2, h3⟩ := (hrsmem _).1 (List.getElem_mem hidx)
    refine lin_go hw fuel _ _ _ ⟨by simp [hI.size], fun j => ?_, fun j hj => ?_, List.nodup_cons.2 ⟨h2, hI.nodup⟩, fun l1 j l2 he d hd => ?_⟩ (by simp; omega)
    · have hm := hI.mem j
      simp only [Array.getD_eq_getD_getElem?, Array.getElem?_setIfInBounds, List.mem_cons] at hm ⊢
      by_cases e : rs[t % rs.length] = j
      · subst e
        have : rs[t % rs.length] < listed.size := by rw [hI.size]; exact h1
        simp [this]
      · have e' : ¬ j = rs[t % rs.length] := fun h => e h.symm
        simp only [e, if_false, e', false_or]
        exact hm
    · simp only [List.mem_cons] at hj
      rcases hj with rfl | hj
      · exact h1
      · exact hI.lt j hj
    · cases l1 with
      | nil =>
        simp at he
        obtain ⟨rfl, rfl⟩ := he
        exact h3 d hd
      | cons x l1 =>
        simp at he
        obtain ⟨_, rfl⟩ := he
        exact hI.order l1 j l2 rfl d hd

theorem lin_ext {m : Region.Mode} {ops : Array Oper} {wit : List Nat} (hw : Ext m ops wit) (t : Nat) : Ext m ops (Region.linearise m ops t) := by
  refine lin_go hw ops.size t _ [] ⟨by simp, fun i => ?_, by simp, List.nodup_nil, by intro l1 i l2 h; simp at h⟩ (by simp)
  simp only [Array.getD_eq_getD_getElem?, Array.getElem?_replicate]
  split <;> simp

theorem Ext.any {m : Region.Mode} {ops : Array Oper} {l : List Nat} (h : Ext m ops l) : Ext .any ops l :=
  ⟨h.nodup, h.all, fun l1 i l2 he d hd => h.order l1 i l2 he d (deps_sub hd)⟩

/-- The region can be listed in each of its modes. -/
def modesOK (ops : Array Oper) : Bool :=
  isExt .any ops (List.range ops.size) && (!Region.departs ops || (isExt .text ops (List.range ops.size) && isExt .gc ops (Region.linearise .gc ops 0)))

theorem sched_ext {ops : Array Oper} (h : modesOK ops = true) (mixed : Bool) (t : Nat) : Ext .any ops (Region.schedule mixed ops t) := by
  simp only [modesOK, Bool.and_eq_true, Bool.or_eq_true] at h
  unfold Region.schedule
  split
  · exact lin_ext (isExt_ext h.1) t
  · rename_i hd
    have hdep : Region.departs ops = true := by
      cases hdd : Region.departs ops with
      | true => rfl
      | false => simp [hdd] at hd
    have h2 := h.2.resolve_left (by simp [hdep])
    split
    · exact (lin_ext (isExt_ext h2.1) _).any
    · exact (lin_ext (isExt_ext h2.2) _).any

end Go.Proofs.Ytgcoipcnhmkeaaa.Ax
end

/-! AX, part 17: a region that draws its order -/
section
set_option linter.unusedVariables false
set_option linter.unusedSimpArgs false
namespace Go.Proofs.Ytgcoipcnhmkeaaa.Ax
open Go.RowKit

/-- An operation that may change memory. -/
def isE (C : Cx) (o : Oper) : Bool :=
  match o.op with
  | .alloc _ | .box _ _ | .buildSlice _ _ _ | .store _ _ _ | .makeMap _ _ | .makeSlice _ _ _ | .mapUpdate _ _ _ _ | .insert _ _ _ _ | .range _ _ | .next _ _ | .panic _ | .mapEntry _ _ _ | .entryStore _ _ _ _ | .defer _ | .go _ => true
  | .convert _ d _ => match C.kind d with
    | .slice _ => true
    | _ => false
  | .call c => match c.callee with
    | .builtin .len | .builtin .max | .builtin .min => false
    | _ => true
  | _ => false

/-- An operation that may look at memory. -/
def isRead (o : Oper) : Bool :=
  match o.op with
  | .load _ _ | .lookup _ _ _ _ | .convert _ _ _ | .call _ | .entry _ => true
  | _ => false

theorem pure_heap {C : Cx} {o : Oper} (hr : isRead o = false) (g : Operand → AV) (h h' : AH) : zb9 C o g h = zb9 C o g h' := by
  unfold isRead at hr
  unfold zb9
  split <;> first | rfl | (rename_i heq; rw [heq] at hr; simp at hr)

def opA (ops : Array Oper) (i : Nat) : Oper := ops.getD i default

/-- The temporaries that an operation names. -/
def namesA (ops : Array Oper) (i : Nat) : List Tmp :=
  (opA ops i).dst.toList ++ ((opA ops i).op.operands.toList.filterMap fun x => match x with | .tmp t => some t | _ => none) ++
    (match (opA ops i).guard with | some (j, _) => ((ops[j]?).bind (·.dst)).toList | none => [])

def schedWp (C : Cx) (ops : Array Oper) (Q : Post) : List Nat → List (Nat × AV × Env) → Env → AH → Prop
  | [], _, e, h => Q .normal e h
  | i :: rest, rs, e, h =>
    match qw9 ops e (opA ops i) with
    | none => False
    | some false => if isE C (opA ops i) then schedWp C ops Q rest rs (za9 e (opA ops i).dst .undef) h else schedWp C ops Q rest rs (za9 e (opA ops i).dst .undef) h
    | some true =>
      if isE C (opA ops i) then
        opWp C (opA ops i) (ev e) h
          (fun v h' => (∀ r ∈ rs, reach ops ops.size i r.1 = false → zb9 C (opA ops r.1) (ev r.2.2) h' = some r.2.1) ∧ schedWp C ops Q rest rs (za9 e (opA ops i).dst v) h')
          (fun v h' => Q (.panic v) [] h')
      else match zb9 C (opA ops i) (ev e) h with
        | some v => schedWp C ops Q rest (if isRead (opA ops i) then (i, v, e) :: rs else rs) (za9 e (opA ops i).dst v) h
        | none => False

/-! ### the list by which the abstract run goes -/
def fillN (C : Cx) (ops : Array Oper) : List Nat → List Nat → List Nat
  | [], done => done
  | i :: is, done => if !isE C (opA ops i) && !done.contains i && (depsA ops i).all (done.contains ·) then fillN C ops is (done ++ [i]) else fillN C ops is done

def canonOf (C : Cx) (ops : Array Oper) : List Nat → List Nat → List Nat
  | [], done => fillN C ops (List.range ops.size) done
  | e :: π, done => canonOf C ops π (fillN C ops (List.range ops.size) done ++ [e])

/-- Behind the last operation that changes memory: what hangs on it. -/
def lateB (C : Cx) (ops : Array Oper) : Option Nat → List Nat → Bool
  | _, [] => true
  | last, i :: rest => if isE C (opA ops i) then lateB C ops (some i) rest else (match last with | none => true | some e => reach ops ops.size i e) && lateB C ops last rest

def namesB (ops : Array Oper) : Bool :=
  (List.range ops.size).all fun i => (List.range ops.size).all fun w => w == i || (match (opA ops w).dst with
    | none => true
    | some t => !(namesA ops i).contains t || reach ops ops.size i w || reach ops ops.size w i)


structure Static (C : Cx) (ops : Array Oper) (c : List Nat) : Prop where
  ext : Ext .any ops c
  late : ∀ l1 i l2, c = l1 ++ i :: l2 → isE C (opA ops i) = false → ∀ e, (l1.filter fun j => isE C (opA ops j)).getLast? = some e → reach ops ops.size i e = true
  names : ∀ i w t, i < ops.size → w < ops.size → w ≠ i → t ∈ namesA ops i → (opA ops w).dst = some t → reach ops ops.size i w = true ∨ reach ops ops.size w i = true

def schedOK (C : Cx) (ops : Array Oper) (c : List Nat) : Bool := isExt .any ops c && lateB C ops none c && namesB ops

theorem lateB_late {C : Cx} {ops : Array Oper} : ∀ (c : List Nat) (last : Option Nat), lateB C ops last c = true → ∀ l1 i l2, c = l1 ++ i :: l2 → isE C (opA ops i) = false →
    ∀ e, ((l1.filter fun j => isE C (opA ops j)).getLast? = some e ∨ (l1.filter fun j => isE C (opA ops j)) = [] ∧ last = some e) → reach ops ops.size i e = true
  | [], last, h, l1, i, l2, he, _, _, _ => by simp at he
  | j :: rest, last, h, l1, i, l2, he, hi, e, hlast => by
    simp only [lateB] at h
    cases l1 with
    | nil =>
      simp at he
      obtain ⟨rfl, rfl⟩ := he
      rw [hi] at h
      simp only [Bool.false_eq_true, if_false, Bool.and_eq_true] at h
      rcases hlast with h1 | ⟨_, h1⟩
      · simp at h1
      · rw [h1] at h; exact h.1
    | cons x l1 =>
      simp at he
      obtain ⟨rfl, rfl⟩ := he
      split at h
      · rename_i hj
        refine lateB_late _ (some j) h l1 i l2 rfl hi e ?_
        rcases hlast with h1 | ⟨h1, _⟩
        · simp only [List.filter_cons, hj, if_true] at h1
          cases hf : l1.filter fun j => isE C (opA ops j) with
          | nil => rw [hf] at h1; simp at h1; exact .inr ⟨rfl, by rw [h1]⟩
          | cons y ys => rw [hf] at h1; left; rw [← h1]; simp [List.getLast?_cons_cons]
        · simp [hj] at h1
      · rename_i hj
        simp only [Bool.and_eq_true] at h
        refine lateB_late _ last h.2 l1 i l2 rfl hi e ?_
        have hj' : isE C (opA ops j) = false := by simpa using hj
        simpa [List.filter_cons, hj'] using hlast

theorem schedOK_static {C : Cx} {ops : Array Oper} {c : List Nat} (h : schedOK C ops c = true) : Static C ops c := by
  simp only [schedOK, Bool.and_eq_true] at h
  refine ⟨isExt_ext h.1.1, fun l1 i l2 he hi e hl => lateB_late c none h.1.2 l1 i l2 he hi e (.inl hl), fun i w t hi hw hne ht hd => ?_⟩
  have := h.2
  simp only [namesB, List.all_eq_true, List.mem_range] at this
  have h2 := this i hi w hw
  rw [hd] at h2
  simp only [Bool.or_eq_true, beq_iff_eq, hne, false_or, Bool.not_eq_true', List.contains_eq_mem, decide_eq_false_iff_not] at h2
  rcases h2 with (h2 | h2) | h2
  · exact absurd ht h2
  · exact .inl h2
  · exact .inr h2

/-! ### what has been put, newest first -/
abbrev Log := List (Nat × Option Tmp × AV)

def replay : Log → Env → Env
  | [], e => e
  | x :: l, e => za9 (replay l e) x.2.1 x.2.2

theorem putE_get (e : Env) (d : Option Tmp) (v : AV) (t : Nat) : (za9 e d v)[t]? = if d = some t then (if t < e.length then some v else none) else e[t]? := by
  cases d with
  | none => simp [za9]
  | some d =>
    simp only [za9, List.getElem?_set, Option.some.injEq]
    split <;> rename_i h
    · subst h; rfl
    · rfl

theorem putE_length (e : Env) (d : Option Tmp) (v : AV) : (za9 e d v).length = e.length := by cases d <;> simp [za9]

theorem replay_length : ∀ (l : Log) (e : Env), (replay l e).length = e.length
  | [], _ => rfl
  | x :: l, e => by simp [replay, putE_length, replay_length l e]

theorem replay_get : ∀ (l : Log) (e : Env) (t : Nat), (replay l e)[t]? = match (l.filter fun x => x.2.1 = some t) with
    | [] => e[t]?
    | x :: _ => if t < e.length then some x.2.2 else none
  | [], e, t => rfl
  | x :: l, e, t => by
    simp only [replay, putE_get, replay_length, List.filter_cons]
    by_cases h : x.2.1 = some t
    · simp [h]
    · simp only [h, if_false, decide_false, Bool.false_eq_true]
      exact replay_get l e t

theorem replay_same {l l' : Log} {t : Nat} (h : (l.filter fun x => x.2.1 = some t) = (l'.filter fun x => x.2.1 = some t)) (e : Env) : (replay l e)[t]? = (replay l' e)[t]? := by
  rw [replay_get, replay_get, h]

theorem ev_same {e1 e2 : Env} {ops : Array Oper} {i : Nat} (h : ∀ t ∈ namesA ops i, e1[t]? = e2[t]?) : ∀ x ∈ (opA ops i).op.operands.toList, ev e1 x = ev e2 x := by
  intro x hx
  cases x with
  | tmp t =>
    have : t ∈ namesA ops i := by
      simp only [namesA, List.mem_append, List.mem_filterMap]
      exact .inl (.inr ⟨.tmp t, hx, rfl⟩)
    simp only [ev, List.getD_eq_getElem?_getD, h t this]
  | _ => rfl

theorem wanted_same {e1 e2 : Env} {ops : Array Oper} {i : Nat} (h : ∀ t ∈ namesA ops i, e1[t]? = e2[t]?) : qw9 ops e1 (opA ops i) = qw9 ops e2 (opA ops i) := by
  unfold qw9
  cases hg : (opA ops i).guard with
  | none => rfl
  | some p =>
    obtain ⟨j, want⟩ := p
    simp only
    cases hd : (ops[j]?).bind (·.dst) with
    | none => rfl
    | some d =>
      have : d ∈ namesA ops i := by
        simp only [namesA, hg, List.mem_append]
        exact .inr (by rw [hd]; simp)
      simp only [List.getD_eq_getElem?_getD, h d this]

/-- Two logs give the same to a name, where what writes it is in both, in one order. -/
theorem filter_same {l l' : Log} {t : Nat} (p : Nat × Option Tmp × AV → Bool) (hl : l' = l.filter p) (h : ∀ x ∈ l, x.2.1 = some t → p x = true) : (l.filter fun x => x.2.1 = some t) = (l'.filter fun x => x.2.1 = some t) := by
  subst hl
  rw [List.filter_filter]
  refine List.filter_congr fun x hx => ?_
  by_cases e : x.2.1 = some t
  · simp [e, h x hx e]
  · simp [e]

end Go.Proofs.Ytgcoipcnhmkeaaa.Ax
end

/-! AX, part 18: whatever order is drawn, the machine does what the abstract run does in its own order -/
section
set_option linter.unusedVariables false
set_option linter.unusedSimpArgs false
namespace Go.Proofs.Ytgcoipcnhmkeaaa.Ax
open Go.RowKit

section
variable {C : Cx} {ops : Array Oper} {c : List Nat}

/-- Why an operation that is not done yet will put v. -/
def Just (C : Cx) (ops : Array Oper) (h : AH) (rs : List (Nat × AV × Env)) (i : Nat) (v : AV) (ei : Env) : Prop :=
  isE C (opA ops i) = false ∧
  (qw9 ops ei (opA ops i) = some true ∧ zb9 C (opA ops i) (ev ei) h = some v ∧ (isRead (opA ops i) = true → (i, v, ei) ∈ rs) ∨
   qw9 ops ei (opA ops i) = some false ∧ v = .undef)

structure Sim (C : Cx) (ops : Array Oper) (c : List Nat) (e0 : Env) (σ' L : List Nat) (log : Log) (c2 : List Nat) (rs : List (Nat × AV × Env)) (h : AH) : Prop where
  order : ∀ l1 i l2, σ' = l1 ++ i :: l2 → ∀ d ∈ depsA ops i, d ∈ L ∨ d ∈ l1
  nodup : (L ++ σ').Nodup
  all : ∀ i, (i ∈ L ∨ i ∈ σ') ↔ i < ops.size
  closed : Closed ops L
  canon : c = (log.map (·.1)).reverse ++ c2
  sub : ∀ i ∈ L, i ∈ log.map (·.1)
  effs : ∀ i ∈ log.map (·.1), isE C (opA ops i) = true → i ∈ L
  same : σ'.filter (fun i => isE C (opA ops i)) = c2.filter (fun i => isE C (opA ops i))
  dst : ∀ x ∈ log, x.2.1 = (opA ops x.1).dst
  pend : ∀ l2 x l1, log = l2 ++ x :: l1 → x.1 ∉ L → Just C ops h rs x.1 x.2.2 (replay l1 e0)

/-- Of c2 the first changes memory. -/
def AtE (C : Cx) (ops : Array Oper) : List Nat → Prop
  | [] => True
  | i :: _ => isE C (opA ops i) = true

theorem lastE {l : List Nat} {p : Nat → Bool} {x : Nat} (hx : x ∈ l) (hp : p x = true) : ∃ e, (l.filter p).getLast? = some e ∧ e ∈ l ∧ p e = true := by
  have hne : l.filter p ≠ [] := by
    intro h
    have := List.mem_filter.2 ⟨hx, hp⟩
    rw [h] at this; simp at this
  refine ⟨(l.filter p).getLast hne, by rw [List.getLast?_eq_some_getLast hne], ?_⟩
  exact List.mem_filter.1 (List.getLast_mem hne)

/-- The abstract run goes on to the next operation that changes memory. -/
theorem advance {Q : Post} {e0 : Env} {σ' L : List Nat} {h : AH} : ∀ (c2 : List Nat) (log : Log) (rs : List (Nat × AV × Env)), (hsub : ∀ i ∈ c2, i ∉ L) → Sim C ops c e0 σ' L log c2 rs h → schedWp C ops Q c2 rs (replay log e0) h →
    ∃ log' c2' rs', Sim C ops c e0 σ' L log' c2' rs' h ∧ AtE C ops c2' ∧ schedWp C ops Q c2' rs' (replay log' e0) h ∧ (log'.filter fun x => L.contains x.1) = (log.filter fun x => L.contains x.1)
  | [], log, rs, _, S, hw => ⟨log, [], rs, S, trivial, hw, rfl⟩
  | i :: c2, log, rs, hsub, S, hw => by
    cases hE : isE C (opA ops i) with
    | true => exact ⟨log, i :: c2, rs, S, hE, hw, rfl⟩
    | false =>
      have hiL : i ∉ L := hsub i (by simp)
      have step : ∀ v rs2, (∀ r ∈ rs, r ∈ rs2) → Just C ops h rs2 i v (replay log e0) → Sim C ops c e0 σ' L ((i, (opA ops i).dst, v) :: log) c2 rs2 h := by
        intro v rs2 hrs hj
        refine ⟨S.order, S.nodup, S.all, S.closed, by rw [S.canon]; simp, fun j hj => by simp [S.sub j hj], fun j hj hjE => ?_, ?_, fun x hx => ?_, fun l2 x l1 he hx => ?_⟩
        · simp only [List.map_cons, List.mem_cons] at hj
          rcases hj with rfl | hj
          · rw [hE] at hjE; simp at hjE
          · exact S.effs j hj hjE
        · rw [S.same]; simp [hE]
        · simp only [List.mem_cons] at hx
          rcases hx with rfl | hx
          · rfl
          · exact S.dst x hx
        · cases l2 with
          | nil =>
            simp at he
            obtain ⟨rfl, rfl⟩ := he
            exact hj
          | cons y l2 =>
            simp at he
            obtain ⟨_, rfl⟩ := he
            obtain ⟨a, b⟩ := S.pend l2 x l1 rfl hx
            refine ⟨a, ?_⟩
            rcases b with ⟨b1, b2, b3⟩ | b
            · exact .inl ⟨b1, b2, fun hr => hrs _ (b3 hr)⟩
            · exact .inr b
      have hkeep : ∀ v, (((i, (opA ops i).dst, v) :: log).filter fun x => L.contains x.1) = (log.filter fun x => L.contains x.1) := by
        intro v
        rw [List.filter_cons]
        simp [hiL]
      simp only [schedWp, hE, Bool.false_eq_true, if_false] at hw
      split at hw
      · exact hw.elim
      · rename_i hwant
        have S2 := step .undef rs (fun _ h => h) ⟨hE, .inr ⟨hwant, rfl⟩⟩
        obtain ⟨log', c2', rs', a1, a2, a3, a4⟩ := advance c2 _ rs (fun j hj => hsub j (by simp [hj])) S2 (by simpa [replay] using hw)
        exact ⟨log', c2', rs', a1, a2, a3, a4.trans (hkeep _)⟩
      · rename_i hwant
        split at hw
        · rename_i v hv
          have S2 := step v (if isRead (opA ops i) = true then (i, v, replay log e0) :: rs else rs) (fun r hr => by split <;> simp [hr]) ⟨hE, .inl ⟨hwant, hv, fun hr => by simp [hr]⟩⟩
          obtain ⟨log', c2', rs', a1, a2, a3, a4⟩ := advance c2 _ _ (fun j hj => hsub j (by simp [hj])) S2 (by simpa [replay] using hw)
          exact ⟨log', c2', rs', a1, a2, a3, a4.trans (hkeep _)⟩
        · exact hw.elim

theorem putE_filter {l2 l1 : Log} {i : Nat} {d : Option Tmp} {v : AV} {e0 : Env} (h : ∀ x ∈ l2, d ≠ none → x.2.1 ≠ d) : replay (l2 ++ (i, d, v) :: l1) e0 = za9 (replay (l2 ++ l1) e0) d v := by
  apply List.ext_getElem?
  intro t
  rw [putE_get, replay_length, replay_get, replay_get]
  rw [List.filter_append, List.filter_append, List.filter_cons]
  by_cases ht : d = some t
  · have hn : (l2.filter fun x => x.2.1 = some t) = [] := by
      rw [List.filter_eq_nil_iff]
      intro x hx hcon
      simp at hcon
      exact h x hx (by rw [ht]; simp) (by rw [hcon, ht])
    rw [hn]
    simp [ht]
  · simp only [ht, decide_false, Bool.false_eq_true, if_false]

theorem sim_run (ok : C.OK) (hS : Static C ops c) {Q : Post} {e0 : Env} {ρ0 : Rho} : ∀ (σ' L : List Nat) (log : Log) (c2 : List Nat) (rs : List (Nat × AV × Env)) (h : AH) (ρ : Rho) (a : Act) (W : World),
    Sim C ops c e0 σ' L log c2 rs h → AtE C ops c2 → ρ0 <+: ρ → Rel C.W0 ρ h W → ERel ρ (replay (log.filter fun x => L.contains x.1) e0) a → schedWp C ops Q c2 rs (replay log e0) h →
    wpOps C.P ops (QR C ρ0 Q) σ' a W
  | [], L, log, c2, rs, h, ρ, a, W, S, hat, hp, R, E, hw => by
    have hc2 : c2 = [] := by
      cases c2 with
      | nil => rfl
      | cons i c2 =>
        have := S.same
        simp only [AtE] at hat
        simp [hat] at this
    subst hc2
    have hall : (log.filter fun x => L.contains x.1) = log := by
      rw [List.filter_eq_self]
      intro x hx
      have hx2 : x.1 ∈ c := by rw [S.canon]; simp; exact ⟨_, _, hx⟩
      have := (hS.ext.all x.1).1 hx2
      have := (S.all x.1).2 this
      simp at this
      simpa using this
    rw [hall] at E
    exact ⟨ρ, _, h, hw, hp, R, E⟩
  | i :: σ', L, log, c2, rs, h, ρ, a, W, S, hat, hp, R, E, hw => by
    have hin : i < ops.size := (S.all i).1 (.inr (by simp))
    have hready : ∀ d ∈ depsA ops i, d ∈ L := fun d hd => by
      rcases S.order [] i σ' rfl d hd with h | h
      · exact h
      · simp at h
    have hiL : i ∉ L := by
      have := S.nodup
      rw [List.nodup_append] at this
      exact fun hi => this.2.2 i hi i (by simp) rfl
    have hcn : c.Nodup := hS.ext.nodup
    have hlogn : (log.map (·.1)).Nodup := by
      rw [S.canon] at hcn
      have := (List.nodup_append.1 hcn).1
      exact ((List.reverse_perm (log.map (·.1))).nodup_iff).1 this
    have hdisj : ∀ x, x ∈ log.map (·.1) → x ∈ c2 → False := by
      intro x h1 h2
      rw [S.canon] at hcn
      exact (List.nodup_append.1 hcn).2.2 x (by simpa using h1) x h2 rfl
    have hoi : ops[i]? = some (opA ops i) := by
      unfold opA
      rw [Array.getD_eq_getD_getElem?, Array.getElem?_eq_getElem hin]
      rfl
    -- what is the same whether i is done or not
    have structs : ∀ L', L' = i :: L → (∀ l1 j l2, σ' = l1 ++ j :: l2 → ∀ d ∈ depsA ops j, d ∈ L' ∨ d ∈ l1) ∧ (L' ++ σ').Nodup ∧ (∀ j, (j ∈ L' ∨ j ∈ σ') ↔ j < ops.size) ∧ Closed ops L' := by
      intro L' e
      subst e
      refine ⟨fun l1 j l2 he d hd => ?_, ?_, fun j => ?_, fun j hj d hd => ?_⟩
      · rcases S.order (i :: l1) j l2 (by simp [he]) d hd with h | h
        · exact .inl (by simp [h])
        · simp only [List.mem_cons] at h
          rcases h with rfl | h
          · exact .inl (by simp)
          · exact .inr h
      · have := S.nodup
        have hperm : (L ++ i :: σ').Perm (i :: L ++ σ') := List.perm_middle
        exact (hperm.nodup_iff).1 this
      · rw [← S.all j]
        simp only [List.mem_cons]
        constructor
        · rintro ((h | h) | h)
          · exact .inr (.inl h)
          · exact .inl h
          · exact .inr (.inr h)
        · rintro (h | h | h)
          · exact .inl (.inr h)
          · exact .inl (.inl h)
          · exact .inr h
      · simp only [List.mem_cons] at hj
        rcases hj with rfl | hj
        · simp [hready d hd]
        · simp [S.closed j hj d hd]
    have reachL : ∀ j, reach ops ops.size i j = true → j ∈ L := fun j hj => reach_mem S.closed _ i j hready hj
    -- of canonical lists: what is reached stands ahead
    have reachC : ∀ l1 w l2 j, c = l1 ++ w :: l2 → reach ops ops.size w j = true → j ∈ l1 := by
      intro l1 w l2 j he hr
      refine reach_mem (L := l1) (fun x hx d hd => ?_) _ w j (fun d hd => hS.ext.order l1 w l2 he d hd) hr
      obtain ⟨s, t, hst⟩ := List.append_of_mem hx
      have : c = s ++ x :: (t ++ w :: l2) := by rw [he, hst]; simp
      have := hS.ext.order _ _ _ this d hd
      rw [hst]; simp [this]
    have hlt : ∀ x ∈ log, x.1 < ops.size := fun x hx => (hS.ext.all x.1).1 (by rw [S.canon]; simp; exact .inl ⟨_, _, hx⟩)
    by_cases hpend : i ∈ log.map (·.1)
    · -- it has been done in the abstract run
      obtain ⟨x, hx, hxi⟩ := List.mem_map.1 hpend
      obtain ⟨l2, l1, hlog⟩ := List.append_of_mem hx
      obtain ⟨xi, xd, xv⟩ := x
      simp only at hxi
      subst hxi
      have hxd : xd = (opA ops xi).dst := S.dst _ hx
      obtain ⟨hE, hjust⟩ := S.pend l2 (xi, xd, xv) l1 hlog hiL
      simp only at hE hjust
      have hcs : c = (l1.map (·.1)).reverse ++ xi :: ((l2.map (·.1)).reverse ++ c2) := by rw [S.canon, hlog]; simp
      have hne2 : ∀ y ∈ l2, y.1 ≠ xi := by
        intro y hy he
        rw [hlog] at hlogn
        simp only [List.map_append, List.map_cons] at hlogn
        exact (List.nodup_append.1 hlogn).2.2 y.1 (List.mem_map.2 ⟨y, hy, rfl⟩) xi (by simp) he
      have hne1 : ∀ y ∈ l1, y.1 ≠ xi := by
        intro y hy he
        rw [hlog] at hlogn
        simp only [List.map_append, List.map_cons] at hlogn
        have := (List.nodup_append.1 hlogn).2.1
        exact (List.nodup_cons.1 this).1 (List.mem_map.2 ⟨y, hy, he⟩)
      -- later ones that are done write none of its names
      have clean2 : ∀ y ∈ l2, L.contains y.1 = true → ∀ t ∈ namesA ops xi, y.2.1 ≠ some t := by
        intro y hy hyL t ht hyd
        have hyl : y ∈ log := by rw [hlog]; simp [hy]
        rw [S.dst y hyl] at hyd
        rcases hS.names xi y.1 t hin (hlt y hyl) (hne2 y hy) ht hyd with hr | hr
        · -- it would stand ahead of it
          have h3 := reachC _ _ _ y.1 hcs hr
          rw [hlog] at hlogn
          simp only [List.map_append, List.map_cons] at hlogn
          exact (List.nodup_append.1 hlogn).2.2 y.1 (List.mem_map.2 ⟨y, hy, rfl⟩) y.1 (by simp at h3 ⊢; exact .inr h3) rfl
        · have : xi ∈ L := reach_mem S.closed _ y.1 xi (fun d hd => S.closed y.1 (by simpa using hyL) d hd) hr
          exact hiL this
      -- earlier ones that write its names are done
      have done1 : ∀ y ∈ l1, ∀ t ∈ namesA ops xi, y.2.1 = some t → L.contains y.1 = true := by
        intro y hy t ht hyd
        have hyl : y ∈ log := by rw [hlog]; simp [hy]
        rw [S.dst y hyl] at hyd
        rcases hS.names xi y.1 t hin (hlt y hyl) (hne1 y hy) ht hyd with hr | hr
        · simpa using reachL _ hr
        · exfalso
          obtain ⟨s, u, hsu⟩ := List.append_of_mem (List.mem_reverse.2 (List.mem_map.2 ⟨y, hy, rfl⟩) : y.1 ∈ (l1.map (·.1)).reverse)
          have hc3 : c = s ++ y.1 :: (u ++ xi :: ((l2.map (·.1)).reverse ++ c2)) := by rw [hcs, hsu]; simp
          have h3 := reachC _ _ _ xi hc3 hr
          have : xi ∈ (l1.map (·.1)).reverse := by rw [hsu]; simp [h3]
          simp at this
          obtain ⟨b, d, hbd⟩ := this
          exact hne1 _ hbd rfl
      have hfil : (log.filter fun x => L.contains x.1) = (l2.filter fun x => L.contains x.1) ++ (l1.filter fun x => L.contains x.1) := by
        rw [hlog, List.filter_append, List.filter_cons]
        simp [hiL]
      have hsameT : ∀ t ∈ namesA ops xi, (replay l1 e0)[t]? = (replay (log.filter fun x => L.contains x.1) e0)[t]? := by
        intro t ht
        refine replay_same ?_ e0
        rw [hfil, List.filter_append]
        have h2 : ((l2.filter fun x => L.contains x.1).filter fun x => x.2.1 = some t) = [] := by
          rw [List.filter_eq_nil_iff]
          intro y hy hcon
          have hy2 := List.mem_filter.1 hy
          exact clean2 y hy2.1 hy2.2 t ht (by simpa using hcon)
        rw [h2, List.nil_append]
        exact filter_same _ rfl fun y hy hyt => done1 y hy t ht hyt
      -- the next state
      have hnext : ∀ V, VRel ρ xv V → wpOps C.P ops (QR C ρ0 Q) σ' (a.put (opA ops xi).dst V) W := by
        intro V hV
        obtain ⟨s1, s2, s3, s4⟩ := structs (xi :: L) rfl
        refine sim_run ok hS σ' (xi :: L) log c2 rs h ρ _ W ⟨s1, s2, s3, s4, S.canon, fun j hj => ?_, fun j hj hjE => by simp [S.effs j hj hjE], ?_, S.dst, fun l2' x' l1' he hx' => ?_⟩ hat hp R ?_ hw
        · simp only [List.mem_cons] at hj
          rcases hj with rfl | hj
          · exact hpend
          · exact S.sub j hj
        · have := S.same
          simpa [List.filter_cons, hE] using this
        · exact S.pend l2' x' l1' he (fun h => hx' (by simp [h]))
        · have hf2 : (log.filter fun x => (xi :: L).contains x.1) = (l2.filter fun x => L.contains x.1) ++ (xi, (opA ops xi).dst, xv) :: (l1.filter fun x => L.contains x.1) := by
            rw [hlog, List.filter_append, List.filter_cons]
            have e2 : (l2.filter fun x => (xi :: L).contains x.1) = (l2.filter fun x => L.contains x.1) := List.filter_congr fun y hy => by
              have := hne2 y hy
              simp [this]
            have e1 : (l1.filter fun x => (xi :: L).contains x.1) = (l1.filter fun x => L.contains x.1) := List.filter_congr fun y hy => by
              have := hne1 y hy
              simp [this]
            rw [e1, e2, ← hxd]
            simp
          rw [hf2, putE_filter (fun y hy hdn hyd => ?_), ← hfil]
          · exact put_rel E _ hV
          · have hy2 := List.mem_filter.1 hy
            obtain ⟨t, ht⟩ := Option.ne_none_iff_exists'.1 hdn
            refine clean2 y hy2.1 hy2.2 t ?_ (by rw [hyd, ht])
            simp only [namesA, List.mem_append]
            exact .inl (.inl (by rw [ht]; simp))
      simp only [wpOps, hoi]
      have hwsame := wanted_same hsameT
      rcases hjust with ⟨hwant, hv, _⟩ | ⟨hwant, hv⟩
      · rw [hwsame] at hwant
        rw [wanted_rel E hwant]
        simp only [if_true]
        left
        obtain ⟨V, hrun, hVr⟩ := evalN_sound ok R (fun x hx => by rw [ev_same hsameT x hx]; exact ev_rel E x) hv
        rw [Oper.wp, hrun, Oper.upon_value]
        exact hnext V hVr
      · rw [hwsame] at hwant
        rw [wanted_rel E hwant]
        simp only [Bool.false_eq_true, if_false]
        subst hv
        exact hnext undef (undef_rel ρ)
    · -- it is the next that changes memory
      have hic2 : i ∈ c2 := by
        have : i ∈ c := (hS.ext.all i).2 hin
        rw [S.canon] at this
        simp only [List.mem_append, List.mem_reverse] at this
        rcases this with h | h
        · exact absurd h hpend
        · exact h
      obtain ⟨k, c3, hk⟩ : ∃ k c3, c2 = k :: c3 := by
        cases c2 with
        | nil => simp at hic2
        | cons k c3 => exact ⟨k, c3, rfl⟩
      subst hk
      simp only [AtE] at hat
      have hiE : isE C (opA ops i) = true := by
        cases hE : isE C (opA ops i) with
        | true => rfl
        | false =>
          exfalso
          obtain ⟨s, u, hsu⟩ := List.append_of_mem hic2
          have hs0 : s ≠ [] := by
            intro h; rw [h] at hsu; simp at hsu
            rw [hsu.1] at hat; rw [hat] at hE; simp at hE
          have hks : k ∈ s := by
            cases s with
            | nil => exact absurd rfl hs0
            | cons y s => simp at hsu; simp [hsu.1]
          obtain ⟨e, he1, he2, he3⟩ := lastE (p := fun j => isE C (opA ops j)) (l := s) hks hat
          have hcc : c = ((log.map (·.1)).reverse ++ s) ++ i :: u := by rw [S.canon, hsu]; simp
          have hlast : ((((log.map (·.1)).reverse ++ s).filter fun j => isE C (opA ops j)).getLast?) = some e := by
            rw [List.filter_append]
            rw [List.getLast?_append, he1]
            rfl
          have hr := hS.late _ i u hcc hE e hlast
          have heL := reachL e hr
          exact hdisj e (S.sub e heL) (by rw [hsu]; simp [he2])
      have hki : k = i := by
        have := S.same
        simp only [List.filter_cons, hiE, hat, if_true] at this
        exact (List.cons.inj this).1.symm
      subst hki
      have hsame' : σ'.filter (fun i => isE C (opA ops i)) = c3.filter (fun i => isE C (opA ops i)) := by
        have := S.same
        simp only [List.filter_cons, hiE, if_true] at this
        exact (List.cons.inj this).2
      have hcs : c = (log.map (·.1)).reverse ++ k :: c3 := S.canon
      -- nothing that is not done writes its names
      have doneAll : ∀ y ∈ log, ∀ t ∈ namesA ops k, y.2.1 = some t → L.contains y.1 = true := by
        intro y hy t ht hyd
        rw [S.dst y hy] at hyd
        have hne : y.1 ≠ k := fun h => hpend (h ▸ List.mem_map.2 ⟨y, hy, rfl⟩)
        rcases hS.names k y.1 t hin (hlt y hy) hne ht hyd with hr | hr
        · simpa using reachL _ hr
        · exfalso
          obtain ⟨s, u, hsu⟩ := List.append_of_mem (List.mem_reverse.2 (List.mem_map.2 ⟨y, hy, rfl⟩) : y.1 ∈ (log.map (·.1)).reverse)
          have hc3 : c = s ++ y.1 :: (u ++ k :: c3) := by rw [hcs, hsu]; simp
          have h3 := reachC _ _ _ k hc3 hr
          have : k ∈ (log.map (·.1)).reverse := by rw [hsu]; simp [h3]
          exact hpend (by simpa using this)
      have hsameT : ∀ t ∈ namesA ops k, (replay log e0)[t]? = (replay (log.filter fun x => L.contains x.1) e0)[t]? :=
        fun t ht => replay_same (filter_same _ rfl fun y hy hyt => doneAll y hy t ht hyt) e0
      -- the next state
      have hnext : ∀ ρ' v h' V W', ρ <+: ρ' → Rel C.W0 ρ' h' W' → VRel ρ' v V → (∀ r ∈ rs, reach ops ops.size k r.1 = false → zb9 C (opA ops r.1) (ev r.2.2) h = some r.2.1 → zb9 C (opA ops r.1) (ev r.2.2) h' = some r.2.1) →
          schedWp C ops Q c3 rs (za9 (replay log e0) (opA ops k).dst v) h' → wpOps C.P ops (QR C ρ0 Q) σ' (a.put (opA ops k).dst V) W' := by
        intro ρ' v h' V W' hp' R' hV hchk hw'
        obtain ⟨s1, s2, s3, s4⟩ := structs (k :: L) rfl
        have S2 : Sim C ops c e0 σ' (k :: L) ((k, (opA ops k).dst, v) :: log) c3 rs h' := by
          refine ⟨s1, s2, s3, s4, by rw [hcs]; simp, fun j hj => ?_, fun j hj hjE => ?_, hsame', fun x hx => ?_, fun l2 x l1 he hx => ?_⟩
          · simp only [List.mem_cons] at hj
            rcases hj with rfl | hj
            · simp
            · simp [S.sub j hj]
          · simp only [List.map_cons, List.mem_cons] at hj
            rcases hj with rfl | hj
            · simp
            · simp [S.effs j hj hjE]
          · simp only [List.mem_cons] at hx
            rcases hx with rfl | hx
            · rfl
            · exact S.dst x hx
          · cases l2 with
            | nil =>
              simp at he
              obtain ⟨rfl, rfl⟩ := he
              simp at hx
            | cons y l2 =>
              simp at he
              obtain ⟨_, hlog⟩ := he
              have hxL : x.1 ∉ L := fun h => hx (by simp [h])
              obtain ⟨hE, hj⟩ := S.pend l2 x l1 hlog hxL
              refine ⟨hE, ?_⟩
              rcases hj with ⟨b1, b2, b3⟩ | b
              · refine .inl ⟨b1, ?_, b3⟩
                cases hr : isRead (opA ops x.1) with
                | false => rw [pure_heap hr _ h' h]; exact b2
                | true =>
                  refine hchk _ (b3 hr) ?_ b2
                  cases hrr : reach ops ops.size k x.1 with
                  | false => rfl
                  | true => exact absurd (reachL _ hrr) hxL
              · exact .inr b
        have hc3L : ∀ j ∈ c3, j ∉ k :: L := by
          intro j hj hjL
          simp only [List.mem_cons] at hjL
          rcases hjL with rfl | hjL
          · rw [hcs] at hcn
            exact (List.nodup_cons.1 (List.nodup_append.1 hcn).2.1).1 hj
          · exact hdisj j (S.sub j hjL) (by simp [hj])
        obtain ⟨log', c2', rs', a1, a2, a3, a4⟩ := advance (Q := Q) c3 _ rs hc3L S2 (by simpa [replay] using hw')
        refine sim_run ok hS σ' (k :: L) log' c2' rs' h' ρ' _ W' a1 a2 (hp.trans hp') R' ?_ a3
        rw [a4]
        have hfl : ((((k, (opA ops k).dst, v) :: log).filter fun x => (k :: L).contains x.1)) = (k, (opA ops k).dst, v) :: (log.filter fun x => L.contains x.1) := by
          rw [List.filter_cons]
          have e1 : (log.filter fun x => (k :: L).contains x.1) = (log.filter fun x => L.contains x.1) := List.filter_congr fun y hy => by
            have hne : y.1 ≠ k := fun h => hpend (h ▸ List.mem_map.2 ⟨y, hy, rfl⟩)
            simp [hne]
          rw [e1]
          simp
        rw [hfl]
        simp only [replay]
        exact put_rel (E.mono hp') _ hV
      simp only [wpOps, hoi]
      have hwsame := wanted_same hsameT
      simp only [schedWp, hiE, if_true] at hw
      split at hw
      · exact hw.elim
      · rename_i hwant
        rw [hwsame] at hwant
        rw [wanted_rel E hwant]
        simp only [Bool.false_eq_true, if_false]
        exact hnext ρ .undef h undef W (List.prefix_refl _) R (undef_rel ρ) (fun r hr hrr hh => hh) hw
      · rename_i hwant
        rw [hwsame] at hwant
        rw [wanted_rel E hwant]
        simp only [if_true]
        left
        refine opWp_sound ok R (fun x hx => by rw [ev_same hsameT x hx]; exact ev_rel E x) hw (fun ρ' v h' V W' hp' R' hr hk => ?_) (fun ρ' v h' V W' hp' R' hr hk => ?_)
        · exact hnext ρ' v h' V W' hp' R' hr (fun r h1 h2 _ => hk.1 r h1 h2) hk.2
        · exact ⟨ρ', h', v, V, rfl, hk, hp.trans hp', R', E.defers, hr⟩

/-! ### all orders of the operations that change memory -/
def orderOK (ops : Array Oper) : List Nat → Bool
  | [] => true
  | a :: l => l.all (fun b => !reach ops ops.size a b) && orderOK ops l

/-- All orders that keep what hangs on what. -/
def linE (ops : Array Oper) : Nat → List Nat → List (List Nat)
  | 0, _ => [[]]
  | n + 1, l => l.flatMap fun a => if (l.erase a).all (fun b => !reach ops ops.size a b) then (linE ops n (l.erase a)).map (a :: ·) else []

theorem mem_linE (ops : Array Oper) : ∀ (p l : List Nat), p.Perm l → orderOK ops p = true → p ∈ linE ops l.length l
  | [], l, h, _ => by
    have : l = [] := List.Perm.eq_nil h.symm
    subst this
    simp [linE]
  | a :: p, l, h, ho => by
    have ha : a ∈ l := h.mem_iff.1 (by simp)
    have hp : p.Perm (l.erase a) := (List.perm_cons a).1 (h.trans (List.perm_cons_erase ha))
    have hl : l.length = (l.erase a).length + 1 := by rw [← hp.length_eq, ← h.length_eq]; simp
    simp only [orderOK, Bool.and_eq_true, List.all_eq_true] at ho
    rw [hl]
    simp only [linE, List.mem_flatMap]
    refine ⟨a, ha, ?_⟩
    have hall : (l.erase a).all (fun b => !reach ops ops.size a b) = true := by
      rw [List.all_eq_true]
      intro b hb
      exact ho.1 b (hp.mem_iff.2 hb)
    rw [if_pos hall]
    exact List.mem_map.2 ⟨p, mem_linE ops p _ hp ho.2, rfl⟩

/-- The orders in which the operations that change memory may come. -/
def effOrders (C : Cx) (ops : Array Oper) : List (List Nat) :=
  linE ops ((List.range ops.size).filter fun i => isE C (opA ops i)).length ((List.range ops.size).filter fun i => isE C (opA ops i))

/-- In each of them, the list by which the abstract run goes. -/
def canons (C : Cx) (ops : Array Oper) : List (List Nat) := (effOrders C ops).map fun π => canonOf C ops π []

def drawB (C : Cx) (ops : Array Oper) : Bool :=
  modesOK ops && (effOrders C ops).all fun π => schedOK C ops (canonOf C ops π []) && ((canonOf C ops π []).filter fun i => isE C (opA ops i)) == π

theorem ext_order {ops : Array Oper} {l : List Nat} (h : Ext .any ops l) {l1 : List Nat} {i : Nat} {l2 : List Nat} (he : l = l1 ++ i :: l2) {j : Nat} (hr : reach ops ops.size i j = true) : j ∈ l1 := by
  refine reach_mem (L := l1) (fun x hx d hd => ?_) _ i j (fun d hd => h.order l1 i l2 he d hd) hr
  obtain ⟨s, t, hst⟩ := List.append_of_mem hx
  have : l = s ++ x :: (t ++ i :: l2) := by rw [he, hst]; simp
  have := h.order _ _ _ this d hd
  rw [hst]; simp [this]

theorem orderOK_of {ops : Array Oper} {l : List Nat} (h : Ext .any ops l) (p : Nat → Bool) : ∀ (l1 l2 : List Nat), l = l1 ++ l2 → orderOK ops (l2.filter p) = true
  | l1, [], _ => rfl
  | l1, i :: l2, he => by
    have ih := orderOK_of h p (l1 ++ [i]) l2 (by simp [he])
    rw [List.filter_cons]
    split
    · simp only [orderOK, Bool.and_eq_true, List.all_eq_true, Bool.not_eq_true']
      refine ⟨fun b hb => ?_, ih⟩
      cases hr : reach ops ops.size i b with
      | false => rfl
      | true =>
        exfalso
        have h1 := ext_order h he hr
        have hn := h.nodup
        rw [he] at hn
        have := (List.nodup_append.1 hn).2.2 b h1 b (by simp [(List.mem_filter.1 hb).1])
        exact this rfl
    · exact ih

theorem exec_draw (ok : C.OK) {id : Nat} {Q : Post} {e : Env} {h : AH} (hB : drawB C ops = true) (hw : ∀ c ∈ canons C ops, schedWp C ops Q c [] e h) : Exec C (.region id ops true) e h Q := by
  intro ρ a W R E
  refine wp_region_draw fun t => ?_
  simp only [drawB, Bool.and_eq_true, List.all_eq_true, beq_iff_eq] at hB
  have hσ := sched_ext hB.1 (C.P.follows .mixedOrders) t
  generalize Region.schedule (C.P.follows .mixedOrders) ops t = σ at hσ
  have hπ : σ.filter (fun i => isE C (opA ops i)) ∈ effOrders C ops := by
    refine mem_linE ops _ _ ?_ (orderOK_of hσ _ [] σ rfl)
    refine List.Perm.filter _ ?_
    rw [List.perm_ext_iff_of_nodup hσ.nodup List.nodup_range]
    intro i
    rw [hσ.all, List.mem_range]
  obtain ⟨hs, hf⟩ := hB.2 _ hπ
  have hS := schedOK_static hs
  have hcw := hw _ (List.mem_map.2 ⟨_, hπ, rfl⟩)
  generalize canonOf C ops (σ.filter fun i => isE C (opA ops i)) [] = c at hs hf hS hcw
  have S0 : Sim C ops c e σ [] [] c [] h := by
    refine ⟨fun l1 i l2 he d hd => .inr (hσ.order l1 i l2 he d hd), by simpa using hσ.nodup, fun i => by simpa using hσ.all i, fun i hi => by simp at hi, by simp, by simp, by simp, hf.symm, by simp, fun l2 x l1 he => by simp at he⟩
  obtain ⟨log', c2', rs', a1, a2, a3, a4⟩ := advance (Q := Q) c [] [] (by simp) S0 (by simpa [replay] using hcw)
  refine sim_run ok hS σ [] log' c2' rs' h ρ a _ a1 a2 (List.prefix_refl _) R.drew ?_ a3
  rw [a4]
  exact E

end
end Go.Proofs.Ytgcoipcnhmkeaaa.Ax
end
