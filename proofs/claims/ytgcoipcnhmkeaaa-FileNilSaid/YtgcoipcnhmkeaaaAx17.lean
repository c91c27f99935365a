/- AX, part 17: a region that draws its order. -/
import Derived.Test.YtgcoipcnhmkeaaaAx16
set_option linter.unusedVariables false
set_option linter.unusedSimpArgs false
namespace Go.Proofs.Ytgcoipcnhmkeaaa.Ax
open Go.RowKit

/-- An operation that may change memory. -/
def isE (C : Cx) (o : Oper) : Bool :=
  match o.op with
  | .alloc _ | .box _ _ | .buildSlice _ _ _ | .store _ _ _ | .makeMap _ _ | .makeSlice _ _ _ | .mapUpdate _ _ _ _ | .insert _ _ _ _ | .range _ _ | .next _ _ | .panic _ | .mapEntry _ _ _ | .entryStore _ _ _ _ | .defer _ | .go _ => true
  | .convert _ d _ => match C.kind d with
    | .slice _ => true
    | _ => false
  | .call c => match c.callee with
    | .builtin .len | .builtin .max | .builtin .min => false
    | _ => true
  | _ => false

/-- An operation that may look at memory. -/
def isRead (o : Oper) : Bool :=
  match o.op with
  | .load _ _ | .lookup _ _ _ _ | .convert _ _ _ | .call _ => true
  | _ => false

theorem pure_heap {C : Cx} {o : Oper} (hr : isRead o = false) (g : Operand → AV) (h h' : AH) : evalN C o g h = evalN C o g h' := by
  unfold isRead at hr
  unfold evalN
  split <;> first | rfl | (rename_i heq; rw [heq] at hr; simp at hr)

def opA (ops : Array Oper) (i : Nat) : Oper := ops.getD i default

/-- The temporaries that an operation names. -/
def namesA (ops : Array Oper) (i : Nat) : List Tmp :=
  (opA ops i).dst.toList ++ ((opA ops i).op.operands.toList.filterMap fun x => match x with | .tmp t => some t | _ => none) ++
    (match (opA ops i).guard with | some (j, _) => ((ops[j]?).bind (·.dst)).toList | none => [])

def schedWp (C : Cx) (ops : Array Oper) (Q : Post) : List Nat → List (Nat × AV × Env) → Env → AH → Prop
  | [], _, e, h => Q .normal e h
  | i :: rest, rs, e, h =>
    match wantedA ops e (opA ops i) with
    | none => False
    | some false => if isE C (opA ops i) then schedWp C ops Q rest rs (putE e (opA ops i).dst .undef) h else schedWp C ops Q rest rs (putE e (opA ops i).dst .undef) h
    | some true =>
      if isE C (opA ops i) then
        opWp C (opA ops i) (ev e) h
          (fun v h' => (∀ r ∈ rs, reach ops ops.size i r.1 = false → evalN C (opA ops r.1) (ev r.2.2) h' = some r.2.1) ∧ schedWp C ops Q rest rs (putE e (opA ops i).dst v) h')
          (fun v h' => Q (.panic v) [] h')
      else match evalN C (opA ops i) (ev e) h with
        | some v => schedWp C ops Q rest (if isRead (opA ops i) then (i, v, e) :: rs else rs) (putE e (opA ops i).dst v) h
        | none => False

/-! ### the list by which the abstract run goes -/
def fillN (C : Cx) (ops : Array Oper) : List Nat → List Nat → List Nat
  | [], done => done
  | i :: is, done => if !isE C (opA ops i) && !done.contains i && (depsA ops i).all (done.contains ·) then fillN C ops is (done ++ [i]) else fillN C ops is done

def canonOf (C : Cx) (ops : Array Oper) : List Nat → List Nat → List Nat
  | [], done => fillN C ops (List.range ops.size) done
  | e :: π, done => canonOf C ops π (fillN C ops (List.range ops.size) done ++ [e])

/-- Behind the last operation that changes memory: what hangs on it. -/
def lateB (C : Cx) (ops : Array Oper) : Option Nat → List Nat → Bool
  | _, [] => true
  | last, i :: rest => if isE C (opA ops i) then lateB C ops (some i) rest else (match last with | none => true | some e => reach ops ops.size i e) && lateB C ops last rest

def namesB (ops : Array Oper) : Bool :=
  (List.range ops.size).all fun i => (List.range ops.size).all fun w => w == i || (match (opA ops w).dst with
    | none => true
    | some t => !(namesA ops i).contains t || reach ops ops.size i w || reach ops ops.size w i)

def guardB (ops : Array Oper) : Bool :=
  (List.range ops.size).all fun i => match (opA ops i).guard with
    | none => true
    | some (j, _) => (depsA ops i).contains j

structure Static (C : Cx) (ops : Array Oper) (c : List Nat) : Prop where
  ext : Ext .any ops c
  late : ∀ l1 i l2, c = l1 ++ i :: l2 → isE C (opA ops i) = false → ∀ e, (l1.filter fun j => isE C (opA ops j)).getLast? = some e → reach ops ops.size i e = true
  names : ∀ i w t, i < ops.size → w < ops.size → w ≠ i → t ∈ namesA ops i → (opA ops w).dst = some t → reach ops ops.size i w = true ∨ reach ops ops.size w i = true

def schedOK (C : Cx) (ops : Array Oper) (c : List Nat) : Bool := isExt .any ops c && lateB C ops none c && namesB ops

theorem lateB_late {C : Cx} {ops : Array Oper} : ∀ (c : List Nat) (last : Option Nat), lateB C ops last c = true → ∀ l1 i l2, c = l1 ++ i :: l2 → isE C (opA ops i) = false →
    ∀ e, ((l1.filter fun j => isE C (opA ops j)).getLast? = some e ∨ (l1.filter fun j => isE C (opA ops j)) = [] ∧ last = some e) → reach ops ops.size i e = true
  | [], last, h, l1, i, l2, he, _, _, _ => by simp at he
  | j :: rest, last, h, l1, i, l2, he, hi, e, hlast => by
    simp only [lateB] at h
    cases l1 with
    | nil =>
      simp at he
      obtain ⟨rfl, rfl⟩ := he
      rw [hi] at h
      simp only [Bool.false_eq_true, if_false, Bool.and_eq_true] at h
      rcases hlast with h1 | ⟨_, h1⟩
      · simp at h1
      · rw [h1] at h; exact h.1
    | cons x l1 =>
      simp at he
      obtain ⟨rfl, rfl⟩ := he
      split at h
      · rename_i hj
        refine lateB_late _ (some j) h l1 i l2 rfl hi e ?_
        rcases hlast with h1 | ⟨h1, _⟩
        · simp only [List.filter_cons, hj, if_true] at h1
          cases hf : l1.filter fun j => isE C (opA ops j) with
          | nil => rw [hf] at h1; simp at h1; exact .inr ⟨rfl, by rw [h1]⟩
          | cons y ys => rw [hf] at h1; left; rw [← h1]; simp [List.getLast?_cons_cons]
        · simp [hj] at h1
      · rename_i hj
        simp only [Bool.and_eq_true] at h
        refine lateB_late _ last h.2 l1 i l2 rfl hi e ?_
        have hj' : isE C (opA ops j) = false := by simpa using hj
        simpa [List.filter_cons, hj'] using hlast

theorem schedOK_static {C : Cx} {ops : Array Oper} {c : List Nat} (h : schedOK C ops c = true) : Static C ops c := by
  simp only [schedOK, Bool.and_eq_true] at h
  refine ⟨isExt_ext h.1.1, fun l1 i l2 he hi e hl => lateB_late c none h.1.2 l1 i l2 he hi e (.inl hl), fun i w t hi hw hne ht hd => ?_⟩
  have := h.2
  simp only [namesB, List.all_eq_true, List.mem_range] at this
  have h2 := this i hi w hw
  rw [hd] at h2
  simp only [Bool.or_eq_true, beq_iff_eq, hne, false_or, Bool.not_eq_true', List.contains_eq_mem, decide_eq_false_iff_not] at h2
  rcases h2 with (h2 | h2) | h2
  · exact absurd ht h2
  · exact .inl h2
  · exact .inr h2

/-! ### what has been put, newest first -/
abbrev Log := List (Nat × Option Tmp × AV)

def replay : Log → Env → Env
  | [], e => e
  | x :: l, e => putE (replay l e) x.2.1 x.2.2

theorem putE_get (e : Env) (d : Option Tmp) (v : AV) (t : Nat) : (putE e d v)[t]? = if d = some t then (if t < e.length then some v else none) else e[t]? := by
  cases d with
  | none => simp [putE]
  | some d =>
    simp only [putE, List.getElem?_set, Option.some.injEq]
    split <;> rename_i h
    · subst h; rfl
    · rfl

theorem putE_length (e : Env) (d : Option Tmp) (v : AV) : (putE e d v).length = e.length := by cases d <;> simp [putE]

theorem replay_length : ∀ (l : Log) (e : Env), (replay l e).length = e.length
  | [], _ => rfl
  | x :: l, e => by simp [replay, putE_length, replay_length l e]

theorem replay_get : ∀ (l : Log) (e : Env) (t : Nat), (replay l e)[t]? = match (l.filter fun x => x.2.1 = some t) with
    | [] => e[t]?
    | x :: _ => if t < e.length then some x.2.2 else none
  | [], e, t => rfl
  | x :: l, e, t => by
    simp only [replay, putE_get, replay_length, List.filter_cons]
    by_cases h : x.2.1 = some t
    · simp [h]
    · simp only [h, if_false, decide_false, Bool.false_eq_true]
      exact replay_get l e t

theorem replay_same {l l' : Log} {t : Nat} (h : (l.filter fun x => x.2.1 = some t) = (l'.filter fun x => x.2.1 = some t)) (e : Env) : (replay l e)[t]? = (replay l' e)[t]? := by
  rw [replay_get, replay_get, h]

theorem ev_same {e1 e2 : Env} {ops : Array Oper} {i : Nat} (h : ∀ t ∈ namesA ops i, e1[t]? = e2[t]?) : ∀ x ∈ (opA ops i).op.operands.toList, ev e1 x = ev e2 x := by
  intro x hx
  cases x with
  | tmp t =>
    have : t ∈ namesA ops i := by
      simp only [namesA, List.mem_append, List.mem_filterMap]
      exact .inl (.inr ⟨.tmp t, hx, rfl⟩)
    simp only [ev, List.getD_eq_getElem?_getD, h t this]
  | _ => rfl

theorem wanted_same {e1 e2 : Env} {ops : Array Oper} {i : Nat} (h : ∀ t ∈ namesA ops i, e1[t]? = e2[t]?) : wantedA ops e1 (opA ops i) = wantedA ops e2 (opA ops i) := by
  unfold wantedA
  cases hg : (opA ops i).guard with
  | none => rfl
  | some p =>
    obtain ⟨j, want⟩ := p
    simp only
    cases hd : (ops[j]?).bind (·.dst) with
    | none => rfl
    | some d =>
      have : d ∈ namesA ops i := by
        simp only [namesA, hg, List.mem_append]
        exact .inr (by rw [hd]; simp)
      simp only [List.getD_eq_getElem?_getD, h d this]

/-- Two logs give the same to a name, where what writes it is in both, in one order. -/
theorem filter_same {l l' : Log} {t : Nat} (p : Nat × Option Tmp × AV → Bool) (hl : l' = l.filter p) (h : ∀ x ∈ l, x.2.1 = some t → p x = true) : (l.filter fun x => x.2.1 = some t) = (l'.filter fun x => x.2.1 = some t) := by
  subst hl
  rw [List.filter_filter]
  refine List.filter_congr fun x hx => ?_
  by_cases e : x.2.1 = some t
  · simp [e, h x hx e]
  · simp [e]

end Go.Proofs.Ytgcoipcnhmkeaaa.Ax
