/- AX, part 15: code: what must hold of an abstract run, and that the machine then does it. -/
import Derived.Test.YtgcoipcnhmkeaaaAx14
set_option linter.unusedVariables false
set_option linter.unusedSimpArgs false
namespace Go.Proofs.Ytgcoipcnhmkeaaa.Ax
open Go.RowKit

inductive Ex where
  | normal
  | exit (id : Nat)
  | ret
  | panic (v : AV)

abbrev Post := Ex → Env → AH → Prop

section
variable {C : Cx} {ρ : Rho} {h : AH} {W : World}

/-- The machine's way out of a piece of code, told by the abstract one. -/
def QR (C : Cx) (ρ0 : Rho) (Q : Post) : Exit → Act → World → Prop
  | .normal, a, W => ∃ ρ e h, Q .normal e h ∧ ρ0 <+: ρ ∧ Rel C.W0 ρ h W ∧ ERel ρ e a
  | .exit id, a, W => ∃ ρ e h, Q (.exit id) e h ∧ ρ0 <+: ρ ∧ Rel C.W0 ρ h W ∧ ERel ρ e a
  | .ret, a, W => ∃ ρ e h, Q .ret e h ∧ ρ0 <+: ρ ∧ Rel C.W0 ρ h W ∧ ERel ρ e a
  | .panic chain, a, W => ∃ ρ h v V, chain = [{ v := V, recovered := false }] ∧ Q (.panic v) [] h ∧ ρ0 <+: ρ ∧ Rel C.W0 ρ h W ∧ a.defers = [] ∧ VRel ρ v V
  | .goto _, _, _ => False
  | .outgrown, _, _ => False

def Exec (C : Cx) (c : Code) (e : Env) (h : AH) (Q : Post) : Prop :=
  ∀ ρ a W, Rel C.W0 ρ h W → ERel ρ e a → c.wp C.P (QR C ρ Q) a W

theorem QR.mono {ρ ρ' : Rho} (hp : ρ <+: ρ') {Q Q' : Post} (hq : ∀ x e h, Q x e h → Q' x e h) : ∀ x a W, QR C ρ' Q x a W → QR C ρ Q' x a W := by
  intro x a W hx
  cases x with
  | normal => obtain ⟨ρ2, e, h, h1, h2, h3⟩ := hx; exact ⟨ρ2, e, h, hq _ _ _ h1, hp.trans h2, h3⟩
  | exit id => obtain ⟨ρ2, e, h, h1, h2, h3⟩ := hx; exact ⟨ρ2, e, h, hq _ _ _ h1, hp.trans h2, h3⟩
  | ret => obtain ⟨ρ2, e, h, h1, h2, h3⟩ := hx; exact ⟨ρ2, e, h, hq _ _ _ h1, hp.trans h2, h3⟩
  | panic chain => obtain ⟨ρ2, h, v, V, h0, h1, h2, h3⟩ := hx; exact ⟨ρ2, h, v, V, h0, hq _ _ _ h1, hp.trans h2, h3⟩
  | goto l => exact hx.elim
  | outgrown => exact hx.elim

theorem Exec.mono {c : Code} {e : Env} {Q Q' : Post} (hx : Exec C c e h Q) (hq : ∀ x e h, Q x e h → Q' x e h) : Exec C c e h Q' :=
  fun ρ a W R E => wp_mono (hx ρ a W R E) (QR.mono (List.prefix_refl _) hq)

theorem exec_skip {e : Env} {Q : Post} (hq : Q .normal e h) : Exec C .skip e h Q :=
  fun ρ _ _ R E => wp_skip ⟨ρ, e, h, hq, List.prefix_refl _, R, E⟩
theorem exec_label {l : Nat} {e : Env} {Q : Post} (hq : Q .normal e h) : Exec C (.label l) e h Q :=
  fun ρ _ _ R E => wp_label ⟨ρ, e, h, hq, List.prefix_refl _, R, E⟩
theorem exec_exit {id : Nat} {e : Env} {Q : Post} (hq : Q (.exit id) e h) : Exec C (.exit id) e h Q :=
  fun ρ _ _ R E => wp_exit ⟨ρ, e, h, hq, List.prefix_refl _, R, E⟩
theorem exec_ret {e : Env} {Q : Post} (hq : Q .ret e h) : Exec C .ret e h Q :=
  fun ρ _ _ R E => wp_ret ⟨ρ, e, h, hq, List.prefix_refl _, R, E⟩

/-- Behind a first piece: the second, where the first ended normally. -/
def thenQ (K : Env → AH → Prop) (Q : Post) : Post
  | .normal, e, h => K e h
  | x, e, h => Q x e h

theorem exec_seq {x y : Code} {e : Env} {Q : Post} (hx : Exec C x e h (thenQ (fun e h => Exec C y e h Q) Q)) : Exec C (.seq x y) e h Q := by
  intro ρ a W R E
  refine wp_seq (wp_mono (hx ρ a W R E) fun ex a' W' hq => ?_)
  cases ex with
  | normal =>
    obtain ⟨ρ2, e2, h2, h3, h4, h5, h6⟩ := hq
    exact wp_mono (h3 ρ2 a' W' h5 h6) (QR.mono h4 fun _ _ _ h => h)
  | exit id => exact hq
  | ret => exact hq
  | panic chain => exact hq
  | goto l => exact hq
  | outgrown => exact hq

theorem exec_cond {c : Operand} {x y : Code} {e : Env} {Q : Post} {b : Bool} (hc : ev e c = .bool b) (hx : b = true → Exec C x e h Q) (hy : b = false → Exec C y e h Q) : Exec C (.cond c x y) e h Q := by
  intro ρ a W R E
  have hr := ev_rel E c
  rw [hc] at hr
  exact wp_cond_split (bool_rel hr) (fun hb => hx hb ρ a W R E) (fun hb => hy hb ρ a W R E)

def blockQ (id : Nat) (Q : Post) : Post
  | .exit id', e, h => if id' = id then Q .normal e h else Q (.exit id') e h
  | x, e, h => Q x e h

theorem exec_block {id : Nat} {c : Code} {e : Env} {Q : Post} (hx : Exec C c e h (blockQ id Q)) : Exec C (.block id c) e h Q := by
  intro ρ a W R E
  refine wp_block (wp_mono (hx ρ a W R E) fun ex a' W' hq => ?_)
  cases ex with
  | normal => exact hq
  | exit id' =>
    obtain ⟨ρ2, e2, h2, h3, h4⟩ := hq
    simp only [blockQ] at h3
    simp only [Exit.inBlock]
    split
    · rename_i e0; rw [if_pos e0] at h3; exact ⟨ρ2, e2, h2, h3, h4⟩
    · rename_i e0; rw [if_neg e0] at h3; exact ⟨ρ2, e2, h2, h3, h4⟩
  | ret => exact hq
  | panic chain => exact hq
  | goto l => exact hq
  | outgrown => exact hq

theorem least (p : Nat → Prop) (hx : ∃ n, p n) : ∃ n, p n ∧ ∀ m, p m → n ≤ m := by
  obtain ⟨n, hn⟩ := hx
  induction n using Nat.strongRecOn with
  | _ n ih =>
    by_cases h : ∃ m, m < n ∧ p m
    · obtain ⟨m, hm, hp⟩ := h; exact ih m hm hp
    · exact ⟨n, hn, fun m hm => by
        rcases Nat.lt_or_ge m n with h1 | h1
        · exact absurd ⟨m, h1, hm⟩ h
        · exact h1⟩

/-- A loop: what holds at each round's head, and what each round lowers. -/
theorem exec_loop {c : Code} {e : Env} {Q : Post} (I : Env → AH → Prop) (μ : Env → AH → Nat) (h0 : I e h)
    (round : ∀ e h, I e h → Exec C c e h (thenQ (fun e' h' => I e' h' ∧ μ e' h' < μ e h) Q)) : Exec C (.loop c) e h Q := by
  classical
  intro ρ a W R E
  -- the machine's own invariant and measure
  let J : Act → World → Nat → Prop := fun a W n => ∃ ρ' e' h', ρ <+: ρ' ∧ I e' h' ∧ Rel C.W0 ρ' h' W ∧ ERel ρ' e' a ∧ μ e' h' = n
  let M : Act → World → Nat := fun a W => if hx : ∃ n, J a W n then Classical.choose (least _ hx) else 0
  refine wp_loop (fun a W => ∃ n, J a W n) M ⟨_, ρ, e, h, List.prefix_refl _, h0, R, E, rfl⟩ fun a1 W1 hx => ?_
  have hM : M a1 W1 = Classical.choose (least _ hx) := by simp only [M, dif_pos hx]
  obtain ⟨ρ1, e1, h1, hp, hI, R1, E1, hn⟩ := (Classical.choose_spec (least _ hx)).1
  refine wp_mono (round e1 h1 hI ρ1 a1 W1 R1 E1) fun ex a' W' hq => ?_
  cases ex with
  | normal =>
    obtain ⟨ρ2, e2, h2, ⟨h3, h3'⟩, h4, h5, h6⟩ := hq
    have hx' : ∃ n, J a' W' n := ⟨_, ρ2, e2, h2, hp.trans h4, h3, h5, h6, rfl⟩
    refine ⟨hx', ?_⟩
    have hM' : M a' W' = Classical.choose (least _ hx') := by simp only [M, dif_pos hx']
    have : Classical.choose (least _ hx') ≤ μ e2 h2 := (Classical.choose_spec (least _ hx')).2 _ ⟨ρ2, e2, h2, hp.trans h4, h3, h5, h6, rfl⟩
    omega
  | exit id => exact QR.mono hp (fun _ _ _ h => h) _ _ _ hq
  | ret => exact QR.mono hp (fun _ _ _ h => h) _ _ _ hq
  | panic chain => exact QR.mono hp (fun _ _ _ h => h) _ _ _ hq
  | goto l => exact hq.elim
  | outgrown => exact hq.elim

/-! ### regions in the text's order -/
/-- May an operation be done? -/
def wantedA (ops : Array Oper) (e : Env) (o : Oper) : Option Bool :=
  match o.guard with
  | none => some true
  | some (j, want) => match (ops[j]?).bind (·.dst) with
    | none => some false
    | some d => match e.getD d .undef with
      | .bool b => some (b == want)
      | .tup _ => some false
      | _ => none

theorem wanted_rel {ops : Array Oper} {e : Env} {a : Act} (E : ERel ρ e a) {o : Oper} {b : Bool} (hw : wantedA ops e o = some b) : Region.wanted o (yielded ops a.tmps) = b := by
  unfold wantedA at hw
  unfold Region.wanted
  split at hw
  · rename_i hg; rw [hg]; simpa using hw
  · rename_i j want hg
    rw [hg]
    simp only [yielded]
    split at hw
    · rename_i hd; rw [hd]; simp at hw; subst hw; rfl
    · rename_i d hd
      rw [hd]
      simp only [Option.bind_some]
      have hr := E.vals.getD d
      have hget : a.tmps[d]? = a.tmps.toList[d]? := by simp
      rw [List.getD_eq_getElem?_getD, List.getD_eq_getElem?_getD] at hr
      rw [List.getD_eq_getElem?_getD] at hw
      rw [hget]
      cases hl : e[d]? with
      | none =>
        have : a.tmps.toList[d]? = none := by rw [List.getElem?_eq_none_iff] at hl ⊢; rw [E.vals.length]; exact hl
        rw [hl] at hw
        simp at hw
        rw [this]; simp [← hw]
      | some v =>
        obtain ⟨V, hV, hVr⟩ := E.vals.get d v hl
        rw [hl] at hw
        rw [hV]
        simp only [Option.getD_some] at hw
        split at hw
        · rename_i b'
          simp at hw; subst hw
          rw [bool_rel hVr]
          simp
        · simp at hw; subst hw
          simp only [VRel] at hVr
          obtain ⟨vs, rfl, _⟩ := hVr
          rfl
        · simp at hw

/-- The operations of a region, one behind the other. -/
def opsWp (C : Cx) (ops : Array Oper) (Q : Post) : List Oper → Env → AH → Prop
  | [], e, h => Q .normal e h
  | o :: rest, e, h =>
    match wantedA ops e o with
    | some true => opWp C o (ev e) h (fun v h' => opsWp C ops Q rest (putE e o.dst v) h') (fun v h' => Q (.panic v) [] h')
    | some false => opsWp C ops Q rest (putE e o.dst .undef) h
    | none => False

theorem opsWp_sound (ok : C.OK) {ops : Array Oper} {Q : Post} : ∀ (l : List Oper) (ρ0 ρ : Rho) (e : Env) (h : AH) (a : Act) (W : World), ρ0 <+: ρ → Rel C.W0 ρ h W → ERel ρ e a → opsWp C ops Q l e h →
    wpList C.P ops (QR C ρ0 Q) l a W
  | [], ρ0, ρ, e, h, a, W, hp, R, E, hw => ⟨ρ, e, h, hw, hp, R, E⟩
  | o :: rest, ρ0, ρ, e, h, a, W, hp, R, E, hw => by
    simp only [opsWp] at hw
    simp only [wpList]
    split at hw
    · rename_i hwant
      rw [wanted_rel E hwant]
      simp only [if_true]
      left
      refine opWp_sound ok R (fun x _ => ev_rel E x) hw (fun ρ' v h' V W' hp' R' hr hk => ?_) (fun ρ' v h' V W' hp' R' hr hk => ?_)
      · exact opsWp_sound ok rest ρ0 ρ' _ h' _ W' (hp.trans hp') R' (put_rel (E.mono hp') o.dst hr) hk
      · exact ⟨ρ', h', v, V, rfl, hk, hp.trans hp', R', E.defers, hr⟩
    · rename_i hwant
      rw [wanted_rel E hwant]
      simp only [Bool.false_eq_true, if_false]
      exact opsWp_sound ok rest ρ0 ρ _ h _ W hp R (put_rel E o.dst (undef_rel ρ)) hw
    · exact hw.elim

theorem exec_region (ok : C.OK) {id : Nat} {ops : Array Oper} {e : Env} {Q : Post} (hw : opsWp C ops Q ops.toList e h) : Exec C (.region id ops false) e h Q :=
  fun ρ a W R E => wp_region_list (opsWp_sound ok ops.toList ρ ρ e h a W (List.prefix_refl _) R E hw)

/-! ### functions -/
def resOf (C : Cx) (e : Env) (h : AH) : ResultVar → Option AV
  | .tmp t => some (e.getD t .undef)
  | .cell a t => match e.getD a .undef with
    | .ptr (some a) => aLoad C h t a
    | _ => none

def resultsA (C : Cx) (F : Func) (e : Env) (h : AH) : Option AV :=
  match F.results.toList.mapM (resOf C e h) with
  | some [v] => some v
  | some vs => some (.tup vs)
  | none => none

def funQ (C : Cx) (F : Func) (K Kp : AV → AH → Prop) : Post
  | .normal, e, h => ∃ v, resultsA C F e h = some v ∧ K v h
  | .ret, e, h => ∃ v, resultsA C F e h = some v ∧ K v h
  | .panic v, _, h => Kp v h
  | .exit _, _, _ => False

def enterE (F : Func) (args : List AV) : Env := args ++ List.replicate (F.ntmps - args.length) .undef

def resRun (tmps : Array Value) : ResultVar → Sem Value
  | .tmp t => pure (tmps.getD t undef)
  | .cell a t => do loadVar t (← asAddr (tmps.getD a undef))

theorem results_eq (F : Func) (tmps : Array Value) : results F tmps = (do let vs ← F.results.mapM (resRun tmps); pure (if h : vs.size = 1 then vs[0] else .tuple vs)) := by
  unfold results
  have : (fun x => match x with | .tmp t => pure (tmps.getD t undef) | .cell a t => do loadVar t (← asAddr (tmps.getD a undef)) : ResultVar → Sem Value) = resRun tmps := by
    funext r; cases r <;> rfl
  rw [← this]
  rfl

theorem results_rel (ok : C.OK) (R : Rel C.W0 ρ h W) {F : Func} {e : Env} {a : Act} (E : ERel ρ e a) {v : AV} (hv : resultsA C F e h = some v) : ∃ V, (results F a.tmps).run C.P W = .ok V W ∧ VRel ρ v V := by
  have one : ∀ (r : ResultVar) (v : AV), resOf C e h r = some v → ∃ V, (resRun a.tmps r).run C.P W = .ok V W ∧ VRel ρ v V := by
    intro r v hr
    cases r with
    | tmp t =>
      simp [resOf] at hr; subst hr
      have := ev_rel E (.tmp t)
      exact ⟨_, rfl, by simpa [ev, Act.eval] using this⟩
    | cell a' t =>
      simp only [resOf] at hr
      split at hr
      · rename_i aa ha
        have := ev_rel E (.tmp a')
        simp only [ev, Act.eval, ha, VRel] at this
        obtain ⟨A, hA, hAe⟩ := this
        obtain ⟨V, hV, hVr⟩ := run_aLoad ok R hA hr
        exact ⟨V, by simp [resRun, hAe, asAddr, hV], hVr⟩
      · simp at hr
  have many : ∀ (l : List ResultVar) (vs : List AV), l.mapM (resOf C e h) = some vs → ∃ Vs, (l.mapM (resRun a.tmps)).run C.P W = .ok Vs W ∧ VsRel ρ vs Vs := by
    intro l
    induction l with
    | nil => intro vs h; simp at h; subst h; exact ⟨[], by simp, by simp [VsRel]⟩
    | cons r l ih =>
      intro vs hvs
      simp only [List.mapM_cons, bind, Option.bind_eq_some_iff] at hvs
      obtain ⟨y, hy, ys, hys, hp⟩ := hvs
      simp [pure] at hp; subst hp
      obtain ⟨V, hV, hVr⟩ := one r y hy
      obtain ⟨Vs, hVs, hVsr⟩ := ih ys hys
      refine ⟨V :: Vs, ?_, by simp only [VsRel]; exact ⟨V, Vs, rfl, hVr, hVsr⟩⟩
      simp [List.mapM_cons, hV, hVs]
  have whole : ∀ vs, F.results.toList.mapM (resOf C e h) = some vs → ∃ Vs : Array Value, VsRel ρ vs Vs.toList ∧ (results F a.tmps).run C.P W = .ok (if h : Vs.size = 1 then Vs[0] else .tuple Vs) W := by
    intro vs hvs
    obtain ⟨Vs, hrun, hr⟩ := many _ vs hvs
    refine ⟨Vs.toArray, by simpa using hr, ?_⟩
    rw [results_eq, Array.mapM_eq_mapM_toList]
    simp only [Sem.run_bind, Sem.run_map, hrun, Result.andThen_ok, Sem.run_pure]
  unfold resultsA at hv
  split at hv
  · rename_i v0 hvs
    simp at hv; subst hv
    obtain ⟨Vs, hr, hrun⟩ := whole _ hvs
    have hl := hr.length
    simp at hl
    rw [hrun, dif_pos hl]
    refine ⟨_, rfl, ?_⟩
    obtain ⟨V, hV, hVr⟩ := hr.get 0 v0 (by simp)
    have : Vs[0]? = some V := by simpa using hV
    rw [Array.getElem?_eq_getElem (by omega)] at this
    simp at this
    rw [this]; exact hVr
  · rename_i vs hne hvs
    simp at hv; subst hv
    obtain ⟨Vs, hr, hrun⟩ := whole _ hvs
    have hl := hr.length
    simp at hl
    have h1 : ¬ Vs.size = 1 := by
      intro e1
      rw [hl] at e1
      obtain ⟨x, hx⟩ := List.length_eq_one_iff.1 e1
      exact hne x hx
    rw [hrun, dif_neg h1]
    exact ⟨_, rfl, by simp only [VRel]; exact ⟨Vs, rfl, hr⟩⟩
  · simp at hv

/-- A call, by the function's body. -/
theorem acall_body (ok : C.OK) {f : FuncId} {F : Func} {c : Code} {args : List AV} {K Kp : AV → AH → Prop} (hf : C.fn f = some F) (hb : F.body = some c) (hx : Exec C c (enterE F args) h (funQ C F K Kp)) : ACall C f args h K Kp := by
  intro ρ W vs R hv
  obtain ⟨hPF, _, _⟩ := ok.fn f F hf
  have hl := hv.length
  simp only [Array.length_toList] at hl
  refine calls_of_wp hPF hb (wp_mono (hx ρ _ W R ⟨rfl, ?_⟩) fun ex a' W' hq => ?_)
  · simp only [Array.toList_append, Array.toList_replicate, enterE]
    rw [hl]
    exact hv.append (VsRel.replicate (undef_rel ρ) _)
  · cases ex with
    | normal =>
      obtain ⟨ρ2, e2, h2, ⟨v, hv2, hk⟩, hp, R2, E2⟩ := hq
      obtain ⟨V, hV, hVr⟩ := results_rel ok R2 E2 hv2
      exact ⟨E2.defers, V, hV, ρ2, v, h2, hp, R2, hVr, hk⟩
    | ret =>
      obtain ⟨ρ2, e2, h2, ⟨v, hv2, hk⟩, hp, R2, E2⟩ := hq
      obtain ⟨V, hV, hVr⟩ := results_rel ok R2 E2 hv2
      exact ⟨E2.defers, V, hV, ρ2, v, h2, hp, R2, hVr, hk⟩
    | exit id => obtain ⟨ρ2, e2, h2, h3, _⟩ := hq; exact h3.elim
    | panic chain =>
      obtain ⟨ρ2, h2, v, V, h0, hk, hp, R2, E2, hVr⟩ := hq
      exact ⟨E2, ρ2, v, V, h2, h0, hp, R2, hVr, hk⟩
    | goto l => exact hq.elim
    | outgrown => exact hq.elim

end
end Go.Proofs.Ytgcoipcnhmkeaaa.Ax
