/- AX, part 19: code to conditions; closed runs. -/
import Derived.Test.YtgcoipcnhmkeaaaAx18
import Derived.Scope
set_option linter.unusedVariables false
set_option linter.unusedSimpArgs false
namespace Go.Proofs.Ytgcoipcnhmkeaaa.Ax
open Go.RowKit

section
variable {C : Cx} {h : AH}

def condP (v : AV) (A B : Prop) : Prop :=
  match v with
  | .bool b => (b = true → A) ∧ (b = false → B)
  | _ => False

/-- What must hold ahead of a piece of code. -/
def wpc (C : Cx) : Code → Env → AH → Post → Prop
  | .skip, e, h, Q => Q .normal e h
  | .label _, e, h, Q => Q .normal e h
  | .region _ ops false, e, h, Q => opsWp C ops Q ops.toList e h
  | .region _ ops true, e, h, Q => drawB C ops = true ∧ ∀ c ∈ canons C ops, schedWp C ops Q c [] e h
  | .seq a b, e, h, Q => wpc C a e h (thenQ (fun e h => wpc C b e h Q) Q)
  | .cond c a b, e, h, Q => condP (ev e c) (wpc C a e h Q) (wpc C b e h Q)
  | .block id b, e, h, Q => wpc C b e h (blockQ id Q)
  | .loop b, e, h, Q => Exec C (.loop b) e h Q
  | .exit id, e, h, Q => Q (.exit id) e h
  | .ret, e, h, Q => Q .ret e h
  | .scope b, e, h, Q => wpc C b e h Q
  | _, _, _, _ => False

theorem exec_scope {c : Code} {e : Env} {Q : Post} (hx : Exec C c e h Q) : Exec C (.scope c) e h Q := by
  intro ρ a W R E
  refine wp_scope_straight (wp_mono (hx ρ a W R E) fun ex a' W' hq => ?_)
  cases ex with
  | goto l => exact hq.elim
  | _ => exact hq

theorem wpc_sound (ok : C.OK) : ∀ (c : Code) (e : Env) (h : AH) (Q : Post), wpc C c e h Q → Exec C c e h Q
  | .skip, e, h, Q, hw => exec_skip hw
  | .label _, e, h, Q, hw => exec_label hw
  | .region _ ops false, e, h, Q, hw => exec_region ok hw
  | .region _ ops true, e, h, Q, hw => exec_draw ok hw.1 hw.2
  | .seq a b, e, h, Q, hw => by
    refine exec_seq ((wpc_sound ok a e h _ hw).mono fun x e h hq => ?_)
    cases x with
    | normal => exact wpc_sound ok b e h Q hq
    | _ => exact hq
  | .cond c a b, e, h, Q, hw => by
    simp only [wpc] at hw
    unfold condP at hw
    split at hw
    · rename_i b' hb
      exact exec_cond hb (fun h1 => wpc_sound ok a e h Q (hw.1 h1)) (fun h1 => wpc_sound ok b e h Q (hw.2 h1))
    · exact hw.elim
  | .block id b, e, h, Q, hw => exec_block (wpc_sound ok b e h _ hw)
  | .loop b, e, h, Q, hw => hw
  | .exit id, e, h, Q, hw => exec_exit hw
  | .ret, e, h, Q, hw => exec_ret hw
  | .scope b, e, h, Q, hw => exec_scope (wpc_sound ok b e h Q hw)
  | .rangeFunc .., e, h, Q, hw => hw.elim
  | .goto _, e, h, Q, hw => hw.elim
  | .refuse _, e, h, Q, hw => hw.elim

/-- A call, by what must hold ahead of its body. -/
theorem acall_wpc (ok : C.OK) {f : FuncId} {F : Func} {c : Code} {args : List AV} {K Kp : AV → AH → Prop} (hf : C.fn f = some F) (hb : F.body = some c) (hx : wpc C c (enterE F args) h (funQ C F K Kp)) : ACall C f args h K Kp :=
  acall_body ok hf hb (wpc_sound ok c _ _ _ hx)

/-! ### closed runs: is it so, whatever the machine draws? -/
abbrev BPost := Ex → Env → AH → Bool

def nextMB (h : AH) (it : AV) (K : AV → AH → Bool) : Bool :=
  match it with
  | .ptr (some (.new k 0)) => match h.get k with
    | some (.miter none _ _ _) => K (.tup [.bool false]) h
    | some (.miter (some m) since seen last) => match h.get m with
      | some (.map es clock) =>
        !(!seen.isEmpty && !es.isEmpty && es.all fun e => decide (e.born ≥ last)) &&
        (!(es.filter fun e => !seen.contains e.born && decide (e.born < since)).isEmpty || K (.tup [.bool false]) h) &&
        es.all fun e => seen.contains e.born || K (.tup [.bool true, e.key, e.val]) (h.set k (.miter (some m) since (seen ++ [e.born]) clock))
      | _ => false
    | _ => false
  | _ => false

/-- One operation; 'call': what calls come to. -/
def opB (C : Cx) (call : FuncId → List AV → AH → (AV → AH → Bool) → (AV → AH → Bool) → Bool) (o : Oper) (g : Operand → AV) (h : AH) (K Kp : AV → AH → Bool) : Bool :=
  match evalN C o g h with
  | some v => K v h
  | none => match effA C o g h with
    | some r => K r.1 r.2
    | none => match calleeA C o g with
      | some r => (C.fn r.1).isSome && call r.1 r.2 h K Kp
      | none => match o.op with
        | .panic x => match g x with
          | .ifc t v => Kp (.ifc t v) h
          | _ => false
        | .next it false => nextMB h (g it) K
        | _ => false

def opsB (C : Cx) (call : FuncId → List AV → AH → (AV → AH → Bool) → (AV → AH → Bool) → Bool) (ops : Array Oper) (Q : BPost) : List Oper → Env → AH → Bool
  | [], e, h => Q .normal e h
  | o :: rest, e, h =>
    match wantedA ops e o with
    | some true => opB C call o (ev e) h (fun v h' => opsB C call ops Q rest (putE e o.dst v) h') (fun v h' => Q (.panic v) [] h')
    | some false => opsB C call ops Q rest (putE e o.dst .undef) h
    | none => false

/-- Equal values (of an operation that was done once more). -/
def sameV : AV → AV → Bool
  | .int k a, .int k' b => k = k' && a == b
  | .str a, .str b => a == b
  | .bool a, .bool b => a == b
  | .ptr a, .ptr b => a = b
  | .sl a l c g, .sl a' l' c' g' => a = a' && l == l' && c == c' && g = g'
  | .map a, .map b => a == b
  | .nilfn, .nilfn => true
  | .nilifc, .nilifc => true
  | .agg xs, .agg ys => sameVs xs ys
  | .tup xs, .tup ys => sameVs xs ys
  | _, _ => false
where
  sameVs : List AV → List AV → Bool
    | [], [] => true
    | x :: xs, y :: ys => sameV x y && sameVs xs ys
    | _, _ => false

mutual
theorem sameV_eq : (x y : AV) → sameV x y = true → x = y
  | .int k a, y, h => by cases y <;> simp [sameV] at h; obtain ⟨rfl, rfl⟩ := h; rfl
  | .str a, y, h => by cases y <;> simp [sameV] at h; subst h; rfl
  | .bool a, y, h => by cases y <;> simp [sameV] at h; subst h; rfl
  | .ptr a, y, h => by cases y <;> simp [sameV] at h; subst h; rfl
  | .sl a l c g, y, h => by cases y <;> simp [sameV] at h; obtain ⟨⟨⟨rfl, rfl⟩, rfl⟩, rfl⟩ := h; rfl
  | .map a, y, h => by cases y <;> simp [sameV] at h; subst h; rfl
  | .nilfn, y, h => by cases y <;> simp [sameV] at h; rfl
  | .nilifc, y, h => by cases y <;> simp [sameV] at h; rfl
  | .agg xs, y, h => by
    cases y <;> simp only [sameV] at h <;> first | (simp at h; done) | rw [sameVs_eq xs _ h]
  | .tup xs, y, h => by
    cases y <;> simp only [sameV] at h <;> first | (simp at h; done) | rw [sameVs_eq xs _ h]
  | .bad, y, h => by simp [sameV] at h
  | .fn .., y, h => by simp [sameV] at h
  | .ifc .., y, h => by simp [sameV] at h
theorem sameVs_eq : (xs ys : List AV) → sameV.sameVs xs ys = true → xs = ys
  | [], ys, h => by cases ys <;> simp [sameV.sameVs] at h; rfl
  | x :: xs, ys, h => by
    cases ys with
    | nil => simp [sameV.sameVs] at h
    | cons y ys =>
      simp only [sameV.sameVs, Bool.and_eq_true] at h
      rw [sameV_eq x y h.1, sameVs_eq xs ys h.2]
end

def again (C : Cx) (o : Oper) (g : Operand → AV) (h : AH) (v : AV) : Bool :=
  match evalN C o g h with
  | some w => sameV w v
  | none => false

def schedB (C : Cx) (call : FuncId → List AV → AH → (AV → AH → Bool) → (AV → AH → Bool) → Bool) (ops : Array Oper) (Q : BPost) : List Nat → List (Nat × AV × Env) → Env → AH → Bool
  | [], _, e, h => Q .normal e h
  | i :: rest, rs, e, h =>
    match wantedA ops e (opA ops i) with
    | none => false
    | some false => schedB C call ops Q rest rs (putE e (opA ops i).dst .undef) h
    | some true =>
      if isE C (opA ops i) then
        opB C call (opA ops i) (ev e) h
          (fun v h' => (rs.all fun r => reach ops ops.size i r.1 || again C (opA ops r.1) (ev r.2.2) h' r.2.1) && schedB C call ops Q rest rs (putE e (opA ops i).dst v) h')
          (fun v h' => Q (.panic v) [] h')
      else match evalN C (opA ops i) (ev e) h with
        | some v => schedB C call ops Q rest (if isRead (opA ops i) then (i, v, e) :: rs else rs) (putE e (opA ops i).dst v) h
        | none => false

def thenB (K : Env → AH → Bool) (Q : BPost) : BPost
  | .normal, e, h => K e h
  | x, e, h => Q x e h
def blockB (id : Nat) (Q : BPost) : BPost
  | .exit id', e, h => if id' = id then Q .normal e h else Q (.exit id') e h
  | x, e, h => Q x e h
def funB (C : Cx) (F : Func) (K Kp : AV → AH → Bool) : BPost
  | .normal, e, h => match resultsA C F e h with | some v => K v h | none => false
  | .ret, e, h => match resultsA C F e h with | some v => K v h | none => false
  | .panic v, _, h => Kp v h
  | .exit _, _, _ => false

def runB (C : Cx) : Nat → Code → Env → AH → BPost → Bool
  | 0, _, _, _, _ => false
  | n + 1, c, e, h, Q =>
    let call : FuncId → List AV → AH → (AV → AH → Bool) → (AV → AH → Bool) → Bool := fun f args h K Kp =>
      match C.fn f with
      | some F => match F.body with
        | some c => runB C n c (enterE F args) h (funB C F K Kp)
        | none => false
      | none => false
    match c with
    | .skip => Q .normal e h
    | .label _ => Q .normal e h
    | .region _ ops draw => if draw then drawB C ops && (canons C ops).all fun c => schedB C call ops Q c [] e h else opsB C call ops Q ops.toList e h
    | .seq a b => runB C n a e h (thenB (fun e h => runB C n b e h Q) Q)
    | .cond c a b => match ev e c with
      | .bool true => runB C n a e h Q
      | .bool false => runB C n b e h Q
      | _ => false
    | .block id b => runB C n b e h (blockB id Q)
    | .loop b => runB C n b e h (thenB (fun e h => runB C n (.loop b) e h Q) Q)
    | .exit id => Q (.exit id) e h
    | .ret => Q .ret e h
    | .scope b => runB C n b e h Q
    | _ => false

/-! ### closed runs are true -/
abbrev CallB := FuncId → List AV → AH → (AV → AH → Bool) → (AV → AH → Bool) → Bool

def CallOK (C : Cx) (call : CallB) : Prop :=
  ∀ f args h K Kp, call f args h K Kp = true → ACall C f args h (fun v h => K v h = true) (fun v h => Kp v h = true)

theorem nextMB_sound {it : AV} {K : AV → AH → Bool} (hk : nextMB h it K = true) : nextM h it (fun v h => K v h = true) := by
  unfold nextMB at hk
  unfold nextM
  split at hk
  case h_2 => simp at hk
  rename_i k
  simp only
  split at hk
  case h_3 => simp at hk
  · rename_i hg; simp only [hg]; exact hk
  · rename_i m since seen last hg
    simp only [hg]
    split at hk
    case h_2 => simp at hk
    rename_i es clock hgm
    simp only [hgm]
    simp only [Bool.and_eq_true, Bool.or_eq_true, Bool.not_eq_true', List.all_eq_true] at hk
    obtain ⟨⟨h1, h2⟩, h3⟩ := hk
    refine ⟨by simpa using h1, fun he => ?_, fun e he hs => ?_⟩
    · rcases h2 with h2 | h2
      · rw [he] at h2; simp at h2
      · exact h2
    · rcases h3 e he with h4 | h4
      · rw [hs] at h4; simp at h4
      · exact h4

theorem opB_sound {call : CallB} (hc : CallOK C call) {o : Oper} {g : Operand → AV} {K Kp : AV → AH → Bool} (hb : opB C call o g h K Kp = true) :
    opWp C o g h (fun v h => K v h = true) (fun v h => Kp v h = true) := by
  unfold opB at hb
  unfold opWp
  split at hb
  · rename_i v hv; simp only [hv]; exact hb
  · rename_i hv
    simp only [hv]
    split at hb
    · rename_i r hr; simp only [hr]; exact hb
    · rename_i hr
      simp only [hr]
      split at hb
      · rename_i r hcal
        simp only [hcal]
        simp only [Bool.and_eq_true] at hb
        exact ⟨hb.1, hc _ _ _ _ _ hb.2⟩
      · rename_i hcal
        simp only [hcal]
        split at hb
        · rename_i x heq
          simp only [heq]
          split at hb
          · rename_i t v hg; simp only [hg]; exact hb
          · simp at hb
        · rename_i it heq
          simp only [heq]
          exact nextMB_sound hb
        · simp at hb

theorem opWp_mono {o : Oper} {g : Operand → AV} {K Kp K' Kp' : AV → AH → Prop} (hw : opWp C o g h K Kp) (h1 : ∀ v h, K v h → K' v h) (h2 : ∀ v h, Kp v h → Kp' v h) : opWp C o g h K' Kp' := by
  unfold opWp at hw ⊢
  split at hw
  · rename_i v hv; exact h1 _ _ hw
  · rename_i hv
    split at hw
    · rename_i r hr; exact h1 _ _ hw
    · rename_i hr
      split at hw
      · rename_i r hcal
        exact ⟨hw.1, hw.2.mono h1 h2⟩
      · rename_i hcal
        split at hw
        · rename_i x heq
          split at hw
          · rename_i t v hg; exact h2 _ _ hw
          · exact hw.elim
        · rename_i it heq
          unfold nextM at hw ⊢
          split at hw
          · split at hw
            · exact h1 _ _ hw
            · split at hw
              · exact ⟨hw.1, fun e => h1 _ _ (hw.2.1 e), fun e he hs => h1 _ _ (hw.2.2 e he hs)⟩
              · exact hw.elim
            · exact hw.elim
          · exact hw.elim
        · exact hw.elim

theorem opsB_sound {call : CallB} (hc : CallOK C call) {ops : Array Oper} {Q : BPost} : ∀ (l : List Oper) (e : Env) (h : AH), opsB C call ops Q l e h = true → opsWp C ops (fun x e h => Q x e h = true) l e h
  | [], e, h, hb => hb
  | o :: rest, e, h, hb => by
    simp only [opsB] at hb
    simp only [opsWp]
    split at hb
    · rename_i hw
      simp only [hw]
      exact opWp_mono (opB_sound hc hb) (fun v h' hk => opsB_sound hc rest _ h' hk) (fun v h' hk => hk)
    · rename_i hw
      simp only [hw]
      exact opsB_sound hc rest _ h hb
    · simp at hb

theorem again_eq {o : Oper} {g : Operand → AV} {v : AV} (ha : again C o g h v = true) : evalN C o g h = some v := by
  unfold again at ha
  split at ha
  · rename_i w hw
    rw [hw, sameV_eq _ _ ha]
  · simp at ha

theorem schedB_sound {call : CallB} (hc : CallOK C call) {ops : Array Oper} {Q : BPost} : ∀ (l : List Nat) (rs : List (Nat × AV × Env)) (e : Env) (h : AH), schedB C call ops Q l rs e h = true →
    schedWp C ops (fun x e h => Q x e h = true) l rs e h
  | [], rs, e, h, hb => hb
  | i :: rest, rs, e, h, hb => by
    simp only [schedB] at hb
    simp only [schedWp]
    split at hb
    · simp at hb
    · rename_i hw
      simp only [hw]
      have := schedB_sound hc rest rs _ h hb
      split <;> exact this
    · rename_i hw
      simp only [hw]
      split at hb
      · rename_i hE
        simp only [hE, if_true]
        refine opWp_mono (opB_sound hc hb) (fun v h' hk => ?_) (fun v h' hk => hk)
        simp only [Bool.and_eq_true, List.all_eq_true, Bool.or_eq_true] at hk
        refine ⟨fun r hr hrr => ?_, schedB_sound hc rest rs _ h' hk.2⟩
        rcases hk.1 r hr with h1 | h1
        · rw [hrr] at h1; simp at h1
        · exact again_eq h1
      · rename_i hE
        simp only [hE]
        simp only [Bool.false_eq_true, if_false]
        split at hb
        · rename_i v hv
          simp only [hv]
          exact schedB_sound hc rest _ _ h hb
        · simp at hb

theorem runB_sound (ok : C.OK) : ∀ (n m : Nat), m ≤ n → ∀ (c : Code) (e : Env) (h : AH) (Q : BPost), runB C m c e h Q = true → Exec C c e h (fun x e h => Q x e h = true) := by
  intro n
  induction n with
  | zero =>
    intro m hm c e h Q hb
    obtain rfl : m = 0 := by omega
    simp [runB] at hb
  | succ n ih =>
    intro m hm c e h Q hb
    cases m with
    | zero => simp [runB] at hb
    | succ m =>
      have hcall : ∀ k, k ≤ n → CallOK C (fun f args h K Kp => match C.fn f with
          | some F => match F.body with
            | some c => runB C k c (enterE F args) h (funB C F K Kp)
            | none => false
          | none => false) := by
        intro k hk f args h K Kp hb
        simp only at hb
        split at hb
        · rename_i F hF
          split at hb
          · rename_i c hc
            refine acall_body ok hF hc ((ih k hk c _ h _ hb).mono fun x e h hq => ?_)
            cases x with
            | normal =>
              simp only [funB] at hq
              split at hq
              · rename_i v hv; exact ⟨v, hv, hq⟩
              · simp at hq
            | ret =>
              simp only [funB] at hq
              split at hq
              · rename_i v hv; exact ⟨v, hv, hq⟩
              · simp at hq
            | exit id => simp [funB] at hq
            | panic v => exact hq
          · simp at hb
        · simp at hb
      have hmn : m ≤ n := by omega
      cases c with
      | skip => exact exec_skip (by simpa [runB] using hb)
      | label l => exact exec_label (by simpa [runB] using hb)
      | region id ops draw =>
        simp only [runB] at hb
        cases draw with
        | true =>
          simp only [if_true, Bool.and_eq_true, List.all_eq_true] at hb
          exact exec_draw ok hb.1 fun c hc => schedB_sound (hcall m hmn) c [] e h (hb.2 c hc)
        | false =>
          simp only [Bool.false_eq_true, if_false] at hb
          exact exec_region ok (opsB_sound (hcall m hmn) _ e h hb)
      | seq a b =>
        simp only [runB] at hb
        refine exec_seq ((ih m hmn a e h _ hb).mono fun x e h hq => ?_)
        cases x with
        | normal => exact ih m hmn b e h Q hq
        | _ => exact hq
      | cond c a b =>
        simp only [runB] at hb
        split at hb
        · rename_i hc
          exact exec_cond hc (fun _ => ih m hmn a e h Q hb) (fun h => by simp at h)
        · rename_i hc
          exact exec_cond hc (fun h => by simp at h) (fun _ => ih m hmn b e h Q hb)
        · simp at hb
      | block id b =>
        simp only [runB] at hb
        refine exec_block ((ih m hmn b e h _ hb).mono fun x e h hq => ?_)
        cases x with
        | exit id' =>
          simp only [blockB] at hq
          simp only [blockQ]
          split
          · rename_i h1; rw [if_pos h1] at hq; exact hq
          · rename_i h1; rw [if_neg h1] at hq; exact hq
        | _ => exact hq
      | loop b =>
        let p : Env → AH → Nat → Prop := fun e h k => k ≤ n + 1 ∧ runB C k (.loop b) e h Q = true
        classical
        refine exec_loop (fun e h => ∃ k, p e h k) (fun e h => if hx : ∃ k, p e h k then Classical.choose (least _ hx) else 0) ⟨m + 1, hm, hb⟩ fun e h hx => ?_
        have hspec := Classical.choose_spec (least _ hx)
        generalize hk : Classical.choose (least _ hx) = k at hspec
        obtain ⟨⟨hkn, hkr⟩, hkl⟩ := hspec
        cases k with
        | zero => simp [runB] at hkr
        | succ k =>
          simp only [runB] at hkr
          refine (ih k (by omega) b e h _ hkr).mono fun x e' h' hq => ?_
          cases x with
          | normal =>
            have hq' : runB C k (.loop b) e' h' Q = true := hq
            have hx' : ∃ k, p e' h' k := ⟨k, by omega, hq'⟩
            refine ⟨hx', ?_⟩
            have hle := (Classical.choose_spec (least _ hx')).2 k ⟨by omega, hq'⟩
            simp only [dif_pos hx, dif_pos hx', hk]
            omega
          | _ => exact hq
      | exit id => exact exec_exit (by simpa [runB] using hb)
      | ret => exact exec_ret (by simpa [runB] using hb)
      | scope b =>
        simp only [runB] at hb
        exact exec_scope (ih m hmn b e h Q hb)
      | rangeFunc => simp [runB] at hb
      | goto l => simp [runB] at hb
      | refuse w => simp [runB] at hb

/-- A call that a closed run answers. -/
def callB (C : Cx) (n : Nat) (f : FuncId) (args : List AV) (h : AH) (K : AV → AH → Bool) : Bool :=
  match C.fn f with
  | some F => match F.body with
    | some c => runB C n c (enterE F args) h (funB C F K fun _ _ => false)
    | none => false
  | none => false

theorem callB_sound (ok : C.OK) {n : Nat} {f : FuncId} {args : List AV} {K : AV → AH → Bool} (hb : callB C n f args h K = true) : ACall C f args h (fun v h => K v h = true) (fun _ _ => False) := by
  unfold callB at hb
  split at hb
  · rename_i F hF
    split at hb
    · rename_i c hc
      refine acall_body ok hF hc ((runB_sound ok n n (Nat.le_refl _) c _ h _ hb).mono fun x e h hq => ?_)
      cases x with
      | normal =>
        simp only [funB] at hq
        split at hq
        · rename_i v hv; exact ⟨v, hv, hq⟩
        · simp at hq
      | ret =>
        simp only [funB] at hq
        split at hq
        · rename_i v hv; exact ⟨v, hv, hq⟩
        · simp at hq
      | exit id => simp [funB] at hq
      | panic v => simp [funB] at hq
    · simp at hb
  · simp at hb

end
end Go.Proofs.Ytgcoipcnhmkeaaa.Ax
