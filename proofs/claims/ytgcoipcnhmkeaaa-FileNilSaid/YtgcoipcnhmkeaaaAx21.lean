/- AX, part 21: conditions by steps, for simp. -/
import Derived.Test.YtgcoipcnhmkeaaaAx20
set_option linter.unusedVariables false
set_option linter.unusedSimpArgs false
namespace Go.Proofs.Ytgcoipcnhmkeaaa.Ax
open Go.RowKit

inductive Fr where
  | seq (c : Code)
  | block (id : Nat)

def kq (C : Cx) (Q : Post) : List Fr → Post
  | [] => Q
  | .seq c :: ks => thenQ (fun e h => wpc C c e h (kq C Q ks)) (kq C Q ks)
  | .block id :: ks => blockQ id (kq C Q ks)

/-- A proposition that the elaborator does not look into. -/
structure Sealed (p : Prop) : Prop where
  out : p
theorem sealed (p : Prop) : Sealed p = p := propext ⟨fun h => h.out, fun h => ⟨h⟩⟩

def Wc (C : Cx) (Q : Post) (c : Code) (ks : List Fr) (e : Env) (h : AH) : Prop := Sealed (wpc C c e h (kq C Q ks))
def Nx (C : Cx) (Q : Post) (x : Ex) (ks : List Fr) (e : Env) (h : AH) : Prop := Sealed (kq C Q ks x e h)
def Rg (C : Cx) (Q : Post) (ops : Array Oper) (l : List Oper) (ks : List Fr) (e : Env) (h : AH) : Prop := Sealed (opsWp C ops (kq C Q ks) l e h)
def CallK (C : Cx) (Q : Post) (ops : Array Oper) (rest : List Oper) (ks : List Fr) (e : Env) (dst : Option Tmp) (f : FuncId) (args : List AV) (h : AH) : Prop :=
  Sealed <| (C.fn f).isSome = true ∧ ACall C f args h (fun v h' => Rg C Q ops rest ks (putE e dst v) h') (fun v h' => kq C Q ks (.panic v) [] h')
def SlowK (C : Cx) (Q : Post) (ops : Array Oper) (o : Oper) (rest : List Oper) (ks : List Fr) (e : Env) (h : AH) : Prop :=
  Sealed <| opWp C o (ev e) h (fun v h' => Rg C Q ops rest ks (putE e o.dst v) h') (fun v h' => kq C Q ks (.panic v) [] h')
def RgE (C : Cx) (Q : Post) (ops : Array Oper) (o : Oper) (rest : List Oper) (ks : List Fr) (e : Env) (h : AH) : Prop :=
  match effA C o (ev e) h with
  | some r => Rg C Q ops rest ks (putE e o.dst r.1) r.2
  | none => match calleeA C o (ev e) with
    | some r => CallK C Q ops rest ks e o.dst r.1 r.2 h
    | none => SlowK C Q ops o rest ks e h

def LoopK (C : Cx) (Q : Post) (b : Code) (ks : List Fr) (e : Env) (h : AH) : Prop := Sealed (Exec C (.loop b) e h (kq C Q ks))

section
variable {C : Cx} {Q : Post} {ks : List Fr} {e : Env} {h : AH}

theorem Wc_start {c : Code} : Wc C Q c [] e h = wpc C c e h Q := sealed _
theorem Wc_seq {a b : Code} : Wc C Q (.seq a b) ks e h = Wc C Q a (.seq b :: ks) e h := _root_.id rfl
theorem Wc_block {id : Nat} {b : Code} : Wc C Q (.block id b) ks e h = Wc C Q b (.block id :: ks) e h := _root_.id rfl
theorem Wc_scope {b : Code} : Wc C Q (.scope b) ks e h = Wc C Q b ks e h := _root_.id rfl
theorem Wc_skip : Wc C Q .skip ks e h = Nx C Q .normal ks e h := _root_.id rfl
theorem Wc_label {l : Nat} : Wc C Q (.label l) ks e h = Nx C Q .normal ks e h := _root_.id rfl
theorem Wc_exit {id : Nat} : Wc C Q (.exit id) ks e h = Nx C Q (.exit id) ks e h := _root_.id rfl
theorem Wc_ret : Wc C Q .ret ks e h = Nx C Q .ret ks e h := _root_.id rfl
theorem Wc_loop {b : Code} : Wc C Q (.loop b) ks e h = LoopK C Q b ks e h := _root_.id rfl
theorem Wc_region {id : Nat} {ops : Array Oper} : Wc C Q (.region id ops false) ks e h = Rg C Q ops ops.toList ks e h := _root_.id rfl
theorem Wc_cond {c : Operand} {a b : Code} : Wc C Q (.cond c a b) ks e h = match ev e c with
    | .bool p => if p = true then Wc C Q a ks e h else Wc C Q b ks e h
    | _ => False := by
  simp only [Wc, wpc, condP, sealed]
  generalize ev e c = v
  cases v with
  | bool p => cases p <;> simp
  | _ => rfl

theorem Nx_nil {x : Ex} : Nx C Q x [] e h = Q x e h := sealed _
theorem Nx_seq {b : Code} : Nx C Q .normal (.seq b :: ks) e h = Wc C Q b ks e h := _root_.id rfl
theorem Nx_seq_exit {b : Code} {id : Nat} : Nx C Q (.exit id) (.seq b :: ks) e h = Nx C Q (.exit id) ks e h := _root_.id rfl
theorem Nx_seq_ret {b : Code} : Nx C Q .ret (.seq b :: ks) e h = Nx C Q .ret ks e h := _root_.id rfl
theorem Nx_block {id : Nat} : Nx C Q .normal (.block id :: ks) e h = Nx C Q .normal ks e h := _root_.id rfl
theorem Nx_block_exit {id id' : Nat} : Nx C Q (.exit id') (.block id :: ks) e h = if id' = id then Nx C Q .normal ks e h else Nx C Q (.exit id') ks e h := by
  simp only [Nx, kq, blockQ, sealed]
theorem Nx_block_ret {id : Nat} : Nx C Q .ret (.block id :: ks) e h = Nx C Q .ret ks e h := _root_.id rfl

theorem Rg_nil {ops : Array Oper} : Rg C Q ops [] ks e h = Nx C Q .normal ks e h := _root_.id rfl
theorem Rg_cons {ops : Array Oper} {o : Oper} {rest : List Oper} : Rg C Q ops (o :: rest) ks e h = match wantedA ops e o with
    | some true => (match evalN C o (ev e) h with
      | some v => Rg C Q ops rest ks (putE e o.dst v) h
      | none => RgE C Q ops o rest ks e h)
    | some false => Rg C Q ops rest ks (putE e o.dst .undef) h
    | none => False := by
  simp only [Rg, sealed, opsWp]
  cases hw : wantedA ops e o with
  | none => rfl
  | some b =>
    cases b with
    | false => rfl
    | true =>
      simp only [RgE, Rg, CallK, SlowK, sealed, opWp]
      cases hv : evalN C o (ev e) h with
      | some v => rfl
      | none =>
        simp only
        cases hf : effA C o (ev e) h with
        | some r => rfl
        | none =>
          simp only
          cases hc : calleeA C o (ev e) with
          | some r => rfl
          | none => rfl

theorem callK_ret {ops : Array Oper} {rest : List Oper} {dst : Option Tmp} {f : FuncId} {args : List AV} {K : AV → AH → Prop} (hf : (C.fn f).isSome = true) (hc : ACall C f args h K (fun _ _ => False))
    (hk : ∀ v h', K v h' → Rg C Q ops rest ks (putE e dst v) h') : CallK C Q ops rest ks e dst f args h :=
  ⟨⟨hf, hc.mono hk fun _ _ h => h.elim⟩⟩

/-- A call that changes no memory and gives one value. -/
def Ret (C : Cx) (f : FuncId) (args : List AV) (v : AV) : Prop := ∀ h, ACall C f args h (fun w h' => w = v ∧ h' = h) (fun _ _ => False)
/-- A call that gives one value; what it keeps in memory is not told. -/
def RetA (C : Cx) (f : FuncId) (args : List AV) (v : AV) : Prop := ∀ h, ACall C f args h (fun w _ => w = v) (fun _ _ => False)

theorem Ret.retA {f : FuncId} {args : List AV} {v : AV} (hr : Ret C f args v) : RetA C f args v := fun h => (hr h).mono (fun _ _ h => h.1) fun _ _ h => h

theorem callK_Ret {ops : Array Oper} {rest : List Oper} {dst : Option Tmp} {f : FuncId} {args : List AV} {v : AV} (hf : (C.fn f).isSome = true) (hc : Ret C f args v)
    (hk : Rg C Q ops rest ks (putE e dst v) h) : CallK C Q ops rest ks e dst f args h :=
  callK_ret hf (hc h) fun w h' hw => by rw [hw.1, hw.2]; exact hk

theorem callK_RetA {ops : Array Oper} {rest : List Oper} {dst : Option Tmp} {f : FuncId} {args : List AV} {v : AV} (hf : (C.fn f).isSome = true) (hc : RetA C f args v)
    (hk : ∀ h', Rg C Q ops rest ks (putE e dst v) h') : CallK C Q ops rest ks e dst f args h :=
  callK_ret hf (hc h) fun w h' hw => by rw [hw]; exact hk h'

/-- Where a function ends. -/
def finQ (C : Cx) (rs : List ResultVar) (K Kp : AV → AH → Prop) : Post
  | .normal, e, h => match rs.mapM (resOf C e h) with
    | some [v] => K v h
    | some vs => K (.tup vs) h
    | none => False
  | .ret, e, h => match rs.mapM (resOf C e h) with
    | some [v] => K v h
    | some vs => K (.tup vs) h
    | none => False
  | .panic v, _, h => Kp v h
  | .exit _, _, _ => False

def enterN (n : Nat) (args : List AV) : Env := args ++ List.replicate (n - args.length) .undef

theorem finQ_funQ {F : Func} {K Kp : AV → AH → Prop} : ∀ x e h, finQ C F.results.toList K Kp x e h → funQ C F K Kp x e h := by
  intro x e h hq
  cases x with
  | normal =>
    simp only [finQ] at hq
    simp only [funQ, resultsA]
    split at hq
    · rename_i v hv; simp only [hv]; exact ⟨v, rfl, hq⟩
    · rename_i vs hvs hv; simp only [hv]
      exact ⟨.tup vs, rfl, hq⟩
    · exact hq.elim
  | ret =>
    simp only [finQ] at hq
    simp only [funQ, resultsA]
    split at hq
    · rename_i v hv; simp only [hv]; exact ⟨v, rfl, hq⟩
    · rename_i vs hvs hv; simp only [hv]
      exact ⟨.tup vs, rfl, hq⟩
    · exact hq.elim
  | panic v => exact hq
  | exit id => exact hq

theorem wpc_mono (ok : C.OK) {c : Code} {Q Q' : Post} (hw : wpc C c e h Q) (hq : ∀ x e h, Q x e h → Q' x e h) : Exec C c e h Q' := (wpc_sound ok _ _ _ _ hw).mono hq

theorem acall_fin (ok : C.OK) {f : FuncId} {F : Func} {c : Code} {n : Nat} {rs : List ResultVar} {args : List AV} {K Kp : AV → AH → Prop} (hf : C.fn f = some F) (hb : F.body = some c) (hn : F.ntmps = n) (hr : F.results.toList = rs)
    (hx : Wc C (finQ C rs K Kp) c [] (enterN n args) h) : ACall C f args h K Kp := by
  subst hn; subst hr
  exact acall_body ok hf hb (wpc_mono ok hx.out finQ_funQ)

theorem finQ_ret {rs : List ResultVar} {K Kp : AV → AH → Prop} : finQ C rs K Kp .ret e h = match rs.mapM (resOf C e h) with
    | some [v] => K v h
    | some vs => K (.tup vs) h
    | none => False := _root_.id rfl

theorem acall_start (ok : C.OK) {f : FuncId} {F : Func} {c : Code} {args : List AV} {K Kp : AV → AH → Prop} (hf : C.fn f = some F) (hb : F.body = some c) (hx : Wc C (funQ C F K Kp) c [] (enterE F args) h) : ACall C f args h K Kp :=
  acall_wpc ok hf hb hx.out

theorem loopK (ok : C.OK) {b : Code} (I : Env → AH → Prop) (μ : Env → AH → Nat) (h0 : I e h)
    (round : ∀ e h, I e h → Wc C (thenQ (fun e' h' => I e' h' ∧ μ e' h' < μ e h) (kq C Q ks)) b [] e h) : LoopK C Q b ks e h :=
  ⟨exec_loop I μ h0 fun e h hI => wpc_sound ok _ _ _ _ (round e h hI).out⟩

/-- A loop, by an invariant that counts down. -/
theorem loopN (ok : C.OK) {b : Code} (I : Nat → Env → AH → Prop) (n : Nat) (h0 : I n e h)
    (round : ∀ n e h, I n e h → Wc C (thenQ (fun e' h' => ∃ m, m < n ∧ I m e' h') (kq C Q ks)) b [] e h) : LoopK C Q b ks e h := by
  classical
  refine ⟨exec_loop (fun e h => ∃ n, I n e h) (fun e h => if hx : ∃ n, I n e h then Classical.choose (least _ hx) else 0) ⟨n, h0⟩ fun e h hx => ?_⟩
  have hspec := Classical.choose_spec (least _ hx)
  generalize hk : Classical.choose (least _ hx) = k at hspec
  refine (wpc_sound ok _ _ _ _ (round k e h hspec.1).out).mono fun x e' h' hq => ?_
  cases x with
  | normal =>
    obtain ⟨m, hm, hI⟩ : ∃ m, m < k ∧ I m e' h' := hq
    have hx' : ∃ m, I m e' h' := ⟨m, hI⟩
    refine ⟨hx', ?_⟩
    have hle := (Classical.choose_spec (least _ hx')).2 m hI
    simp only [dif_pos hx, dif_pos hx', hk]
    omega
  | _ => exact hq

theorem env_cut {p : List AV} {m : Nat} (h1 : e.take p.length = p) (h2 : e.length = p.length + m) : ∃ ts, ts.length = m ∧ e = p ++ ts :=
  ⟨e.drop p.length, by simp [h2], by conv => lhs; rw [← List.take_append_drop p.length e, h1]⟩

theorem thenQ_normal {K : Env → AH → Prop} : thenQ K Q .normal e h = K e h := _root_.id rfl
theorem thenQ_exit {K : Env → AH → Prop} {id : Nat} : thenQ K Q (.exit id) e h = Q (.exit id) e h := _root_.id rfl
theorem thenQ_ret {K : Env → AH → Prop} : thenQ K Q .ret e h = Q .ret e h := _root_.id rfl
theorem kq_eq {x : Ex} : kq C Q ks x e h = Nx C Q x ks e h := (sealed _).symm
theorem funQ_ret {F : Func} {K Kp : AV → AH → Prop} : funQ C F K Kp .ret e h = ∃ v, resultsA C F e h = some v ∧ K v h := _root_.id rfl

theorem aInt_add {k : IntKind} {x y : Int} : aInt .add k x y = some (.int k (k.wrap (x + y))) := _root_.id rfl
theorem aInt_sub {k : IntKind} {x y : Int} : aInt .sub k x y = some (.int k (k.wrap (x - y))) := _root_.id rfl
theorem aInt_mul {k : IntKind} {x y : Int} : aInt .mul k x y = some (.int k (k.wrap (x * y))) := _root_.id rfl
theorem aInt_quo {k : IntKind} {x y : Int} : aInt .quo k x y = if y = 0 then none else some (.int k (k.wrap (x.tdiv y))) := _root_.id rfl
theorem aInt_rem {k : IntKind} {x y : Int} : aInt .rem k x y = if y = 0 then none else some (.int k (x.tmod y)) := _root_.id rfl
theorem aInt_eql {k : IntKind} {x y : Int} : aInt .eql k x y = some (.bool (x == y)) := _root_.id rfl
theorem aInt_neq {k : IntKind} {x y : Int} : aInt .neq k x y = some (.bool (x != y)) := _root_.id rfl
theorem aInt_lss {k : IntKind} {x y : Int} : aInt .lss k x y = some (.bool (decide (x < y))) := _root_.id rfl
theorem aInt_leq {k : IntKind} {x y : Int} : aInt .leq k x y = some (.bool (decide (x ≤ y))) := _root_.id rfl
theorem aInt_gtr {k : IntKind} {x y : Int} : aInt .gtr k x y = some (.bool (decide (y < x))) := _root_.id rfl
theorem aInt_geq {k : IntKind} {x y : Int} : aInt .geq k x y = some (.bool (decide (y ≤ x))) := _root_.id rfl

theorem wrap64 {x : Int} (h1 : -9223372036854775808 ≤ x) (h2 : x < 9223372036854775808) : IntKind.i64.wrap x = x := by
  rw [IntKind.wrap_i64]; omega
end
end Go.Proofs.Ytgcoipcnhmkeaaa.Ax
