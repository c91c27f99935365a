/- What the table's operations do. -/
import Derived.Test.YteedadelgpagfaaDoorTable
set_option linter.unusedVariables false
set_option linter.unusedSimpArgs false
namespace Go.Proofs.YteedadelgpagfaaDoor.Ax
open Go.RowKit

/-- A call that changes the table alone. -/
def RetT (C : Cx) (f : FuncId) (args : List AV) (h : AH) (k : Nat) (Q : AV → List Ent → Prop) : Prop := ACall C f args h (fun w h' => ∃ T', Q w T' ∧ KeepsBut k h h' ∧ TabIs h' k T') (fun _ _ => False)
theorem callK_RetT {C : Cx} {R : Post} {ks : List Fr} {e : Env} {h : AH} {ops : Array Oper} {rest : List Oper} {dst : Option Tmp} {f : FuncId} {args : List AV} {k : Nat} {Q : AV → List Ent → Prop} (hf : (C.fn f).isSome = true) (hc : RetT C f args h k Q)
    (hk : ∀ v h' T', Q v T' → KeepsBut k h h' → TabIs h' k T' → Rg C R ops rest ks (putE e dst v) h') : CallK C R ops rest ks e dst f args h :=
  callK_ret hf hc fun w h' ⟨T', h1, h2, h3⟩ => hk w h' T' h1 h2 h3

def OpenQ (T : List Ent) (p : List UInt8) (v : AV) (T' : List Ent) : Prop :=
  (splitR p).2 ≠ 0 ∧ v = .tup [.int .i64 0, .int .i64 (splitR p).2] ∧ T' = T ∨
  (splitR p).2 = 0 ∧ (∃ (i : Nat) (x : Ent), i < 16 ∧ T[i]? = some x ∧ x.1 = [] ∧ (∀ (j : Nat) (y : Ent), j < i → T[j]? = some y → y.1 ≠ []) ∧ v = .tup [.int .i64 i, .int .i64 0] ∧ T' = T.set i (p, 0)) ∨
  (splitR p).2 = 0 ∧ (∀ (j : Nat) (y : Ent), T[j]? = some y → y.1 ≠ []) ∧ v = .tup [.int .i64 0, .int .i64 5] ∧ T' = T

def OpI (p : List UInt8) (h : AH) (k : Nat) (T : List Ent) (m : Nat) (e' : Env) (h' : AH) : Prop :=
  h' = h ∧ e'.length = 39 ∧ ∃ i : Nat, i + m = 16 ∧ (∀ (j : Nat) (y : Ent), j < i → T[j]? = some y → y.1 ≠ []) ∧ (e'.getD 0 .undef = .ptr (some (.new k 0)) ∧ e'.getD 1 .undef = .str p ∧ e'.getD 19 .undef = .int .i64 i)

set_option maxHeartbeats 4000000 in
set_option maxRecDepth 20000 in
theorem open_ret (W : World) (h : AH) (k : Nat) (T : List Ent) (ht : TabIs h k T) (p : List UInt8) (hp : p.length < 8796093022207) : RetT (CC W) 8 [.ptr (some (.new k 0)), .str p] h k (OpenQ T p) := by
  refine acall_fin (cc_ok W) (fn8 W) (by simp only [Tryd.f8]; rfl) rfl rfl ?_
  simp [Wc_seq, Wc_block, Wc_scope, Wc_skip, Wc_label, Wc_exit, Wc_ret, Wc_loop, Wc_region, Wc_cond, Nx_nil, Nx_seq, Nx_seq_exit, Nx_seq_ret, Nx_block, Nx_block_exit, Nx_block_ret, Rg_nil, Rg_cons, RgE, effA, calleeA, wantedA, enterN, ev, ofV, ofVn, putE, evalN, aBin, aInt_add, aInt_sub, aInt_mul, aInt_quo, aInt_rem, aInt_eql, aInt_neq, aInt_lss, aInt_leq, aInt_gtr, aInt_geq, aExtract, finQ_ret, resOf, extU, kq_eq, thenQ_normal, thenQ_exit, thenQ_ret]
  refine callK_RetQ (by simp [fn21]) (split_ret W p hp h) fun v h1 hk1 hv => ?_
  obtain ⟨sa, rfl, hsa⟩ := hv
  have ht1 := ht.keeps hk1
  by_cases e0 : (splitR p).2 = 0
  · simp [Wc_seq, Wc_block, Wc_scope, Wc_skip, Wc_label, Wc_exit, Wc_ret, Wc_loop, Wc_region, Wc_cond, Nx_nil, Nx_seq, Nx_seq_exit, Nx_seq_ret, Nx_block, Nx_block_exit, Nx_block_ret, Rg_nil, Rg_cons, RgE, effA, calleeA, wantedA, enterN, ev, ofV, ofVn, putE, evalN, aBin, aInt_add, aInt_sub, aInt_mul, aInt_quo, aInt_rem, aInt_eql, aInt_neq, aInt_lss, aInt_leq, aInt_gtr, aInt_geq, aExtract, finQ_ret, resOf, extU, kq_eq, thenQ_normal, thenQ_exit, thenQ_ret, e0, aEq, kind23, kindEq1, aEq1]
    refine loopN (cc_ok W) (OpI p h1 k T) 16 ⟨rfl, by simp, 0, by simp, fun j y hj => by omega, by simp⟩ ?_
    rintro m e' h' ⟨rfl, hl, i, him, hno, hh⟩
    match e', hl with
    | a0 :: a1 :: a2 :: a3 :: a4 :: a5 :: a6 :: a7 :: a8 :: a9 :: a10 :: a11 :: a12 :: a13 :: a14 :: a15 :: a16 :: a17 :: a18 :: a19 :: a20 :: a21 :: a22 :: a23 :: a24 :: a25 :: a26 :: a27 :: a28 :: a29 :: a30 :: a31 :: a32 :: a33 :: a34 :: a35 :: a36 :: a37 :: a38 :: [], _ =>
      simp at hh
      obtain ⟨rfl, rfl, rfl⟩ := hh
      by_cases hlt : i < 16
      · have hlt' : (i : Int) < 16 := by omega
        have hx : T[i]? = some (T[i]'(by rw [ht.2.2.1]; exact hlt)) := by simp [ht.2.2.1, hlt]
        generalize T[i]'(by rw [ht.2.2.1]; exact hlt) = x at hx
        have l1 := ld_path (W := W) ht1 hx
        have wi : IntKind.i64.wrap ((i : Int) + 1) = (i : Int) + 1 := wrap64 (by omega) (by omega)
        by_cases he : x.1 = []
        · have b1 : (x.1 == []) = true := by rw [beq_iff_eq]; exact he
          have hst := st_open (W := W) ht1 hx (p, 0)
          simp only at hst
          have hbd : aBuild (CC W) 59 [(0, .str p), (1, .int .i64 0)] = some (.agg [.str p, .int .i64 0]) := by
            simp only [aBuild, zero59, placeOf, kind59]; rfl
          simp [Wc_seq, Wc_block, Wc_scope, Wc_skip, Wc_label, Wc_exit, Wc_ret, Wc_loop, Wc_region, Wc_cond, Nx_nil, Nx_seq, Nx_seq_exit, Nx_seq_ret, Nx_block, Nx_block_exit, Nx_block_ret, Rg_nil, Rg_cons, RgE, effA, calleeA, wantedA, enterN, ev, ofV, ofVn, putE, evalN, aBin, aInt_add, aInt_sub, aInt_mul, aInt_quo, aInt_rem, aInt_eql, aInt_neq, aInt_lss, aInt_leq, aInt_gtr, aInt_geq, aExtract, finQ_ret, resOf, extU, kq_eq, thenQ_normal, thenQ_exit, thenQ_ret, hlt, hlt', aNilCheck, fa_l, ia_l hlt, fa_path, l1, aStr, b1, hbd, hst]
          exact ⟨_, .inr (.inl ⟨e0, i, x, hlt, hx, he, hno, rfl, rfl⟩), hk1.but.trans (KeepsBut.set _ _), ht1.put (p, 0) (Int.le_refl 0) (show (0 : Int) ≤ 533248 by decide)⟩
        · have b1 : (x.1 == []) = false := by rw [beq_eq_false_iff_ne]; exact he
          simp [Wc_seq, Wc_block, Wc_scope, Wc_skip, Wc_label, Wc_exit, Wc_ret, Wc_loop, Wc_region, Wc_cond, Nx_nil, Nx_seq, Nx_seq_exit, Nx_seq_ret, Nx_block, Nx_block_exit, Nx_block_ret, Rg_nil, Rg_cons, RgE, effA, calleeA, wantedA, enterN, ev, ofV, ofVn, putE, evalN, aBin, aInt_add, aInt_sub, aInt_mul, aInt_quo, aInt_rem, aInt_eql, aInt_neq, aInt_lss, aInt_leq, aInt_gtr, aInt_geq, aExtract, finQ_ret, resOf, extU, kq_eq, thenQ_normal, thenQ_exit, thenQ_ret, hlt, hlt', aNilCheck, fa_l, ia_l hlt, fa_path, l1, aStr, b1, wi]
          refine ⟨m - 1, by omega, rfl, by simp, i + 1, by omega, fun j y hj hy => ?_, by simp⟩
          rcases Nat.lt_or_ge j i with h | h
          · exact hno j y h hy
          · obtain rfl : j = i := by omega
            rw [hx] at hy; simp at hy; subst hy; exact he
      · have hlt' : ¬ (i : Int) < 16 := by omega
        simp [Wc_seq, Wc_block, Wc_scope, Wc_skip, Wc_label, Wc_exit, Wc_ret, Wc_loop, Wc_region, Wc_cond, Nx_nil, Nx_seq, Nx_seq_exit, Nx_seq_ret, Nx_block, Nx_block_exit, Nx_block_ret, Rg_nil, Rg_cons, RgE, effA, calleeA, wantedA, enterN, ev, ofV, ofVn, putE, evalN, aBin, aInt_add, aInt_sub, aInt_mul, aInt_quo, aInt_rem, aInt_eql, aInt_neq, aInt_lss, aInt_leq, aInt_gtr, aInt_geq, aExtract, finQ_ret, resOf, extU, kq_eq, thenQ_normal, thenQ_exit, thenQ_ret, hlt, hlt']
        refine ⟨T, .inr (.inr ⟨e0, fun j y hy => ?_, rfl, rfl⟩), hk1.but, ht1⟩
        have := (List.getElem?_eq_some_iff.1 hy).1
        exact hno j y (by rw [ht.2.2.1] at this; omega) hy
  · have hne : ((splitR p).2 != 0) = true := by simp [e0]
    simp [Wc_seq, Wc_block, Wc_scope, Wc_skip, Wc_label, Wc_exit, Wc_ret, Wc_loop, Wc_region, Wc_cond, Nx_nil, Nx_seq, Nx_seq_exit, Nx_seq_ret, Nx_block, Nx_block_exit, Nx_block_ret, Rg_nil, Rg_cons, RgE, effA, calleeA, wantedA, enterN, ev, ofV, ofVn, putE, evalN, aBin, aInt_add, aInt_sub, aInt_mul, aInt_quo, aInt_rem, aInt_eql, aInt_neq, aInt_lss, aInt_leq, aInt_gtr, aInt_geq, aExtract, finQ_ret, resOf, extU, kq_eq, thenQ_normal, thenQ_exit, thenQ_ret, hne, e0]
    exact ⟨T, .inl ⟨e0, rfl, rfl⟩, hk1.but, ht1⟩

set_option maxHeartbeats 4000000 in
set_option maxRecDepth 20000 in
theorem open_nil (W : World) (p : List UInt8) (hp : p.length < 8796093022207) : RetX (CC W) 8 [.ptr none, .str p] (.tup [.int .i64 0, .int .i64 (if (splitR p).2 = 0 then 5 else (splitR p).2)]) := by
  intro h
  refine acall_fin (cc_ok W) (fn8 W) (by simp only [Tryd.f8]; rfl) rfl rfl ?_
  simp [Wc_seq, Wc_block, Wc_scope, Wc_skip, Wc_label, Wc_exit, Wc_ret, Wc_loop, Wc_region, Wc_cond, Nx_nil, Nx_seq, Nx_seq_exit, Nx_seq_ret, Nx_block, Nx_block_exit, Nx_block_ret, Rg_nil, Rg_cons, RgE, effA, calleeA, wantedA, enterN, ev, ofV, ofVn, putE, evalN, aBin, aInt_add, aInt_sub, aInt_mul, aInt_quo, aInt_rem, aInt_eql, aInt_neq, aInt_lss, aInt_leq, aInt_gtr, aInt_geq, aExtract, finQ_ret, resOf, extU, kq_eq, thenQ_normal, thenQ_exit, thenQ_ret]
  refine callK_RetQ (by simp [fn21]) (split_ret W p hp h) fun v h1 hk1 hv => ?_
  obtain ⟨sa, rfl, hsa⟩ := hv
  by_cases e0 : (splitR p).2 = 0
  · simp [Wc_seq, Wc_block, Wc_scope, Wc_skip, Wc_label, Wc_exit, Wc_ret, Wc_loop, Wc_region, Wc_cond, Nx_nil, Nx_seq, Nx_seq_exit, Nx_seq_ret, Nx_block, Nx_block_exit, Nx_block_ret, Rg_nil, Rg_cons, RgE, effA, calleeA, wantedA, enterN, ev, ofV, ofVn, putE, evalN, aBin, aInt_add, aInt_sub, aInt_mul, aInt_quo, aInt_rem, aInt_eql, aInt_neq, aInt_lss, aInt_leq, aInt_gtr, aInt_geq, aExtract, finQ_ret, resOf, extU, kq_eq, thenQ_normal, thenQ_exit, thenQ_ret, e0, aEq, kind23, kindEq1, aEq1, hk1]
  · have hne : ((splitR p).2 != 0) = true := by simp [e0]
    simp [Wc_seq, Wc_block, Wc_scope, Wc_skip, Wc_label, Wc_exit, Wc_ret, Wc_loop, Wc_region, Wc_cond, Nx_nil, Nx_seq, Nx_seq_exit, Nx_seq_ret, Nx_block, Nx_block_exit, Nx_block_ret, Rg_nil, Rg_cons, RgE, effA, calleeA, wantedA, enterN, ev, ofV, ofVn, putE, evalN, aBin, aInt_add, aInt_sub, aInt_mul, aInt_quo, aInt_rem, aInt_eql, aInt_neq, aInt_lss, aInt_leq, aInt_gtr, aInt_geq, aExtract, finQ_ret, resOf, extU, kq_eq, thenQ_normal, thenQ_exit, thenQ_ret, hne, e0, hk1]

/-! ### Close -/
def CloseQ (T : List Ent) (fd : Int) (v : AV) (T' : List Ent) : Prop := match gotT T fd with
  | some (i, _) => v = .int .i64 0 ∧ T' = T.set i ([], 0)
  | none => v = .int .i64 311 ∧ T' = T

theorem zero_open {W : World} : aBuild (CC W) 59 [] = some (.agg [.str [], .int .i64 0]) := by
  simp only [aBuild, zero59, placeOf, kind59]; rfl

set_option maxHeartbeats 4000000 in
set_option maxRecDepth 20000 in
theorem close_ret (W : World) (h : AH) (k : Nat) (T : List Ent) (ht : TabIs h k T) (fd : Int) : RetT (CC W) 10 [.ptr (some (.new k 0)), .int .i64 fd] h k (CloseQ T fd) := by
  refine acall_fin (cc_ok W) (fn10 W) (by simp only [Tryd.f10]; rfl) rfl rfl ?_
  simp [Wc_seq, Wc_block, Wc_scope, Wc_skip, Wc_label, Wc_exit, Wc_ret, Wc_loop, Wc_region, Wc_cond, Nx_nil, Nx_seq, Nx_seq_exit, Nx_seq_ret, Nx_block, Nx_block_exit, Nx_block_ret, Rg_nil, Rg_cons, RgE, effA, calleeA, wantedA, enterN, ev, ofV, ofVn, putE, evalN, aBin, aInt_add, aInt_sub, aInt_mul, aInt_quo, aInt_rem, aInt_eql, aInt_neq, aInt_lss, aInt_leq, aInt_gtr, aInt_geq, aExtract, finQ_ret, resOf, extU, kq_eq, thenQ_normal, thenQ_exit, thenQ_ret]
  refine callK_RetH (by simp [fn23]) (get_ret W h k T ht fd) ?_
  have hq : CloseQ T fd = fun v T' => match gotT T fd with
    | some (i, _) => v = .int .i64 0 ∧ T' = T.set i ([], 0)
    | none => v = .int .i64 311 ∧ T' = T := rfl
  rw [hq]
  cases hg : gotT T fd with
  | none =>
    simp [Wc_seq, Wc_block, Wc_scope, Wc_skip, Wc_label, Wc_exit, Wc_ret, Wc_loop, Wc_region, Wc_cond, Nx_nil, Nx_seq, Nx_seq_exit, Nx_seq_ret, Nx_block, Nx_block_exit, Nx_block_ret, Rg_nil, Rg_cons, RgE, effA, calleeA, wantedA, enterN, ev, ofV, ofVn, putE, evalN, aBin, aInt_add, aInt_sub, aInt_mul, aInt_quo, aInt_rem, aInt_eql, aInt_neq, aInt_lss, aInt_leq, aInt_gtr, aInt_geq, aExtract, finQ_ret, resOf, extU, kq_eq, thenQ_normal, thenQ_exit, thenQ_ret, gotV]
    exact ⟨KeepsBut.refl _, ht⟩
  | some r =>
    obtain ⟨i, x⟩ := r
    obtain ⟨rfl, hi, hx, hne⟩ := gotT_some hg
    have hst := st_open (W := W) ht hx ([], 0)
    simp only at hst
    simp [Wc_seq, Wc_block, Wc_scope, Wc_skip, Wc_label, Wc_exit, Wc_ret, Wc_loop, Wc_region, Wc_cond, Nx_nil, Nx_seq, Nx_seq_exit, Nx_seq_ret, Nx_block, Nx_block_exit, Nx_block_ret, Rg_nil, Rg_cons, RgE, effA, calleeA, wantedA, enterN, ev, ofV, ofVn, putE, evalN, aBin, aInt_add, aInt_sub, aInt_mul, aInt_quo, aInt_rem, aInt_eql, aInt_neq, aInt_lss, aInt_leq, aInt_gtr, aInt_geq, aExtract, finQ_ret, resOf, extU, kq_eq, thenQ_normal, thenQ_exit, thenQ_ret, gotV, zero_open, aNilCheck, hst]
    exact ⟨KeepsBut.set _ _, ht.put ([], 0) (by decide) (by decide)⟩

set_option maxRecDepth 20000 in
theorem close_nil (W : World) (fd : Int) : Ret (CC W) 10 [.ptr none, .int .i64 fd] (.int .i64 311) := by
  intro h
  refine acall_fin (cc_ok W) (fn10 W) (by simp only [Tryd.f10]; rfl) rfl rfl ?_
  simp [Wc_seq, Wc_block, Wc_scope, Wc_skip, Wc_label, Wc_exit, Wc_ret, Wc_loop, Wc_region, Wc_cond, Nx_nil, Nx_seq, Nx_seq_exit, Nx_seq_ret, Nx_block, Nx_block_exit, Nx_block_ret, Rg_nil, Rg_cons, RgE, effA, calleeA, wantedA, enterN, ev, ofV, ofVn, putE, evalN, aBin, aInt_add, aInt_sub, aInt_mul, aInt_quo, aInt_rem, aInt_eql, aInt_neq, aInt_lss, aInt_leq, aInt_gtr, aInt_geq, aExtract, finQ_ret, resOf, extU, kq_eq, thenQ_normal, thenQ_exit, thenQ_ret]
  refine callK_Ret (by simp [fn23]) (get_nil W fd) ?_
  simp [Wc_seq, Wc_block, Wc_scope, Wc_skip, Wc_label, Wc_exit, Wc_ret, Wc_loop, Wc_region, Wc_cond, Nx_nil, Nx_seq, Nx_seq_exit, Nx_seq_ret, Nx_block, Nx_block_exit, Nx_block_ret, Rg_nil, Rg_cons, RgE, effA, calleeA, wantedA, enterN, ev, ofV, ofVn, putE, evalN, aBin, aInt_add, aInt_sub, aInt_mul, aInt_quo, aInt_rem, aInt_eql, aInt_neq, aInt_lss, aInt_leq, aInt_gtr, aInt_geq, aExtract, finQ_ret, resOf, extU, kq_eq, thenQ_normal, thenQ_exit, thenQ_ret]

/-! ### Seek -/
def seekOk (fr by' : Int) : Bool := decide (0 ≤ fr ∧ fr ≤ 533248) && decide (-533248 ≤ by' ∧ by' ≤ 533248) && decide (0 ≤ fr + by' ∧ fr + by' ≤ 533248)
def SeekQ (T : List Ent) (fd fr by' : Int) (v : AV) (T' : List Ent) : Prop := match gotT T fd with
  | some (i, x) => if seekOk fr by' = true then v = .tup [.int .i64 (fr + by'), .int .i64 0] ∧ T' = T.set i (x.1, fr + by') else v = .tup [.int .i64 0, .int .i64 309] ∧ T' = T
  | none => v = .tup [.int .i64 0, .int .i64 311] ∧ T' = T

set_option maxHeartbeats 8000000 in
set_option maxRecDepth 20000 in
theorem seek_ret (W : World) (h : AH) (k : Nat) (T : List Ent) (ht : TabIs h k T) (fd fr by' : Int) : RetT (CC W) 13 [.ptr (some (.new k 0)), .int .i64 fd, .int .i64 fr, .int .i64 by'] h k (SeekQ T fd fr by') := by
  refine acall_fin (cc_ok W) (fn13 W) (by simp only [Tryd.f13]; rfl) rfl rfl ?_
  simp [Wc_seq, Wc_block, Wc_scope, Wc_skip, Wc_label, Wc_exit, Wc_ret, Wc_loop, Wc_region, Wc_cond, Nx_nil, Nx_seq, Nx_seq_exit, Nx_seq_ret, Nx_block, Nx_block_exit, Nx_block_ret, Rg_nil, Rg_cons, RgE, effA, calleeA, wantedA, enterN, ev, ofV, ofVn, putE, evalN, aBin, aInt_add, aInt_sub, aInt_mul, aInt_quo, aInt_rem, aInt_eql, aInt_neq, aInt_lss, aInt_leq, aInt_gtr, aInt_geq, aExtract, finQ_ret, resOf, extU, kq_eq, thenQ_normal, thenQ_exit, thenQ_ret]
  refine callK_RetH (by simp [fn23]) (get_ret W h k T ht fd) ?_
  have hq : SeekQ T fd fr by' = fun v T' => match gotT T fd with
    | some (i, x) => if seekOk fr by' = true then v = .tup [.int .i64 (fr + by'), .int .i64 0] ∧ T' = T.set i (x.1, fr + by') else v = .tup [.int .i64 0, .int .i64 309] ∧ T' = T
    | none => v = .tup [.int .i64 0, .int .i64 311] ∧ T' = T := rfl
  rw [hq]
  cases hg : gotT T fd with
  | none =>
    simp [Wc_seq, Wc_block, Wc_scope, Wc_skip, Wc_label, Wc_exit, Wc_ret, Wc_loop, Wc_region, Wc_cond, Nx_nil, Nx_seq, Nx_seq_exit, Nx_seq_ret, Nx_block, Nx_block_exit, Nx_block_ret, Rg_nil, Rg_cons, RgE, effA, calleeA, wantedA, enterN, ev, ofV, ofVn, putE, evalN, aBin, aInt_add, aInt_sub, aInt_mul, aInt_quo, aInt_rem, aInt_eql, aInt_neq, aInt_lss, aInt_leq, aInt_gtr, aInt_geq, aExtract, finQ_ret, resOf, extU, kq_eq, thenQ_normal, thenQ_exit, thenQ_ret, gotV]
    exact ⟨KeepsBut.refl _, ht⟩
  | some r =>
    obtain ⟨i, x⟩ := r
    obtain ⟨rfl, hi, hx, hne⟩ := gotT_some hg
    simp [Wc_seq, Wc_block, Wc_scope, Wc_skip, Wc_label, Wc_exit, Wc_ret, Wc_loop, Wc_region, Wc_cond, Nx_nil, Nx_seq, Nx_seq_exit, Nx_seq_ret, Nx_block, Nx_block_exit, Nx_block_ret, Rg_nil, Rg_cons, RgE, effA, calleeA, wantedA, enterN, ev, ofV, ofVn, putE, evalN, aBin, aInt_add, aInt_sub, aInt_mul, aInt_quo, aInt_rem, aInt_eql, aInt_neq, aInt_lss, aInt_leq, aInt_gtr, aInt_geq, aExtract, finQ_ret, resOf, extU, kq_eq, thenQ_normal, thenQ_exit, thenQ_ret, gotV]
    refine callK_Ret (by simp [fn24]) (in_ret W fr) ?_
    by_cases h1 : 0 ≤ fr ∧ fr ≤ 533248
    · rw [decide_eq_true h1]
      by_cases h2 : by' < -533248
      · have hs : seekOk fr by' = false := by
          have : ¬ (-533248 ≤ by' ∧ by' ≤ 533248) := by omega
          simp [seekOk, this]
        simp [Wc_seq, Wc_block, Wc_scope, Wc_skip, Wc_label, Wc_exit, Wc_ret, Wc_loop, Wc_region, Wc_cond, Nx_nil, Nx_seq, Nx_seq_exit, Nx_seq_ret, Nx_block, Nx_block_exit, Nx_block_ret, Rg_nil, Rg_cons, RgE, effA, calleeA, wantedA, enterN, ev, ofV, ofVn, putE, evalN, aBin, aInt_add, aInt_sub, aInt_mul, aInt_quo, aInt_rem, aInt_eql, aInt_neq, aInt_lss, aInt_leq, aInt_gtr, aInt_geq, aExtract, finQ_ret, resOf, extU, kq_eq, thenQ_normal, thenQ_exit, thenQ_ret, aUn, h2, hs]
        exact ⟨KeepsBut.refl _, ht⟩
      · by_cases h3 : 533248 < by'
        · have hs : seekOk fr by' = false := by
            have : ¬ (-533248 ≤ by' ∧ by' ≤ 533248) := by omega
            simp [seekOk, this]
          simp [Wc_seq, Wc_block, Wc_scope, Wc_skip, Wc_label, Wc_exit, Wc_ret, Wc_loop, Wc_region, Wc_cond, Nx_nil, Nx_seq, Nx_seq_exit, Nx_seq_ret, Nx_block, Nx_block_exit, Nx_block_ret, Rg_nil, Rg_cons, RgE, effA, calleeA, wantedA, enterN, ev, ofV, ofVn, putE, evalN, aBin, aInt_add, aInt_sub, aInt_mul, aInt_quo, aInt_rem, aInt_eql, aInt_neq, aInt_lss, aInt_leq, aInt_gtr, aInt_geq, aExtract, finQ_ret, resOf, extU, kq_eq, thenQ_normal, thenQ_exit, thenQ_ret, aUn, h2, h3, hs]
          exact ⟨KeepsBut.refl _, ht⟩
        · have hw : IntKind.i64.wrap (fr + by') = fr + by' := wrap64 (by omega) (by omega)
          simp [Wc_seq, Wc_block, Wc_scope, Wc_skip, Wc_label, Wc_exit, Wc_ret, Wc_loop, Wc_region, Wc_cond, Nx_nil, Nx_seq, Nx_seq_exit, Nx_seq_ret, Nx_block, Nx_block_exit, Nx_block_ret, Rg_nil, Rg_cons, RgE, effA, calleeA, wantedA, enterN, ev, ofV, ofVn, putE, evalN, aBin, aInt_add, aInt_sub, aInt_mul, aInt_quo, aInt_rem, aInt_eql, aInt_neq, aInt_lss, aInt_leq, aInt_gtr, aInt_geq, aExtract, finQ_ret, resOf, extU, kq_eq, thenQ_normal, thenQ_exit, thenQ_ret, aUn, h2, h3, hw]
          refine callK_Ret (by simp [fn24]) (in_ret W (fr + by')) ?_
          by_cases h4 : 0 ≤ fr + by' ∧ fr + by' ≤ 533248
          · have hs : seekOk fr by' = true := by
              have : (-533248 ≤ by' ∧ by' ≤ 533248) := by omega
              simp [seekOk, this, h1, h4]
            rw [decide_eq_true h4]
            have hst := st_at (W := W) ht hx (fr + by')
            have ht2 := ht.put (i := i) (x.1, fr + by') h4.1 h4.2
            have hx2 : (T.set i (x.1, fr + by'))[i]? = some (x.1, fr + by') := by
              rw [List.getElem?_set]; simp; rw [ht.2.2.1]; exact hi
            have hld := ld_at (W := W) ht2 hx2
            simp only at hld
            simp [Wc_seq, Wc_block, Wc_scope, Wc_skip, Wc_label, Wc_exit, Wc_ret, Wc_loop, Wc_region, Wc_cond, Nx_nil, Nx_seq, Nx_seq_exit, Nx_seq_ret, Nx_block, Nx_block_exit, Nx_block_ret, Rg_nil, Rg_cons, RgE, effA, calleeA, wantedA, enterN, ev, ofV, ofVn, putE, evalN, aBin, aInt_add, aInt_sub, aInt_mul, aInt_quo, aInt_rem, aInt_eql, aInt_neq, aInt_lss, aInt_leq, aInt_gtr, aInt_geq, aExtract, finQ_ret, resOf, extU, kq_eq, thenQ_normal, thenQ_exit, thenQ_ret, aUn, hs, hw, aNilCheck, fa_at, hst, hld]
            exact ⟨KeepsBut.set _ _, ht2⟩
          · have hs : seekOk fr by' = false := by simp [seekOk, h4]
            rw [decide_eq_false h4]
            simp [Wc_seq, Wc_block, Wc_scope, Wc_skip, Wc_label, Wc_exit, Wc_ret, Wc_loop, Wc_region, Wc_cond, Nx_nil, Nx_seq, Nx_seq_exit, Nx_seq_ret, Nx_block, Nx_block_exit, Nx_block_ret, Rg_nil, Rg_cons, RgE, effA, calleeA, wantedA, enterN, ev, ofV, ofVn, putE, evalN, aBin, aInt_add, aInt_sub, aInt_mul, aInt_quo, aInt_rem, aInt_eql, aInt_neq, aInt_lss, aInt_leq, aInt_gtr, aInt_geq, aExtract, finQ_ret, resOf, extU, kq_eq, thenQ_normal, thenQ_exit, thenQ_ret, aUn, hs]
            exact ⟨KeepsBut.refl _, ht⟩
    · have hs : seekOk fr by' = false := by simp [seekOk, h1]
      rw [decide_eq_false h1]
      simp [Wc_seq, Wc_block, Wc_scope, Wc_skip, Wc_label, Wc_exit, Wc_ret, Wc_loop, Wc_region, Wc_cond, Nx_nil, Nx_seq, Nx_seq_exit, Nx_seq_ret, Nx_block, Nx_block_exit, Nx_block_ret, Rg_nil, Rg_cons, RgE, effA, calleeA, wantedA, enterN, ev, ofV, ofVn, putE, evalN, aBin, aInt_add, aInt_sub, aInt_mul, aInt_quo, aInt_rem, aInt_eql, aInt_neq, aInt_lss, aInt_leq, aInt_gtr, aInt_geq, aExtract, finQ_ret, resOf, extU, kq_eq, thenQ_normal, thenQ_exit, thenQ_ret, aUn, hs]
      exact ⟨KeepsBut.refl _, ht⟩

set_option maxRecDepth 20000 in
theorem seek_nil (W : World) (fd fr by' : Int) : Ret (CC W) 13 [.ptr none, .int .i64 fd, .int .i64 fr, .int .i64 by'] (.tup [.int .i64 0, .int .i64 311]) := by
  intro h
  refine acall_fin (cc_ok W) (fn13 W) (by simp only [Tryd.f13]; rfl) rfl rfl ?_
  simp [Wc_seq, Wc_block, Wc_scope, Wc_skip, Wc_label, Wc_exit, Wc_ret, Wc_loop, Wc_region, Wc_cond, Nx_nil, Nx_seq, Nx_seq_exit, Nx_seq_ret, Nx_block, Nx_block_exit, Nx_block_ret, Rg_nil, Rg_cons, RgE, effA, calleeA, wantedA, enterN, ev, ofV, ofVn, putE, evalN, aBin, aInt_add, aInt_sub, aInt_mul, aInt_quo, aInt_rem, aInt_eql, aInt_neq, aInt_lss, aInt_leq, aInt_gtr, aInt_geq, aExtract, finQ_ret, resOf, extU, kq_eq, thenQ_normal, thenQ_exit, thenQ_ret]
  refine callK_Ret (by simp [fn23]) (get_nil W fd) ?_
  simp [Wc_seq, Wc_block, Wc_scope, Wc_skip, Wc_label, Wc_exit, Wc_ret, Wc_loop, Wc_region, Wc_cond, Nx_nil, Nx_seq, Nx_seq_exit, Nx_seq_ret, Nx_block, Nx_block_exit, Nx_block_ret, Rg_nil, Rg_cons, RgE, effA, calleeA, wantedA, enterN, ev, ofV, ofVn, putE, evalN, aBin, aInt_add, aInt_sub, aInt_mul, aInt_quo, aInt_rem, aInt_eql, aInt_neq, aInt_lss, aInt_leq, aInt_gtr, aInt_geq, aExtract, finQ_ret, resOf, extU, kq_eq, thenQ_normal, thenQ_exit, thenQ_ret]

/-! ### Moved -/
def MovedQ (T : List Ent) (fd n : Int) (v : AV) (T' : List Ent) : Prop := match gotT T fd with
  | some (i, x) => if 0 ≤ n ∧ n ≤ 533248 - x.2 then v = .int .i64 0 ∧ T' = T.set i (x.1, x.2 + n) else v = .int .i64 309 ∧ T' = T
  | none => v = .int .i64 311 ∧ T' = T

set_option maxHeartbeats 8000000 in
set_option maxRecDepth 20000 in
theorem moved_ret (W : World) (h : AH) (k : Nat) (T : List Ent) (ht : TabIs h k T) (fd n : Int) : RetT (CC W) 16 [.ptr (some (.new k 0)), .int .i64 fd, .int .i64 n] h k (MovedQ T fd n) := by
  refine acall_fin (cc_ok W) (fn16 W) (by simp only [Tryd.f16]; rfl) rfl rfl ?_
  simp [Wc_seq, Wc_block, Wc_scope, Wc_skip, Wc_label, Wc_exit, Wc_ret, Wc_loop, Wc_region, Wc_cond, Nx_nil, Nx_seq, Nx_seq_exit, Nx_seq_ret, Nx_block, Nx_block_exit, Nx_block_ret, Rg_nil, Rg_cons, RgE, effA, calleeA, wantedA, enterN, ev, ofV, ofVn, putE, evalN, aBin, aInt_add, aInt_sub, aInt_mul, aInt_quo, aInt_rem, aInt_eql, aInt_neq, aInt_lss, aInt_leq, aInt_gtr, aInt_geq, aExtract, finQ_ret, resOf, extU, kq_eq, thenQ_normal, thenQ_exit, thenQ_ret]
  refine callK_RetH (by simp [fn23]) (get_ret W h k T ht fd) ?_
  have hq : MovedQ T fd n = fun v T' => match gotT T fd with
    | some (i, x) => if 0 ≤ n ∧ n ≤ 533248 - x.2 then v = .int .i64 0 ∧ T' = T.set i (x.1, x.2 + n) else v = .int .i64 309 ∧ T' = T
    | none => v = .int .i64 311 ∧ T' = T := rfl
  rw [hq]
  cases hg : gotT T fd with
  | none =>
    simp [Wc_seq, Wc_block, Wc_scope, Wc_skip, Wc_label, Wc_exit, Wc_ret, Wc_loop, Wc_region, Wc_cond, Nx_nil, Nx_seq, Nx_seq_exit, Nx_seq_ret, Nx_block, Nx_block_exit, Nx_block_ret, Rg_nil, Rg_cons, RgE, effA, calleeA, wantedA, enterN, ev, ofV, ofVn, putE, evalN, aBin, aInt_add, aInt_sub, aInt_mul, aInt_quo, aInt_rem, aInt_eql, aInt_neq, aInt_lss, aInt_leq, aInt_gtr, aInt_geq, aExtract, finQ_ret, resOf, extU, kq_eq, thenQ_normal, thenQ_exit, thenQ_ret, gotV]
    exact ⟨KeepsBut.refl _, ht⟩
  | some r =>
    obtain ⟨i, x⟩ := r
    obtain ⟨rfl, hi, hx, hne⟩ := gotT_some hg
    have hb := ht.2.2.2 i x hx
    have hld := ld_at (W := W) ht hx
    by_cases h1 : n < 0
    · have hc : ¬ (0 ≤ n ∧ n ≤ 533248 - x.2) := by omega
      simp only [if_neg hc]
      simp [Wc_seq, Wc_block, Wc_scope, Wc_skip, Wc_label, Wc_exit, Wc_ret, Wc_loop, Wc_region, Wc_cond, Nx_nil, Nx_seq, Nx_seq_exit, Nx_seq_ret, Nx_block, Nx_block_exit, Nx_block_ret, Rg_nil, Rg_cons, RgE, effA, calleeA, wantedA, enterN, ev, ofV, ofVn, putE, evalN, aBin, aInt_add, aInt_sub, aInt_mul, aInt_quo, aInt_rem, aInt_eql, aInt_neq, aInt_lss, aInt_leq, aInt_gtr, aInt_geq, aExtract, finQ_ret, resOf, extU, kq_eq, thenQ_normal, thenQ_exit, thenQ_ret, gotV, h1]
      exact ⟨KeepsBut.refl _, ht⟩
    · have hw : IntKind.i64.wrap (533248 - x.2) = 533248 - x.2 := wrap64 (by omega) (by omega)
      by_cases h2 : 533248 - x.2 < n
      · have hc : ¬ (0 ≤ n ∧ n ≤ 533248 - x.2) := by omega
        simp only [if_neg hc]
        simp [Wc_seq, Wc_block, Wc_scope, Wc_skip, Wc_label, Wc_exit, Wc_ret, Wc_loop, Wc_region, Wc_cond, Nx_nil, Nx_seq, Nx_seq_exit, Nx_seq_ret, Nx_block, Nx_block_exit, Nx_block_ret, Rg_nil, Rg_cons, RgE, effA, calleeA, wantedA, enterN, ev, ofV, ofVn, putE, evalN, aBin, aInt_add, aInt_sub, aInt_mul, aInt_quo, aInt_rem, aInt_eql, aInt_neq, aInt_lss, aInt_leq, aInt_gtr, aInt_geq, aExtract, finQ_ret, resOf, extU, kq_eq, thenQ_normal, thenQ_exit, thenQ_ret, gotV, h1, aNilCheck, fa_at, hld, hw, h2]
        exact ⟨KeepsBut.refl _, ht⟩
      · have hc : 0 ≤ n ∧ n ≤ 533248 - x.2 := by omega
        have hw2 : IntKind.i64.wrap (x.2 + n) = x.2 + n := wrap64 (by omega) (by omega)
        have hst := st_at (W := W) ht hx (x.2 + n)
        simp only [if_pos hc]
        simp [Wc_seq, Wc_block, Wc_scope, Wc_skip, Wc_label, Wc_exit, Wc_ret, Wc_loop, Wc_region, Wc_cond, Nx_nil, Nx_seq, Nx_seq_exit, Nx_seq_ret, Nx_block, Nx_block_exit, Nx_block_ret, Rg_nil, Rg_cons, RgE, effA, calleeA, wantedA, enterN, ev, ofV, ofVn, putE, evalN, aBin, aInt_add, aInt_sub, aInt_mul, aInt_quo, aInt_rem, aInt_eql, aInt_neq, aInt_lss, aInt_leq, aInt_gtr, aInt_geq, aExtract, finQ_ret, resOf, extU, kq_eq, thenQ_normal, thenQ_exit, thenQ_ret, gotV, h1, aNilCheck, fa_at, hld, hw, h2, hw2, hst]
        exact ⟨KeepsBut.set _ _, ht.put (x.1, x.2 + n) (by simp only; omega) (by simp only; omega)⟩

set_option maxRecDepth 20000 in
theorem moved_nil (W : World) (fd n : Int) : Ret (CC W) 16 [.ptr none, .int .i64 fd, .int .i64 n] (.int .i64 311) := by
  intro h
  refine acall_fin (cc_ok W) (fn16 W) (by simp only [Tryd.f16]; rfl) rfl rfl ?_
  simp [Wc_seq, Wc_block, Wc_scope, Wc_skip, Wc_label, Wc_exit, Wc_ret, Wc_loop, Wc_region, Wc_cond, Nx_nil, Nx_seq, Nx_seq_exit, Nx_seq_ret, Nx_block, Nx_block_exit, Nx_block_ret, Rg_nil, Rg_cons, RgE, effA, calleeA, wantedA, enterN, ev, ofV, ofVn, putE, evalN, aBin, aInt_add, aInt_sub, aInt_mul, aInt_quo, aInt_rem, aInt_eql, aInt_neq, aInt_lss, aInt_leq, aInt_gtr, aInt_geq, aExtract, finQ_ret, resOf, extU, kq_eq, thenQ_normal, thenQ_exit, thenQ_ret]
  refine callK_Ret (by simp [fn23]) (get_nil W fd) ?_
  simp [Wc_seq, Wc_block, Wc_scope, Wc_skip, Wc_label, Wc_exit, Wc_ret, Wc_loop, Wc_region, Wc_cond, Nx_nil, Nx_seq, Nx_seq_exit, Nx_seq_ret, Nx_block, Nx_block_exit, Nx_block_ret, Rg_nil, Rg_cons, RgE, effA, calleeA, wantedA, enterN, ev, ofV, ofVn, putE, evalN, aBin, aInt_add, aInt_sub, aInt_mul, aInt_quo, aInt_rem, aInt_eql, aInt_neq, aInt_lss, aInt_leq, aInt_gtr, aInt_geq, aExtract, finQ_ret, resOf, extU, kq_eq, thenQ_normal, thenQ_exit, thenQ_ret]
end Go.Proofs.YteedadelgpagfaaDoor.Ax
