/- What the document's table does: Seek, Moved, Op. -/
import Derived.Test.YteedadelgpagfaaDoorFiles
set_option linter.unusedVariables false
set_option linter.unusedSimpArgs false
namespace Go.Proofs.YteedadelgpagfaaDoor.Ax
open Go.RowKit

def KeepsBut2 (a b : Nat) (h h' : AH) : Prop := h.next ≤ h'.next ∧ ∀ j, j < h.next → j ≠ a → j ≠ b → h'.get j = h.get j
theorem Keeps.but2 {a b : Nat} {h h' : AH} (hk : Keeps h h') : KeepsBut2 a b h h' := ⟨hk.1, fun j hj _ _ => hk.2 j hj⟩

/-- A call that changes the document's table alone. -/
def RetR (C : Cx) (f : FuncId) (args : List AV) (h : AH) (kw kl : Nat) (Q : AV → List Ent → Prop) : Prop :=
  ACall C f args h (fun w h' => ∃ T' kl', Q w T' ∧ RefIs h' kw kl' (files T') ∧ KeepsBut2 kw kl h h' ∧ (kl' = kl ∨ h.next ≤ kl')) (fun _ _ => False)
theorem callK_RetR {C : Cx} {R : Post} {ks : List Fr} {e : Env} {h : AH} {ops : Array Oper} {rest : List Oper} {dst : Option Tmp} {f : FuncId} {args : List AV} {kw kl : Nat} {Q : AV → List Ent → Prop} (hf : (C.fn f).isSome = true) (hc : RetR C f args h kw kl Q)
    (hk : ∀ v h' T' kl', Q v T' → RefIs h' kw kl' (files T') → KeepsBut2 kw kl h h' → (kl' = kl ∨ h.next ≤ kl') → Rg C R ops rest ks (putE e dst v) h') : CallK C R ops rest ks e dst f args h :=
  callK_ret hf hc fun w h' ⟨T', kl', h1, h2, h3, h4⟩ => hk w h' T' kl' h1 h2 h3 h4

theorem fcells_get {F : List Fe} {i : Nat} {x : Fe} (h : F[i]? = some x) : (fcells F)[3 * i]? = some (.int .i64 x.fd) ∧ (fcells F)[3 * i + 1]? = some (.int .i64 x.at') ∧ (fcells F)[3 * i + 2]? = some (.str x.path) := by
  have hc := fcells_at h
  have g : ∀ j, j < 3 → (fcells F)[3 * i + j]? = x.cells[j]? := by
    intro j hj
    rw [← hc, List.getElem?_take, if_pos hj, List.getElem?_drop]
  exact ⟨g 0 (by decide), g 1 (by decide), g 2 (by decide)⟩

theorem fcells_putat {F : List Fe} {i : Nat} {x : Fe} (a : Int) (h : F[i]? = some x) : overlay (fcells F) [.int .i64 a] (3 * i + 1) = fcells (F.set i ⟨x.fd, a, x.path⟩) := by
  induction F generalizing i with
  | nil => simp at h
  | cons y F ih =>
    have e : fcells (y :: F) = .int .i64 y.fd :: .int .i64 y.at' :: .str y.path :: fcells F := rfl
    cases i with
    | zero => simp at h; subst h; rw [e]; simp [overlay, fcells, Fe.cells]
    | succ i =>
      have := ih (i := i) (by simpa using h)
      rw [List.set_cons_succ, show fcells (y :: F.set i ⟨x.fd, a, x.path⟩) = .int .i64 y.fd :: .int .i64 y.at' :: .str y.path :: fcells (F.set i ⟨x.fd, a, x.path⟩) from rfl, ← this, e, show 3 * (i + 1) + 1 = (3 * i + 1) + 1 + 1 + 1 by omega]
      simp only [overlay, List.length_cons, List.length_nil, List.take_succ_cons, List.cons_append]
      congr 4

section
variable {W : World} {h : AH} {kl i : Nat} {F : List Fe} {x : Fe}
theorem ld_fat {t : TypeId} (hg : h.get kl = some (.cells (fcells F) t)) (hx : F[i]? = some x) : aLoad (CC W) h 3 (.new kl (3 * i + 1)) = some (.int .i64 x.at') := by
  rw [ld_int]; simp only [aCell, hg]; exact (fcells_get hx).2.1
theorem ld_fpath {t : TypeId} (hg : h.get kl = some (.cells (fcells F) t)) (hx : F[i]? = some x) : aLoad (CC W) h 9 (.new kl (3 * i + 2)) = some (.str x.path) := by
  refine aLoad_str ?_; simp only [aCell, hg]; exact (fcells_get hx).2.2
theorem st_fat {t : TypeId} (hg : h.get kl = some (.cells (fcells F) t)) (hx : F[i]? = some x) (a : Int) : aStoreOp (CC W) h 3 (.ptr (some (.new kl (3 * i + 1)))) (.int .i64 a) = some (h.set kl (.cells (fcells (F.set i ⟨x.fd, a, x.path⟩)) t)) := by
  have hi := (List.getElem?_eq_some_iff.1 hx).1
  have hl := fcells_length F
  simp only [aStoreOp, aCellsOf, size3, aStore, hg]
  rw [if_pos (by rfl), if_pos ⟨by simp; omega, by rfl⟩, fcells_putat a hx]
end

/-- An open descriptor in the document's table: where its list lies. -/
theorem ref_some {h : AH} {kw kl i : Nat} {F : List Fe} {x : Fe} (hr : RefIs h kw kl F) (hx : F[i]? = some x) : kl < h.next ∧ kl ≠ kw ∧ h.get kl = some (.cells (fcells F) 54) ∧ h.get kw = some (.cells [.sl (some (.new kl 0)) F.length F.length (some 3)] 51) := by
  obtain ⟨h1, sv, h2, h3 | ⟨a, b, c, d⟩⟩ := hr
  · rw [h3.1] at hx; simp at hx
  · subst d; exact ⟨a, b, c, h2⟩
theorem ref_set {h : AH} {kw kl i : Nat} {F : List Fe} {x y : Fe} (hr : RefIs h kw kl F) (hx : F[i]? = some x) : RefIs (h.set kl (.cells (fcells (F.set i y)) 54)) kw kl (F.set i y) := by
  obtain ⟨a, b, c, d⟩ := ref_some hr hx
  refine ⟨by simpa using hr.1, _, by rw [AH.get_set, if_neg (Ne.symm b)]; exact d, .inr ⟨by simpa using a, b, by simp, by simp⟩⟩

set_option maxHeartbeats 8000000 in
set_option maxRecDepth 20000 in
theorem refSeek_ret (W : World) (h : AH) (kw kl : Nat) (T : List Ent) (hT : T.length = 16) (hr : RefIs h kw kl (files T)) (fd fr by' : Int) : RetR (CC W) 27 [.ptr (some (.new kw 0)), .int .i64 fd, .int .i64 fr, .int .i64 by'] h kw kl (SeekQ T fd fr by') := by
  refine acall_fin (cc_ok W) (fn27 W) (by simp only [Tryd.f27]; rfl) rfl rfl ?_
  have hq : SeekQ T fd fr by' = fun v T' => match gotT T fd with
    | some (i, x) => if seekOk fr by' = true then v = .tup [.int .i64 (fr + by'), .int .i64 0] ∧ T' = T.set i (x.1, fr + by') else v = .tup [.int .i64 0, .int .i64 309] ∧ T' = T
    | none => v = .tup [.int .i64 0, .int .i64 311] ∧ T' = T := rfl
  rw [hq]
  have hfl : (files T).length < 1099511627776 := by
    unfold files; rw [files_length]
    have : nOpen T ≤ T.length := List.countP_le_length
    omega
  simp [Wc_seq, Wc_block, Wc_scope, Wc_skip, Wc_label, Wc_exit, Wc_ret, Wc_loop, Wc_region, Wc_cond, Nx_nil, Nx_seq, Nx_seq_exit, Nx_seq_ret, Nx_block, Nx_block_exit, Nx_block_ret, Rg_nil, Rg_cons, RgE, effA, calleeA, wantedA, enterN, ev, ofV, ofVn, putE, evalN, aBin, aInt_add, aInt_sub, aInt_mul, aInt_quo, aInt_rem, aInt_eql, aInt_neq, aInt_lss, aInt_leq, aInt_gtr, aInt_geq, aExtract, finQ_ret, resOf, extU, kq_eq, thenQ_normal, thenQ_exit, thenQ_ret]
  refine callK_RetQ (by simp [fn19]) (find_ret W kw kl (files T) h hr hfl fd) fun v h1 hk1 hv => ?_
  subst hv
  have hr1 := hr.keeps hk1
  cases hg : gotT T fd with
  | none =>
    rw [files_miss hg hT]
    simp [Wc_seq, Wc_block, Wc_scope, Wc_skip, Wc_label, Wc_exit, Wc_ret, Wc_loop, Wc_region, Wc_cond, Nx_nil, Nx_seq, Nx_seq_exit, Nx_seq_ret, Nx_block, Nx_block_exit, Nx_block_ret, Rg_nil, Rg_cons, RgE, effA, calleeA, wantedA, enterN, ev, ofV, ofVn, putE, evalN, aBin, aInt_add, aInt_sub, aInt_mul, aInt_quo, aInt_rem, aInt_eql, aInt_neq, aInt_lss, aInt_leq, aInt_gtr, aInt_geq, aExtract, finQ_ret, resOf, extU, kq_eq, thenQ_normal, thenQ_exit, thenQ_ret]
    exact ⟨kl, hr1, hk1.but2, .inl rfl⟩
  | some r =>
    obtain ⟨i, x⟩ := r
    obtain ⟨hf, hx⟩ := files_got hg hT
    obtain ⟨rfl, hi, htx, hne⟩ := gotT_some hg
    obtain ⟨a, b, c, d⟩ := ref_some hr1 hx
    have hpl := (List.getElem?_eq_some_iff.1 hx).1
    rw [hf]
    have hfs := files_set (n := 0) (y := (x.1, fr + by')) htx (isOpen_of hne) (isOpen_of hne)
    simp only [Nat.zero_add] at hfs
    have hset := ref_set (y := ⟨i, fr + by', x.1⟩) hr1 hx
    have hst := st_fat (W := W) c hx (fr + by')
    have hld := ld_L (W := W) d
    generalize nOpen (T.take i) = p at *
    have n0 : ¬ ((p : Nat) : Int) < 0 := by omega
    by_cases h1 : fr < 0
    · have hs : seekOk fr by' = false := by
        have : ¬ (0 ≤ fr ∧ fr ≤ 533248) := by omega
        simp [seekOk, this]
      simp [Wc_seq, Wc_block, Wc_scope, Wc_skip, Wc_label, Wc_exit, Wc_ret, Wc_loop, Wc_region, Wc_cond, Nx_nil, Nx_seq, Nx_seq_exit, Nx_seq_ret, Nx_block, Nx_block_exit, Nx_block_ret, Rg_nil, Rg_cons, RgE, effA, calleeA, wantedA, enterN, ev, ofV, ofVn, putE, evalN, aBin, aInt_add, aInt_sub, aInt_mul, aInt_quo, aInt_rem, aInt_eql, aInt_neq, aInt_lss, aInt_leq, aInt_gtr, aInt_geq, aExtract, finQ_ret, resOf, extU, kq_eq, thenQ_normal, thenQ_exit, thenQ_ret, n0, h1, hs]
      exact ⟨kl, hr1, hk1.but2, .inl rfl⟩
    · by_cases h2 : 533248 < fr
      · have hs : seekOk fr by' = false := by
          have : ¬ (0 ≤ fr ∧ fr ≤ 533248) := by omega
          simp [seekOk, this]
        simp [Wc_seq, Wc_block, Wc_scope, Wc_skip, Wc_label, Wc_exit, Wc_ret, Wc_loop, Wc_region, Wc_cond, Nx_nil, Nx_seq, Nx_seq_exit, Nx_seq_ret, Nx_block, Nx_block_exit, Nx_block_ret, Rg_nil, Rg_cons, RgE, effA, calleeA, wantedA, enterN, ev, ofV, ofVn, putE, evalN, aBin, aInt_add, aInt_sub, aInt_mul, aInt_quo, aInt_rem, aInt_eql, aInt_neq, aInt_lss, aInt_leq, aInt_gtr, aInt_geq, aExtract, finQ_ret, resOf, extU, kq_eq, thenQ_normal, thenQ_exit, thenQ_ret, n0, h1, h2, hs]
        exact ⟨kl, hr1, hk1.but2, .inl rfl⟩
      · have w1 : IntKind.i64.wrap (0 - fr) = - fr := by rw [wrap64 (by omega) (by omega)]; omega
        have w1' : IntKind.i64.wrap (- fr) = - fr := wrap64 (by omega) (by omega)
        have w2 : IntKind.i64.wrap (533248 - fr) = 533248 - fr := wrap64 (by omega) (by omega)
        by_cases h3 : by' < - fr
        · have hs : seekOk fr by' = false := by
            have : ¬ (0 ≤ fr + by' ∧ fr + by' ≤ 533248) := by omega
            simp [seekOk, this]
          simp [Wc_seq, Wc_block, Wc_scope, Wc_skip, Wc_label, Wc_exit, Wc_ret, Wc_loop, Wc_region, Wc_cond, Nx_nil, Nx_seq, Nx_seq_exit, Nx_seq_ret, Nx_block, Nx_block_exit, Nx_block_ret, Rg_nil, Rg_cons, RgE, effA, calleeA, wantedA, enterN, ev, ofV, ofVn, putE, evalN, aBin, aInt_add, aInt_sub, aInt_mul, aInt_quo, aInt_rem, aInt_eql, aInt_neq, aInt_lss, aInt_leq, aInt_gtr, aInt_geq, aExtract, finQ_ret, resOf, extU, kq_eq, thenQ_normal, thenQ_exit, thenQ_ret, n0, h1, h2, w1, w1', h3, hs]
          exact ⟨kl, hr1, hk1.but2, .inl rfl⟩
        · by_cases h4 : 533248 - fr < by'
          · have hs : seekOk fr by' = false := by
              have : ¬ (0 ≤ fr + by' ∧ fr + by' ≤ 533248) := by omega
              simp [seekOk, this]
            simp [Wc_seq, Wc_block, Wc_scope, Wc_skip, Wc_label, Wc_exit, Wc_ret, Wc_loop, Wc_region, Wc_cond, Nx_nil, Nx_seq, Nx_seq_exit, Nx_seq_ret, Nx_block, Nx_block_exit, Nx_block_ret, Rg_nil, Rg_cons, RgE, effA, calleeA, wantedA, enterN, ev, ofV, ofVn, putE, evalN, aBin, aInt_add, aInt_sub, aInt_mul, aInt_quo, aInt_rem, aInt_eql, aInt_neq, aInt_lss, aInt_leq, aInt_gtr, aInt_geq, aExtract, finQ_ret, resOf, extU, kq_eq, thenQ_normal, thenQ_exit, thenQ_ret, n0, h1, h2, w1, w1', w2, h3, h4, hs]
            exact ⟨kl, hr1, hk1.but2, .inl rfl⟩
          · have w3 : IntKind.i64.wrap (fr + by') = fr + by' := wrap64 (by omega) (by omega)
            have hs : seekOk fr by' = true := by
              have e1 : 0 ≤ fr ∧ fr ≤ 533248 := by omega
              have e2 : -533248 ≤ by' ∧ by' ≤ 533248 := by omega
              have e3 : 0 ≤ fr + by' ∧ fr + by' ≤ 533248 := by omega
              simp [seekOk, e1, e2, e3]
            simp [Wc_seq, Wc_block, Wc_scope, Wc_skip, Wc_label, Wc_exit, Wc_ret, Wc_loop, Wc_region, Wc_cond, Nx_nil, Nx_seq, Nx_seq_exit, Nx_seq_ret, Nx_block, Nx_block_exit, Nx_block_ret, Rg_nil, Rg_cons, RgE, effA, calleeA, wantedA, enterN, ev, ofV, ofVn, putE, evalN, aBin, aInt_add, aInt_sub, aInt_mul, aInt_quo, aInt_rem, aInt_eql, aInt_neq, aInt_lss, aInt_leq, aInt_gtr, aInt_geq, aExtract, finQ_ret, resOf, extU, kq_eq, thenQ_normal, thenQ_exit, thenQ_ret, n0, h1, h2, w1, w1', w2, h3, h4, w3, hs, aNilCheck, fa_L, hld, idx_f hpl, fa_f1, hst]
            refine ⟨kl, ?_, ⟨by simpa using hk1.1, fun j hj hj1 hj2 => by rw [AH.get_set, if_neg hj2]; exact hk1.2 j hj⟩, .inl rfl⟩
            unfold files
            rw [hfs]
            exact hset

set_option maxHeartbeats 8000000 in
set_option maxRecDepth 20000 in
theorem refMoved_ret (W : World) (h : AH) (kw kl : Nat) (T : List Ent) (hT : T.length = 16) (hat : ∀ (i : Nat) (x : Ent), T[i]? = some x → 0 ≤ x.2 ∧ x.2 ≤ 533248) (hr : RefIs h kw kl (files T)) (fd n : Int) : RetR (CC W) 29 [.ptr (some (.new kw 0)), .int .i64 fd, .int .i64 n] h kw kl (MovedQ T fd n) := by
  refine acall_fin (cc_ok W) (fn29 W) (by simp only [Tryd.f29]; rfl) rfl rfl ?_
  have hq : MovedQ T fd n = fun v T' => match gotT T fd with
    | some (i, x) => if 0 ≤ n ∧ n ≤ 533248 - x.2 then v = .int .i64 0 ∧ T' = T.set i (x.1, x.2 + n) else v = .int .i64 309 ∧ T' = T
    | none => v = .int .i64 311 ∧ T' = T := rfl
  rw [hq]
  have hfl : (files T).length < 1099511627776 := by
    unfold files; rw [files_length]
    have : nOpen T ≤ T.length := List.countP_le_length
    omega
  simp [Wc_seq, Wc_block, Wc_scope, Wc_skip, Wc_label, Wc_exit, Wc_ret, Wc_loop, Wc_region, Wc_cond, Nx_nil, Nx_seq, Nx_seq_exit, Nx_seq_ret, Nx_block, Nx_block_exit, Nx_block_ret, Rg_nil, Rg_cons, RgE, effA, calleeA, wantedA, enterN, ev, ofV, ofVn, putE, evalN, aBin, aInt_add, aInt_sub, aInt_mul, aInt_quo, aInt_rem, aInt_eql, aInt_neq, aInt_lss, aInt_leq, aInt_gtr, aInt_geq, aExtract, finQ_ret, resOf, extU, kq_eq, thenQ_normal, thenQ_exit, thenQ_ret]
  refine callK_RetQ (by simp [fn19]) (find_ret W kw kl (files T) h hr hfl fd) fun v h1 hk1 hv => ?_
  subst hv
  have hr1 := hr.keeps hk1
  cases hg : gotT T fd with
  | none =>
    rw [files_miss hg hT]
    simp [Wc_seq, Wc_block, Wc_scope, Wc_skip, Wc_label, Wc_exit, Wc_ret, Wc_loop, Wc_region, Wc_cond, Nx_nil, Nx_seq, Nx_seq_exit, Nx_seq_ret, Nx_block, Nx_block_exit, Nx_block_ret, Rg_nil, Rg_cons, RgE, effA, calleeA, wantedA, enterN, ev, ofV, ofVn, putE, evalN, aBin, aInt_add, aInt_sub, aInt_mul, aInt_quo, aInt_rem, aInt_eql, aInt_neq, aInt_lss, aInt_leq, aInt_gtr, aInt_geq, aExtract, finQ_ret, resOf, extU, kq_eq, thenQ_normal, thenQ_exit, thenQ_ret]
    exact ⟨kl, hr1, hk1.but2, .inl rfl⟩
  | some r =>
    obtain ⟨i, x⟩ := r
    obtain ⟨hf, hx⟩ := files_got hg hT
    obtain ⟨rfl, hi, htx, hne⟩ := gotT_some hg
    obtain ⟨a, b, c, d⟩ := ref_some hr1 hx
    have hb := hat i x htx
    have hpl := (List.getElem?_eq_some_iff.1 hx).1
    rw [hf]
    have hfs := files_set (n := 0) (y := (x.1, x.2 + n)) htx (isOpen_of hne) (isOpen_of hne)
    simp only [Nat.zero_add] at hfs
    have hset := ref_set (y := ⟨i, x.2 + n, x.1⟩) hr1 hx
    have hst := st_fat (W := W) c hx (x.2 + n)
    have hat1 := ld_fat (W := W) c hx
    have hld := ld_L (W := W) d
    simp only at hat1
    generalize nOpen (T.take i) = p at *
    have n0 : ¬ ((p : Nat) : Int) < 0 := by omega
    by_cases h1 : n < 0
    · have hc : ¬ (0 ≤ n ∧ n ≤ 533248 - x.2) := by omega
      simp only [if_neg hc]
      simp [Wc_seq, Wc_block, Wc_scope, Wc_skip, Wc_label, Wc_exit, Wc_ret, Wc_loop, Wc_region, Wc_cond, Nx_nil, Nx_seq, Nx_seq_exit, Nx_seq_ret, Nx_block, Nx_block_exit, Nx_block_ret, Rg_nil, Rg_cons, RgE, effA, calleeA, wantedA, enterN, ev, ofV, ofVn, putE, evalN, aBin, aInt_add, aInt_sub, aInt_mul, aInt_quo, aInt_rem, aInt_eql, aInt_neq, aInt_lss, aInt_leq, aInt_gtr, aInt_geq, aExtract, finQ_ret, resOf, extU, kq_eq, thenQ_normal, thenQ_exit, thenQ_ret, n0, h1]
      exact ⟨kl, hr1, hk1.but2, .inl rfl⟩
    · have hw : IntKind.i64.wrap (533248 - x.2) = 533248 - x.2 := wrap64 (by omega) (by omega)
      by_cases h2 : 533248 - x.2 < n
      · have hc : ¬ (0 ≤ n ∧ n ≤ 533248 - x.2) := by omega
        simp only [if_neg hc]
        simp [Wc_seq, Wc_block, Wc_scope, Wc_skip, Wc_label, Wc_exit, Wc_ret, Wc_loop, Wc_region, Wc_cond, Nx_nil, Nx_seq, Nx_seq_exit, Nx_seq_ret, Nx_block, Nx_block_exit, Nx_block_ret, Rg_nil, Rg_cons, RgE, effA, calleeA, wantedA, enterN, ev, ofV, ofVn, putE, evalN, aBin, aInt_add, aInt_sub, aInt_mul, aInt_quo, aInt_rem, aInt_eql, aInt_neq, aInt_lss, aInt_leq, aInt_gtr, aInt_geq, aExtract, finQ_ret, resOf, extU, kq_eq, thenQ_normal, thenQ_exit, thenQ_ret, n0, h1, aNilCheck, fa_L, hld, idx_f hpl, fa_f1, hat1, hw, h2]
        exact ⟨kl, hr1, hk1.but2, .inl rfl⟩
      · have hc : 0 ≤ n ∧ n ≤ 533248 - x.2 := by omega
        have hw2 : IntKind.i64.wrap (x.2 + n) = x.2 + n := wrap64 (by omega) (by omega)
        simp only [if_pos hc]
        simp [Wc_seq, Wc_block, Wc_scope, Wc_skip, Wc_label, Wc_exit, Wc_ret, Wc_loop, Wc_region, Wc_cond, Nx_nil, Nx_seq, Nx_seq_exit, Nx_seq_ret, Nx_block, Nx_block_exit, Nx_block_ret, Rg_nil, Rg_cons, RgE, effA, calleeA, wantedA, enterN, ev, ofV, ofVn, putE, evalN, aBin, aInt_add, aInt_sub, aInt_mul, aInt_quo, aInt_rem, aInt_eql, aInt_neq, aInt_lss, aInt_leq, aInt_gtr, aInt_geq, aExtract, finQ_ret, resOf, extU, kq_eq, thenQ_normal, thenQ_exit, thenQ_ret, n0, h1, aNilCheck, fa_L, hld, idx_f hpl, fa_f1, hat1, hw, h2]
        refine draw1 (cc_ok W) [0, 1, 2, 3, 4, 5, 6, 7, 8, 9, 10, 11, 12, 13, 14, 15, 16, 17] (by kernel_rfl) (by kernel_rfl) (by kernel_rfl) rfl ?_
        simp [Wc_seq, Wc_block, Wc_scope, Wc_skip, Wc_label, Wc_exit, Wc_ret, Wc_loop, Wc_region, Wc_cond, Nx_nil, Nx_seq, Nx_seq_exit, Nx_seq_ret, Nx_block, Nx_block_exit, Nx_block_ret, Rg_nil, Rg_cons, RgE, effA, calleeA, wantedA, enterN, ev, ofV, ofVn, putE, evalN, aBin, aInt_add, aInt_sub, aInt_mul, aInt_quo, aInt_rem, aInt_eql, aInt_neq, aInt_lss, aInt_leq, aInt_gtr, aInt_geq, aExtract, finQ_ret, resOf, extU, kq_eq, thenQ_normal, thenQ_exit, thenQ_ret, aNilCheck, fa_L, hld, idx_f hpl, fa_f1, hat1, hw2, hst]
        refine ⟨kl, ?_, ⟨by simpa using hk1.1, fun j hj hj1 hj2 => by rw [AH.get_set, if_neg hj2]; exact hk1.2 j hj⟩, .inl rfl⟩
        unfold files
        rw [hfs]
        exact hset

def refOpR (T : List Ent) (fd n : Int) (write : Bool) (d : List UInt8) : AV × Int := if write = true then writeR T fd d else nextR T fd n

set_option maxHeartbeats 8000000 in
set_option maxRecDepth 20000 in
theorem refOp_ret (W : World) (h : AH) (kw kl : Nat) (T : List Ent) (hT : T.length = 16) (hr : RefIs h kw kl (files T)) (fd n : Int) (write : Bool) (dd : List UInt8) :
    RetQ (CC W) 28 [.ptr (some (.new kw 0)), .int .i64 fd, .int .i64 n, .bool write, .str dd] h fun w _ => w = .tup [(refOpR T fd n write dd).1, .int .i64 (refOpR T fd n write dd).2] := by
  refine acall_fin (cc_ok W) (fn28 W) (by simp only [Tryd.f28]; rfl) rfl rfl ?_
  have hfl : (files T).length < 1099511627776 := by
    unfold files; rw [files_length]
    have : nOpen T ≤ T.length := List.countP_le_length
    omega
  simp [Wc_seq, Wc_block, Wc_scope, Wc_skip, Wc_label, Wc_exit, Wc_ret, Wc_loop, Wc_region, Wc_cond, Nx_nil, Nx_seq, Nx_seq_exit, Nx_seq_ret, Nx_block, Nx_block_exit, Nx_block_ret, Rg_nil, Rg_cons, RgE, effA, calleeA, wantedA, enterN, ev, ofV, ofVn, putE, evalN, aBin, aInt_add, aInt_sub, aInt_mul, aInt_quo, aInt_rem, aInt_eql, aInt_neq, aInt_lss, aInt_leq, aInt_gtr, aInt_geq, aExtract, finQ_ret, resOf, extU, kq_eq, thenQ_normal, thenQ_exit, thenQ_ret, alloc_op]
  have hk0 := Keeps.push h (.cells [.int .i64 0, .int .i64 0, .int .i64 0, .str [], .str [], .str []] 41)
  have hg0 : (h.push (.cells [.int .i64 0, .int .i64 0, .int .i64 0, .str [], .str [], .str []] 41)).get h.next = some (.cells [.int .i64 0, .int .i64 0, .int .i64 0, .str [], .str [], .str []] 41) := by simp
  have hn0 : h.next < (h.push (.cells [.int .i64 0, .int .i64 0, .int .i64 0, .str [], .str [], .str []] 41)).next := by simp
  generalize h.push (.cells [.int .i64 0, .int .i64 0, .int .i64 0, .str [], .str [], .str []] 41) = h0 at hk0 hg0 hn0 ⊢
  refine callK_RetQ (by simp [fn19]) (find_ret W kw kl (files T) h0 (hr.keeps hk0) hfl fd) fun v h1 hk1 hv => ?_
  subst hv
  have hr1 := (hr.keeps hk0).keeps hk1
  have hg1 : h1.get h.next = some (.cells [.int .i64 0, .int .i64 0, .int .i64 0, .str [], .str [], .str []] 41) := (hk1.2 _ hn0).trans hg0
  have hs : ∀ (a b c : Int) (p d : List UInt8), aStoreOp (CC W) h1 41 (.ptr (some (.new h.next 0))) (opV a b c p d) = some (h1.set h.next (.cells [.int .i64 a, .int .i64 b, .int .i64 c, .str p, .str [], .str d] 41)) := fun a b c p d => store_op hg1
  have hl : ∀ (a b c : Int) (p d : List UInt8), aLoad (CC W) (h1.set h.next (.cells [.int .i64 a, .int .i64 b, .int .i64 c, .str p, .str [], .str d] 41)) 41 (.new h.next 0) = some (opV a b c p d) := fun a b c p d => load_op (t := 41) (by simp)
  have hkk : ∀ o, Keeps h (h1.set h.next o) := fun o => (hk0.trans hk1).set (Nat.le_refl _) o
  cases hg : gotT T fd with
  | none =>
    have hres : refOpR T fd n write dd = (zeroOp, 311) := by simp [refOpR, writeR, nextR, hg]
    rw [hres, files_miss hg hT]
    simp [Wc_seq, Wc_block, Wc_scope, Wc_skip, Wc_label, Wc_exit, Wc_ret, Wc_loop, Wc_region, Wc_cond, Nx_nil, Nx_seq, Nx_seq_exit, Nx_seq_ret, Nx_block, Nx_block_exit, Nx_block_ret, Rg_nil, Rg_cons, RgE, effA, calleeA, wantedA, enterN, ev, ofV, ofVn, putE, evalN, aBin, aInt_add, aInt_sub, aInt_mul, aInt_quo, aInt_rem, aInt_eql, aInt_neq, aInt_lss, aInt_leq, aInt_gtr, aInt_geq, aExtract, finQ_ret, resOf, extU, kq_eq, thenQ_normal, thenQ_exit, thenQ_ret, build_zero, zeroOp, hs, hl, hkk]
  | some r =>
    obtain ⟨i, x⟩ := r
    obtain ⟨hf, hx⟩ := files_got hg hT
    obtain ⟨_, hi, htx, hne⟩ := gotT_some hg
    obtain ⟨a, b, c, d⟩ := ref_some hr1 hx
    have hpl := (List.getElem?_eq_some_iff.1 hx).1
    have hat1 := ld_fat (W := W) c hx
    have hpa1 := ld_fpath (W := W) c hx
    have hld := ld_L (W := W) d
    simp only at hat1 hpa1
    rw [hf]
    generalize nOpen (T.take i) = p at *
    have n0 : ¬ ((p : Nat) : Int) < 0 := by omega
    cases write with
    | true =>
      by_cases h2 : dd.length ≤ 1024
      · have h3 : ¬ (1024 : Int) < (dd.length : Int) := by omega
        have h4 : ¬ 1024 < dd.length := by omega
        have hres : refOpR T fd n true dd = (opV 3 x.2 0 x.1 dd, 0) := by simp [refOpR, writeR, hg, h2]
        rw [hres]
        simp [Wc_seq, Wc_block, Wc_scope, Wc_skip, Wc_label, Wc_exit, Wc_ret, Wc_loop, Wc_region, Wc_cond, Nx_nil, Nx_seq, Nx_seq_exit, Nx_seq_ret, Nx_block, Nx_block_exit, Nx_block_ret, Rg_nil, Rg_cons, RgE, effA, calleeA, wantedA, enterN, ev, ofV, ofVn, putE, evalN, aBin, aInt_add, aInt_sub, aInt_mul, aInt_quo, aInt_rem, aInt_eql, aInt_neq, aInt_lss, aInt_leq, aInt_gtr, aInt_geq, aExtract, finQ_ret, resOf, extU, kq_eq, thenQ_normal, thenQ_exit, thenQ_ret, n0, aLen, kind9, h3, h4]
        refine draw1 (cc_ok W) [0, 1, 2, 3, 4, 5, 6, 7, 8, 9, 10, 11, 12, 13, 14, 15, 16, 17, 18, 19] (by kernel_rfl) (by kernel_rfl) (by kernel_rfl) rfl ?_
        simp [Wc_seq, Wc_block, Wc_scope, Wc_skip, Wc_label, Wc_exit, Wc_ret, Wc_loop, Wc_region, Wc_cond, Nx_nil, Nx_seq, Nx_seq_exit, Nx_seq_ret, Nx_block, Nx_block_exit, Nx_block_ret, Rg_nil, Rg_cons, RgE, effA, calleeA, wantedA, enterN, ev, ofV, ofVn, putE, evalN, aBin, aInt_add, aInt_sub, aInt_mul, aInt_quo, aInt_rem, aInt_eql, aInt_neq, aInt_lss, aInt_leq, aInt_gtr, aInt_geq, aExtract, finQ_ret, resOf, extU, kq_eq, thenQ_normal, thenQ_exit, thenQ_ret, aNilCheck, fa_L, hld, idx_f hpl, fa_f1, fa_f2, hat1, hpa1, build_write, hs, hl, hkk]
      · have h3 : (1024 : Int) < (dd.length : Int) := by omega
        have h4 : 1024 < dd.length := by omega
        have hres : refOpR T fd n true dd = (zeroOp, 309) := by simp [refOpR, writeR, hg, h2]
        rw [hres]
        simp [Wc_seq, Wc_block, Wc_scope, Wc_skip, Wc_label, Wc_exit, Wc_ret, Wc_loop, Wc_region, Wc_cond, Nx_nil, Nx_seq, Nx_seq_exit, Nx_seq_ret, Nx_block, Nx_block_exit, Nx_block_ret, Rg_nil, Rg_cons, RgE, effA, calleeA, wantedA, enterN, ev, ofV, ofVn, putE, evalN, aBin, aInt_add, aInt_sub, aInt_mul, aInt_quo, aInt_rem, aInt_eql, aInt_neq, aInt_lss, aInt_leq, aInt_gtr, aInt_geq, aExtract, finQ_ret, resOf, extU, kq_eq, thenQ_normal, thenQ_exit, thenQ_ret, n0, aLen, kind9, h3, h4, build_zero, zeroOp, hs, hl, hkk]
    | false =>
      by_cases h1n : n < 0
      · have hc : ¬ (0 ≤ n ∧ n ≤ 1024) := by omega
        have hres : refOpR T fd n false dd = (zeroOp, 309) := by simp [refOpR, nextR, hg, hc]
        rw [hres]
        simp [Wc_seq, Wc_block, Wc_scope, Wc_skip, Wc_label, Wc_exit, Wc_ret, Wc_loop, Wc_region, Wc_cond, Nx_nil, Nx_seq, Nx_seq_exit, Nx_seq_ret, Nx_block, Nx_block_exit, Nx_block_ret, Rg_nil, Rg_cons, RgE, effA, calleeA, wantedA, enterN, ev, ofV, ofVn, putE, evalN, aBin, aInt_add, aInt_sub, aInt_mul, aInt_quo, aInt_rem, aInt_eql, aInt_neq, aInt_lss, aInt_leq, aInt_gtr, aInt_geq, aExtract, finQ_ret, resOf, extU, kq_eq, thenQ_normal, thenQ_exit, thenQ_ret, n0, h1n, build_zero, zeroOp, hs, hl, hkk]
      · by_cases h2n : 1024 < n
        · have hc : ¬ (0 ≤ n ∧ n ≤ 1024) := by omega
          have hres : refOpR T fd n false dd = (zeroOp, 309) := by simp [refOpR, nextR, hg, hc]
          rw [hres]
          simp [Wc_seq, Wc_block, Wc_scope, Wc_skip, Wc_label, Wc_exit, Wc_ret, Wc_loop, Wc_region, Wc_cond, Nx_nil, Nx_seq, Nx_seq_exit, Nx_seq_ret, Nx_block, Nx_block_exit, Nx_block_ret, Rg_nil, Rg_cons, RgE, effA, calleeA, wantedA, enterN, ev, ofV, ofVn, putE, evalN, aBin, aInt_add, aInt_sub, aInt_mul, aInt_quo, aInt_rem, aInt_eql, aInt_neq, aInt_lss, aInt_leq, aInt_gtr, aInt_geq, aExtract, finQ_ret, resOf, extU, kq_eq, thenQ_normal, thenQ_exit, thenQ_ret, n0, h1n, h2n, build_zero, zeroOp, hs, hl, hkk]
        · have hc : 0 ≤ n ∧ n ≤ 1024 := by omega
          have hres : refOpR T fd n false dd = (opV 5 x.2 n x.1 [], 0) := by simp [refOpR, nextR, hg, hc]
          rw [hres]
          simp [Wc_seq, Wc_block, Wc_scope, Wc_skip, Wc_label, Wc_exit, Wc_ret, Wc_loop, Wc_region, Wc_cond, Nx_nil, Nx_seq, Nx_seq_exit, Nx_seq_ret, Nx_block, Nx_block_exit, Nx_block_ret, Rg_nil, Rg_cons, RgE, effA, calleeA, wantedA, enterN, ev, ofV, ofVn, putE, evalN, aBin, aInt_add, aInt_sub, aInt_mul, aInt_quo, aInt_rem, aInt_eql, aInt_neq, aInt_lss, aInt_leq, aInt_gtr, aInt_geq, aExtract, finQ_ret, resOf, extU, kq_eq, thenQ_normal, thenQ_exit, thenQ_ret, n0, h1n, h2n]
          refine draw1 (cc_ok W) [0, 1, 2, 3, 4, 5, 6, 7, 8, 9, 10, 11, 12, 13, 14, 15, 16, 17, 18, 19] (by kernel_rfl) (by kernel_rfl) (by kernel_rfl) rfl ?_
          simp [Wc_seq, Wc_block, Wc_scope, Wc_skip, Wc_label, Wc_exit, Wc_ret, Wc_loop, Wc_region, Wc_cond, Nx_nil, Nx_seq, Nx_seq_exit, Nx_seq_ret, Nx_block, Nx_block_exit, Nx_block_ret, Rg_nil, Rg_cons, RgE, effA, calleeA, wantedA, enterN, ev, ofV, ofVn, putE, evalN, aBin, aInt_add, aInt_sub, aInt_mul, aInt_quo, aInt_rem, aInt_eql, aInt_neq, aInt_lss, aInt_leq, aInt_gtr, aInt_geq, aExtract, finQ_ret, resOf, extU, kq_eq, thenQ_normal, thenQ_exit, thenQ_ret, aNilCheck, fa_L, hld, idx_f hpl, fa_f1, fa_f2, hat1, hpa1, build_read, hs, hl, hkk]
end Go.Proofs.YteedadelgpagfaaDoor.Ax
