/- The table of descriptors in memory. -/
import Derived.Test.YteedadelgpagfaaDoorRefSplit
set_option linter.unusedVariables false
set_option linter.unusedSimpArgs false
namespace Go.Proofs.YteedadelgpagfaaDoor.Ax
open Go.RowKit

abbrev Ent := List UInt8 × Int

def tcells (T : List Ent) : List AV := T.flatMap fun x => [.str x.1, .int .i64 x.2]

theorem tcells_length (T : List Ent) : (tcells T).length = 2 * T.length := by
  induction T with
  | nil => rfl
  | cons x T ih =>
    have e : tcells (x :: T) = [.str x.1, .int .i64 x.2] ++ tcells T := rfl
    rw [e, List.length_append, ih]; simp; omega

theorem tcells_get {T : List Ent} {i : Nat} {x : Ent} (h : T[i]? = some x) : (tcells T)[2 * i]? = some (.str x.1) ∧ (tcells T)[2 * i + 1]? = some (.int .i64 x.2) := by
  induction T generalizing i with
  | nil => simp at h
  | cons y T ih =>
    have e : tcells (y :: T) = .str y.1 :: .int .i64 y.2 :: tcells T := rfl
    cases i with
    | zero => simp at h; subst h; rw [e]; simp
    | succ i =>
      have := ih (i := i) (by simpa using h)
      rw [e, show 2 * (i + 1) = 2 * i + 1 + 1 by omega]
      simpa using this

theorem tcells_put {T : List Ent} {i : Nat} {x : Ent} (y : Ent) (h : T[i]? = some x) : overlay (tcells T) [.str y.1, .int .i64 y.2] (2 * i) = tcells (T.set i y) := by
  induction T generalizing i with
  | nil => simp at h
  | cons z T ih =>
    have e : tcells (z :: T) = .str z.1 :: .int .i64 z.2 :: tcells T := rfl
    cases i with
    | zero => rw [e]; simp [overlay, tcells]
    | succ i =>
      have := ih (i := i) (by simpa using h)
      rw [List.set_cons_succ, show tcells (z :: T.set i y) = .str z.1 :: .int .i64 z.2 :: tcells (T.set i y) from rfl, ← this, e, show 2 * (i + 1) = 2 * i + 1 + 1 by omega]
      simp only [overlay, List.length_cons, List.length_nil, List.take_succ_cons, List.cons_append]
      congr 3

theorem tcells_putat {T : List Ent} {i : Nat} {x : Ent} (a : Int) (h : T[i]? = some x) : overlay (tcells T) [.int .i64 a] (2 * i + 1) = tcells (T.set i (x.1, a)) := by
  rw [← tcells_put (x.1, a) h]
  obtain ⟨h0, h1⟩ := tcells_get h
  obtain ⟨hl, _⟩ := List.getElem?_eq_some_iff.1 h
  have hlen := tcells_length T
  simp only [overlay]
  rw [List.take_add_one, h0]
  simp

/-- The table lies in own block k. -/
def TabIs (h : AH) (k : Nat) (T : List Ent) : Prop := k < h.next ∧ h.get k = some (.cells (tcells T) 62) ∧ T.length = 16 ∧ ∀ (i : Nat) (x : Ent), T[i]? = some x → 0 ≤ x.2 ∧ x.2 ≤ 533248

/-- All own blocks but one are kept. -/
def KeepsBut (k : Nat) (h h' : AH) : Prop := h.next ≤ h'.next ∧ ∀ j, j < h.next → j ≠ k → h'.get j = h.get j
theorem KeepsBut.refl {k : Nat} (h : AH) : KeepsBut k h h := ⟨Nat.le_refl _, fun _ _ _ => rfl⟩
theorem KeepsBut.trans {k : Nat} {a b c : AH} (h1 : KeepsBut k a b) (h2 : KeepsBut k b c) : KeepsBut k a c := ⟨Nat.le_trans h1.1 h2.1, fun j hj hn => (h2.2 j (Nat.lt_of_lt_of_le hj h1.1) hn).trans (h1.2 j hj hn)⟩
theorem Keeps.but {k : Nat} {h h' : AH} (hk : Keeps h h') : KeepsBut k h h' := ⟨hk.1, fun j hj _ => hk.2 j hj⟩
theorem KeepsBut.set {k : Nat} (h : AH) (o : AObj) : KeepsBut k h (h.set k o) := ⟨by simp, fun j hj hn => by rw [AH.get_set, if_neg hn]⟩
theorem TabIs.keeps {h h' : AH} {k : Nat} {T : List Ent} (ht : TabIs h k T) (hk : Keeps h h') : TabIs h' k T := ⟨Nat.lt_of_lt_of_le ht.1 hk.1, (hk.2 k ht.1).trans ht.2.1, ht.2.2⟩

section
variable {W : World} {h : AH} {k i : Nat} {T : List Ent} {x : Ent}

theorem fa_l : aFieldAddr (CC W) 62 (.ptr (some (.new k 0))) 0 = some (.ptr (some (.new k 0))) := by
  simp only [aFieldAddr, aOff, kind62]
  rfl
theorem ia_l (hi : i < 16) : aIndexAddr (CC W) 60 (.ptr (some (.new k 0))) (.int .i64 (i : Int)) = some (.ptr (some (.new k (2 * i)))) := by
  simp only [aIndexAddr, kind60, size59]
  rw [if_pos (by omega)]
  simp [AA.add, Nat.mul_comm]
theorem fa_path {o : Nat} : aFieldAddr (CC W) 59 (.ptr (some (.new k o))) 0 = some (.ptr (some (.new k o))) := by
  simp only [aFieldAddr, aOff, kind59]
  rfl
theorem fa_at {o : Nat} : aFieldAddr (CC W) 59 (.ptr (some (.new k o))) 1 = some (.ptr (some (.new k (o + 1)))) := by
  simp only [aFieldAddr, aOff, kind59]
  rfl
theorem ld_path (ht : TabIs h k T) (hx : T[i]? = some x) : aLoad (CC W) h 9 (.new k (2 * i)) = some (.str x.1) := by
  refine aLoad_str ?_
  simp only [aCell, ht.2.1]
  exact (tcells_get hx).1
theorem ld_at (ht : TabIs h k T) (hx : T[i]? = some x) : aLoad (CC W) h 3 (.new k (2 * i + 1)) = some (.int .i64 x.2) := by
  have : aLoad (CC W) h 3 (.new k (2 * i + 1)) = aCell (CC W) h (.new k (2 * i + 1)) := by unfold aLoad; rw [ty3]; rfl
  rw [this]
  simp only [aCell, ht.2.1]
  exact (tcells_get hx).2
theorem st_open (ht : TabIs h k T) (hx : T[i]? = some x) (y : Ent) : aStoreOp (CC W) h 59 (.ptr (some (.new k (2 * i)))) (.agg [.str y.1, .int .i64 y.2]) = some (h.set k (.cells (tcells (T.set i y)) 62)) := by
  have hi := (List.getElem?_eq_some_iff.1 hx).1
  have hl := tcells_length T
  simp only [aStoreOp, aCellsOf, size59, aStore, ht.2.1]
  rw [if_pos (by rfl), if_pos ⟨by simp; omega, by rfl⟩, tcells_put y hx]
theorem st_at (ht : TabIs h k T) (hx : T[i]? = some x) (a : Int) : aStoreOp (CC W) h 3 (.ptr (some (.new k (2 * i + 1)))) (.int .i64 a) = some (h.set k (.cells (tcells (T.set i (x.1, a))) 62)) := by
  have hi := (List.getElem?_eq_some_iff.1 hx).1
  have hl := tcells_length T
  simp only [aStoreOp, aCellsOf, size3, aStore, ht.2.1]
  rw [if_pos (by rfl), if_pos ⟨by simp; omega, by rfl⟩, tcells_putat a hx]

theorem TabIs.put (ht : TabIs h k T) (y : Ent) (h0 : 0 ≤ y.2) (h1 : y.2 ≤ 533248) : TabIs (h.set k (.cells (tcells (T.set i y)) 62)) k (T.set i y) := by
  refine ⟨by simpa using ht.1, by simp, by simpa using ht.2.2.1, fun j z hz => ?_⟩
  rw [List.getElem?_set] at hz
  split at hz
  · split at hz
    · simp at hz; subst hz; exact ⟨h0, h1⟩
    · simp at hz
  · exact ht.2.2.2 j z hz
end

/-- A descriptor that is open. -/
def gotT (T : List Ent) (fd : Int) : Option (Nat × Ent) := if 0 ≤ fd ∧ fd < 16 then match T[fd.toNat]? with | some x => if x.1 = [] then none else some (fd.toNat, x) | none => none else none

theorem gotT_some {T : List Ent} {fd : Int} {i : Nat} {x : Ent} (h : gotT T fd = some (i, x)) : fd = i ∧ i < 16 ∧ T[i]? = some x ∧ x.1 ≠ [] := by
  unfold gotT at h
  split at h
  · rename_i hr
    split at h
    · rename_i y hy
      split at h
      · simp at h
      · rename_i hne
        simp at h
        obtain ⟨rfl, rfl⟩ := h
        exact ⟨by omega, by omega, hy, hne⟩
    · simp at h
  · simp at h

def gotV (k : Nat) : Option (Nat × Ent) → AV
  | some (i, _) => .tup [.ptr (some (.new k (2 * i))), .int .i64 0]
  | none => .tup [.ptr none, .int .i64 311]

theorem ptr_eq_nil {W : World} {a : AA} {o : Operand} : aBin (CC W) .eql 23 o (.const (.pointer none)) (.ptr (some a)) (.ptr none) = some (.bool false) := by
  simp only [aBin, aEq, kind23, kindEq1, aEq1, if_true, Option.map]
theorem ptr_ne_nil {W : World} {a : AA} {o : Operand} : aBin (CC W) .neq 23 o (.const (.pointer none)) (.ptr (some a)) (.ptr none) = some (.bool true) := by
  simp only [aBin, aEq, kind23, kindEq1, aEq1, if_true, Option.map, Bool.not_false]

set_option maxHeartbeats 4000000 in
set_option maxRecDepth 20000 in
theorem get_ret (W : World) (h : AH) (k : Nat) (T : List Ent) (ht : TabIs h k T) (fd : Int) : RetH (CC W) 23 [.ptr (some (.new k 0)), .int .i64 fd] h (gotV k (gotT T fd)) := by
  refine acall_fin (cc_ok W) (fn23 W) (by simp only [Tryd.f23]; rfl) rfl rfl ?_
  by_cases h0 : fd < 0
  · have hg : gotT T fd = none := by unfold gotT; rw [if_neg (by omega)]
    rw [hg]
    simp [Wc_seq, Wc_block, Wc_scope, Wc_skip, Wc_label, Wc_exit, Wc_ret, Wc_loop, Wc_region, Wc_cond, Nx_nil, Nx_seq, Nx_seq_exit, Nx_seq_ret, Nx_block, Nx_block_exit, Nx_block_ret, Rg_nil, Rg_cons, RgE, effA, calleeA, wantedA, enterN, ev, ofV, ofVn, putE, evalN, aBin, aInt_add, aInt_sub, aInt_mul, aInt_quo, aInt_rem, aInt_eql, aInt_neq, aInt_lss, aInt_leq, aInt_gtr, aInt_geq, aExtract, finQ_ret, resOf, extU, kq_eq, thenQ_normal, thenQ_exit, thenQ_ret, aEq, kind23, kindEq1, aEq1, h0, gotV]
  · by_cases h1 : 16 ≤ fd
    · have hg : gotT T fd = none := by unfold gotT; rw [if_neg (by omega)]
      rw [hg]
      simp [Wc_seq, Wc_block, Wc_scope, Wc_skip, Wc_label, Wc_exit, Wc_ret, Wc_loop, Wc_region, Wc_cond, Nx_nil, Nx_seq, Nx_seq_exit, Nx_seq_ret, Nx_block, Nx_block_exit, Nx_block_ret, Rg_nil, Rg_cons, RgE, effA, calleeA, wantedA, enterN, ev, ofV, ofVn, putE, evalN, aBin, aInt_add, aInt_sub, aInt_mul, aInt_quo, aInt_rem, aInt_eql, aInt_neq, aInt_lss, aInt_leq, aInt_gtr, aInt_geq, aExtract, finQ_ret, resOf, extU, kq_eq, thenQ_normal, thenQ_exit, thenQ_ret, aEq, kind23, kindEq1, aEq1, h0, h1, gotV]
    · obtain ⟨i, rfl⟩ : ∃ i : Nat, fd = i := ⟨fd.toNat, by omega⟩
      have hi : i < 16 := by omega
      have hx : T[i]? = some (T[i]'(by rw [ht.2.2.1]; exact hi)) := by simp [ht.2.2.1, hi]
      generalize T[i]'(by rw [ht.2.2.1]; exact hi) = x at hx
      have l1 := ld_path (W := W) ht hx
      by_cases he : x.1 = []
      · have hg : gotT T i = none := by unfold gotT; rw [if_pos (by omega)]; simp [hx, he]
        rw [hg]
        have b1 : (x.1 == []) = true := by rw [beq_iff_eq]; exact he
        simp [Wc_seq, Wc_block, Wc_scope, Wc_skip, Wc_label, Wc_exit, Wc_ret, Wc_loop, Wc_region, Wc_cond, Nx_nil, Nx_seq, Nx_seq_exit, Nx_seq_ret, Nx_block, Nx_block_exit, Nx_block_ret, Rg_nil, Rg_cons, RgE, effA, calleeA, wantedA, enterN, ev, ofV, ofVn, putE, evalN, aBin, aInt_add, aInt_sub, aInt_mul, aInt_quo, aInt_rem, aInt_eql, aInt_neq, aInt_lss, aInt_leq, aInt_gtr, aInt_geq, aExtract, finQ_ret, resOf, extU, kq_eq, thenQ_normal, thenQ_exit, thenQ_ret, aEq, kind23, kindEq1, aEq1, h0, h1, aNilCheck, fa_l, ia_l hi, fa_path, l1, aStr, b1, gotV]
      · have hg : gotT T i = some (i, x) := by unfold gotT; rw [if_pos (by omega)]; simp [hx, he]
        rw [hg]
        have b1 : (x.1 == []) = false := by rw [beq_eq_false_iff_ne]; exact he
        simp [Wc_seq, Wc_block, Wc_scope, Wc_skip, Wc_label, Wc_exit, Wc_ret, Wc_loop, Wc_region, Wc_cond, Nx_nil, Nx_seq, Nx_seq_exit, Nx_seq_ret, Nx_block, Nx_block_exit, Nx_block_ret, Rg_nil, Rg_cons, RgE, effA, calleeA, wantedA, enterN, ev, ofV, ofVn, putE, evalN, aBin, aInt_add, aInt_sub, aInt_mul, aInt_quo, aInt_rem, aInt_eql, aInt_neq, aInt_lss, aInt_leq, aInt_gtr, aInt_geq, aExtract, finQ_ret, resOf, extU, kq_eq, thenQ_normal, thenQ_exit, thenQ_ret, aEq, kind23, kindEq1, aEq1, h0, h1, aNilCheck, fa_l, ia_l hi, fa_path, l1, aStr, b1, gotV]

set_option maxRecDepth 20000 in
theorem get_nil (W : World) (fd : Int) : Ret (CC W) 23 [.ptr none, .int .i64 fd] (.tup [.ptr none, .int .i64 311]) := by
  intro h
  refine acall_fin (cc_ok W) (fn23 W) (by simp only [Tryd.f23]; rfl) rfl rfl ?_
  simp [Wc_seq, Wc_block, Wc_scope, Wc_skip, Wc_label, Wc_exit, Wc_ret, Wc_loop, Wc_region, Wc_cond, Nx_nil, Nx_seq, Nx_seq_exit, Nx_seq_ret, Nx_block, Nx_block_exit, Nx_block_ret, Rg_nil, Rg_cons, RgE, effA, calleeA, wantedA, enterN, ev, ofV, ofVn, putE, evalN, aBin, aInt_add, aInt_sub, aInt_mul, aInt_quo, aInt_rem, aInt_eql, aInt_neq, aInt_lss, aInt_leq, aInt_gtr, aInt_geq, aExtract, finQ_ret, resOf, extU, kq_eq, thenQ_normal, thenQ_exit, thenQ_ret, aEq, kind23, kindEq1, aEq1]

set_option maxRecDepth 20000 in
theorem in_ret (W : World) (n : Int) : Ret (CC W) 24 [.int .i64 n] (.bool (decide (0 ≤ n ∧ n ≤ 533248))) := by
  intro h
  refine acall_fin (cc_ok W) (fn24 W) (by simp only [Tryd.f24]; rfl) rfl rfl ?_
  by_cases h0 : 0 ≤ n
  · simp [Wc_seq, Wc_block, Wc_scope, Wc_skip, Wc_label, Wc_exit, Wc_ret, Wc_loop, Wc_region, Wc_cond, Nx_nil, Nx_seq, Nx_seq_exit, Nx_seq_ret, Nx_block, Nx_block_exit, Nx_block_ret, Rg_nil, Rg_cons, RgE, effA, calleeA, wantedA, enterN, ev, ofV, ofVn, putE, evalN, aBin, aInt_add, aInt_sub, aInt_mul, aInt_quo, aInt_rem, aInt_eql, aInt_neq, aInt_lss, aInt_leq, aInt_gtr, aInt_geq, aExtract, finQ_ret, resOf, extU, kq_eq, thenQ_normal, thenQ_exit, thenQ_ret, h0]
  · simp [Wc_seq, Wc_block, Wc_scope, Wc_skip, Wc_label, Wc_exit, Wc_ret, Wc_loop, Wc_region, Wc_cond, Nx_nil, Nx_seq, Nx_seq_exit, Nx_seq_ret, Nx_block, Nx_block_exit, Nx_block_ret, Rg_nil, Rg_cons, RgE, effA, calleeA, wantedA, enterN, ev, ofV, ofVn, putE, evalN, aBin, aInt_add, aInt_sub, aInt_mul, aInt_quo, aInt_rem, aInt_eql, aInt_neq, aInt_lss, aInt_leq, aInt_gtr, aInt_geq, aExtract, finQ_ret, resOf, extU, kq_eq, thenQ_normal, thenQ_exit, thenQ_ret, h0]
end Go.Proofs.YteedadelgpagfaaDoor.Ax
