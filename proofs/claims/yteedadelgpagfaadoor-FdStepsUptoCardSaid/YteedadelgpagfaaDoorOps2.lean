/- What the table tells. -/
import Derived.Test.YteedadelgpagfaaDoorOps
set_option linter.unusedVariables false
set_option linter.unusedSimpArgs false
namespace Go.Proofs.YteedadelgpagfaaDoor.Ax
open Go.RowKit

/-- An operation as a value. -/
def opV (kind at' n : Int) (p d : List UInt8) : AV := .agg [.int .i64 kind, .int .i64 at', .int .i64 n, .str p, .str [], .str d]
def zeroOp : AV := opV 0 0 0 [] []

theorem build_zero {W : World} : aBuild (CC W) 41 [] = some zeroOp := by
  simp only [aBuild, zero41, placeOf, kind41]; rfl
theorem build_read {W : World} {a n : Int} {p : List UInt8} : aBuild (CC W) 41 [(0, .int .i64 5), (3, .str p), (1, .int .i64 a), (2, .int .i64 n)] = some (opV 5 a n p []) := by
  simp only [aBuild, zero41, placeOf, kind41]; rfl
theorem build_write {W : World} {a : Int} {p d : List UInt8} : aBuild (CC W) 41 [(0, .int .i64 3), (3, .str p), (1, .int .i64 a), (5, .str d)] = some (opV 3 a 0 p d) := by
  simp only [aBuild, zero41, placeOf, kind41]; rfl
theorem alloc_op {W : World} {h : AH} : aAlloc (CC W) h 41 = some (.ptr (some (.new h.next 0)), h.push (.cells [.int .i64 0, .int .i64 0, .int .i64 0, .str [], .str [], .str []] 41)) := by
  simp only [aAlloc, zero41, size41]
theorem store_op {W : World} {h : AH} {j : Nat} {c0 c1 c2 c3 c4 c5 : AV} {kind at' n : Int} {p d : List UInt8} {t : TypeId} (hg : h.get j = some (.cells [c0, c1, c2, c3, c4, c5] t)) :
    aStoreOp (CC W) h 41 (.ptr (some (.new j 0))) (opV kind at' n p d) = some (h.set j (.cells [.int .i64 kind, .int .i64 at', .int .i64 n, .str p, .str [], .str d] t)) := by
  simp only [aStoreOp, opV, aCellsOf, size41, aStore, hg]
  rfl
theorem load_op {W : World} {h : AH} {j : Nat} {kind at' n : Int} {p d : List UInt8} {t : TypeId} (hg : h.get j = some (.cells [.int .i64 kind, .int .i64 at', .int .i64 n, .str p, .str [], .str d] t)) :
    aLoad (CC W) h 41 (.new j 0) = some (opV kind at' n p d) := by
  simp only [aLoad, ty41, T41, AKind.isOther, AKind.isAgg, aCells, hg]
  rfl

def nextR (T : List Ent) (fd n : Int) : AV × Int := match gotT T fd with
  | none => (zeroOp, 311)
  | some (_, x) => if 0 ≤ n ∧ n ≤ 1024 then (opV 5 x.2 n x.1 [], 0) else (zeroOp, 309)

set_option maxHeartbeats 8000000 in
set_option maxRecDepth 20000 in
theorem next_ret (W : World) (h : AH) (k : Nat) (T : List Ent) (ht : TabIs h k T) (fd n : Int) : RetQ (CC W) 14 [.ptr (some (.new k 0)), .int .i64 fd, .int .i64 n] h fun w _ => w = .tup [(nextR T fd n).1, .int .i64 (nextR T fd n).2] := by
  refine acall_fin (cc_ok W) (fn14 W) (by simp only [Tryd.f14]; rfl) rfl rfl ?_
  have hn : nextR T fd n = match gotT T fd with
    | none => (zeroOp, 311)
    | some (_, x) => if 0 ≤ n ∧ n ≤ 1024 then (opV 5 x.2 n x.1 [], 0) else (zeroOp, 309) := rfl
  rw [hn]
  simp [Wc_seq, Wc_block, Wc_scope, Wc_skip, Wc_label, Wc_exit, Wc_ret, Wc_loop, Wc_region, Wc_cond, Nx_nil, Nx_seq, Nx_seq_exit, Nx_seq_ret, Nx_block, Nx_block_exit, Nx_block_ret, Rg_nil, Rg_cons, RgE, effA, calleeA, wantedA, enterN, ev, ofV, ofVn, putE, evalN, aBin, aInt_add, aInt_sub, aInt_mul, aInt_quo, aInt_rem, aInt_eql, aInt_neq, aInt_lss, aInt_leq, aInt_gtr, aInt_geq, aExtract, finQ_ret, resOf, extU, kq_eq, thenQ_normal, thenQ_exit, thenQ_ret, alloc_op]
  have hk0 := Keeps.push h (.cells [.int .i64 0, .int .i64 0, .int .i64 0, .str [], .str [], .str []] 41)
  have hg0 : (h.push (.cells [.int .i64 0, .int .i64 0, .int .i64 0, .str [], .str [], .str []] 41)).get h.next = some (.cells [.int .i64 0, .int .i64 0, .int .i64 0, .str [], .str [], .str []] 41) := by simp
  have ht1 := ht.keeps hk0
  generalize h.push (.cells [.int .i64 0, .int .i64 0, .int .i64 0, .str [], .str [], .str []] 41) = h1 at hk0 hg0 ht1 ⊢
  refine callK_RetH (by simp [fn23]) (get_ret W h1 k T ht1 fd) ?_
  have hs : ∀ (a b c : Int) (p d : List UInt8), aStoreOp (CC W) h1 41 (.ptr (some (.new h.next 0))) (opV a b c p d) = some (h1.set h.next (.cells [.int .i64 a, .int .i64 b, .int .i64 c, .str p, .str [], .str d] 41)) := fun a b c p d => store_op hg0
  have hl : ∀ (a b c : Int) (p d : List UInt8), aLoad (CC W) (h1.set h.next (.cells [.int .i64 a, .int .i64 b, .int .i64 c, .str p, .str [], .str d] 41)) 41 (.new h.next 0) = some (opV a b c p d) := fun a b c p d => load_op (t := 41) (by simp)
  have hkk : ∀ o, Keeps h (h1.set h.next o) := fun o => hk0.set (Nat.le_refl _) o
  cases hg : gotT T fd with
  | none =>
    simp [Wc_seq, Wc_block, Wc_scope, Wc_skip, Wc_label, Wc_exit, Wc_ret, Wc_loop, Wc_region, Wc_cond, Nx_nil, Nx_seq, Nx_seq_exit, Nx_seq_ret, Nx_block, Nx_block_exit, Nx_block_ret, Rg_nil, Rg_cons, RgE, effA, calleeA, wantedA, enterN, ev, ofV, ofVn, putE, evalN, aBin, aInt_add, aInt_sub, aInt_mul, aInt_quo, aInt_rem, aInt_eql, aInt_neq, aInt_lss, aInt_leq, aInt_gtr, aInt_geq, aExtract, finQ_ret, resOf, extU, kq_eq, thenQ_normal, thenQ_exit, thenQ_ret, gotV, build_zero, zeroOp, hs, hl, hkk]
  | some r =>
    obtain ⟨i, x⟩ := r
    obtain ⟨rfl, hi, hx, hne⟩ := gotT_some hg
    by_cases h1n : n < 0
    · have hc : ¬ (0 ≤ n ∧ n ≤ 1024) := by omega
      simp only [if_neg hc]
      simp [Wc_seq, Wc_block, Wc_scope, Wc_skip, Wc_label, Wc_exit, Wc_ret, Wc_loop, Wc_region, Wc_cond, Nx_nil, Nx_seq, Nx_seq_exit, Nx_seq_ret, Nx_block, Nx_block_exit, Nx_block_ret, Rg_nil, Rg_cons, RgE, effA, calleeA, wantedA, enterN, ev, ofV, ofVn, putE, evalN, aBin, aInt_add, aInt_sub, aInt_mul, aInt_quo, aInt_rem, aInt_eql, aInt_neq, aInt_lss, aInt_leq, aInt_gtr, aInt_geq, aExtract, finQ_ret, resOf, extU, kq_eq, thenQ_normal, thenQ_exit, thenQ_ret, gotV, h1n, build_zero, zeroOp, hs, hl, hkk]
    · by_cases h2n : 1024 < n
      · have hc : ¬ (0 ≤ n ∧ n ≤ 1024) := by omega
        simp only [if_neg hc]
        simp [Wc_seq, Wc_block, Wc_scope, Wc_skip, Wc_label, Wc_exit, Wc_ret, Wc_loop, Wc_region, Wc_cond, Nx_nil, Nx_seq, Nx_seq_exit, Nx_seq_ret, Nx_block, Nx_block_exit, Nx_block_ret, Rg_nil, Rg_cons, RgE, effA, calleeA, wantedA, enterN, ev, ofV, ofVn, putE, evalN, aBin, aInt_add, aInt_sub, aInt_mul, aInt_quo, aInt_rem, aInt_eql, aInt_neq, aInt_lss, aInt_leq, aInt_gtr, aInt_geq, aExtract, finQ_ret, resOf, extU, kq_eq, thenQ_normal, thenQ_exit, thenQ_ret, gotV, h1n, h2n, build_zero, zeroOp, hs, hl, hkk]
      · have hc : 0 ≤ n ∧ n ≤ 1024 := by omega
        have l1 := ld_path (W := W) ht1 hx
        have l2 := ld_at (W := W) ht1 hx
        simp only [if_pos hc]
        simp [Wc_seq, Wc_block, Wc_scope, Wc_skip, Wc_label, Wc_exit, Wc_ret, Wc_loop, Wc_region, Wc_cond, Nx_nil, Nx_seq, Nx_seq_exit, Nx_seq_ret, Nx_block, Nx_block_exit, Nx_block_ret, Rg_nil, Rg_cons, RgE, effA, calleeA, wantedA, enterN, ev, ofV, ofVn, putE, evalN, aBin, aInt_add, aInt_sub, aInt_mul, aInt_quo, aInt_rem, aInt_eql, aInt_neq, aInt_lss, aInt_leq, aInt_gtr, aInt_geq, aExtract, finQ_ret, resOf, extU, kq_eq, thenQ_normal, thenQ_exit, thenQ_ret, gotV, h1n, h2n]
        refine draw1 (cc_ok W) [0, 1, 2, 3, 4, 5, 6, 7, 8, 9, 10, 11] (by kernel_rfl) (by kernel_rfl) (by kernel_rfl) rfl ?_
        simp [Wc_seq, Wc_block, Wc_scope, Wc_skip, Wc_label, Wc_exit, Wc_ret, Wc_loop, Wc_region, Wc_cond, Nx_nil, Nx_seq, Nx_seq_exit, Nx_seq_ret, Nx_block, Nx_block_exit, Nx_block_ret, Rg_nil, Rg_cons, RgE, effA, calleeA, wantedA, enterN, ev, ofV, ofVn, putE, evalN, aBin, aInt_add, aInt_sub, aInt_mul, aInt_quo, aInt_rem, aInt_eql, aInt_neq, aInt_lss, aInt_leq, aInt_gtr, aInt_geq, aExtract, finQ_ret, resOf, extU, kq_eq, thenQ_normal, thenQ_exit, thenQ_ret, aNilCheck, fa_path, fa_at, l1, l2, build_read, hs, hl, hkk]

set_option maxRecDepth 20000 in
theorem next_nil (W : World) (fd n : Int) : RetX (CC W) 14 [.ptr none, .int .i64 fd, .int .i64 n] (.tup [zeroOp, .int .i64 311]) := by
  intro h
  refine acall_fin (cc_ok W) (fn14 W) (by simp only [Tryd.f14]; rfl) rfl rfl ?_
  simp [Wc_seq, Wc_block, Wc_scope, Wc_skip, Wc_label, Wc_exit, Wc_ret, Wc_loop, Wc_region, Wc_cond, Nx_nil, Nx_seq, Nx_seq_exit, Nx_seq_ret, Nx_block, Nx_block_exit, Nx_block_ret, Rg_nil, Rg_cons, RgE, effA, calleeA, wantedA, enterN, ev, ofV, ofVn, putE, evalN, aBin, aInt_add, aInt_sub, aInt_mul, aInt_quo, aInt_rem, aInt_eql, aInt_neq, aInt_lss, aInt_leq, aInt_gtr, aInt_geq, aExtract, finQ_ret, resOf, extU, kq_eq, thenQ_normal, thenQ_exit, thenQ_ret, alloc_op]
  have hk0 := Keeps.push h (.cells [.int .i64 0, .int .i64 0, .int .i64 0, .str [], .str [], .str []] 41)
  have hg0 : (h.push (.cells [.int .i64 0, .int .i64 0, .int .i64 0, .str [], .str [], .str []] 41)).get h.next = some (.cells [.int .i64 0, .int .i64 0, .int .i64 0, .str [], .str [], .str []] 41) := by simp
  generalize h.push (.cells [.int .i64 0, .int .i64 0, .int .i64 0, .str [], .str [], .str []] 41) = h1 at hk0 hg0 ⊢
  refine callK_Ret (by simp [fn23]) (get_nil W fd) ?_
  have hs : ∀ (a b c : Int) (p d : List UInt8), aStoreOp (CC W) h1 41 (.ptr (some (.new h.next 0))) (opV a b c p d) = some (h1.set h.next (.cells [.int .i64 a, .int .i64 b, .int .i64 c, .str p, .str [], .str d] 41)) := fun a b c p d => store_op hg0
  have hl : ∀ (a b c : Int) (p d : List UInt8), aLoad (CC W) (h1.set h.next (.cells [.int .i64 a, .int .i64 b, .int .i64 c, .str p, .str [], .str d] 41)) 41 (.new h.next 0) = some (opV a b c p d) := fun a b c p d => load_op (t := 41) (by simp)
  have hkk : ∀ o, Keeps h (h1.set h.next o) := fun o => hk0.set (Nat.le_refl _) o
  simp [Wc_seq, Wc_block, Wc_scope, Wc_skip, Wc_label, Wc_exit, Wc_ret, Wc_loop, Wc_region, Wc_cond, Nx_nil, Nx_seq, Nx_seq_exit, Nx_seq_ret, Nx_block, Nx_block_exit, Nx_block_ret, Rg_nil, Rg_cons, RgE, effA, calleeA, wantedA, enterN, ev, ofV, ofVn, putE, evalN, aBin, aInt_add, aInt_sub, aInt_mul, aInt_quo, aInt_rem, aInt_eql, aInt_neq, aInt_lss, aInt_leq, aInt_gtr, aInt_geq, aExtract, finQ_ret, resOf, extU, kq_eq, thenQ_normal, thenQ_exit, thenQ_ret, build_zero, zeroOp, hs, hl, hkk]

def writeR (T : List Ent) (fd : Int) (d : List UInt8) : AV × Int := match gotT T fd with
  | none => (zeroOp, 311)
  | some (_, x) => if d.length ≤ 1024 then (opV 3 x.2 0 x.1 d, 0) else (zeroOp, 309)

set_option maxHeartbeats 8000000 in
set_option maxRecDepth 20000 in
theorem write_ret (W : World) (h : AH) (k : Nat) (T : List Ent) (ht : TabIs h k T) (fd : Int) (d : List UInt8) : RetQ (CC W) 15 [.ptr (some (.new k 0)), .int .i64 fd, .str d] h fun w _ => w = .tup [(writeR T fd d).1, .int .i64 (writeR T fd d).2] := by
  refine acall_fin (cc_ok W) (fn15 W) (by simp only [Tryd.f15]; rfl) rfl rfl ?_
  have hn : writeR T fd d = match gotT T fd with
    | none => (zeroOp, 311)
    | some (_, x) => if d.length ≤ 1024 then (opV 3 x.2 0 x.1 d, 0) else (zeroOp, 309) := rfl
  rw [hn]
  simp [Wc_seq, Wc_block, Wc_scope, Wc_skip, Wc_label, Wc_exit, Wc_ret, Wc_loop, Wc_region, Wc_cond, Nx_nil, Nx_seq, Nx_seq_exit, Nx_seq_ret, Nx_block, Nx_block_exit, Nx_block_ret, Rg_nil, Rg_cons, RgE, effA, calleeA, wantedA, enterN, ev, ofV, ofVn, putE, evalN, aBin, aInt_add, aInt_sub, aInt_mul, aInt_quo, aInt_rem, aInt_eql, aInt_neq, aInt_lss, aInt_leq, aInt_gtr, aInt_geq, aExtract, finQ_ret, resOf, extU, kq_eq, thenQ_normal, thenQ_exit, thenQ_ret, alloc_op]
  have hk0 := Keeps.push h (.cells [.int .i64 0, .int .i64 0, .int .i64 0, .str [], .str [], .str []] 41)
  have hg0 : (h.push (.cells [.int .i64 0, .int .i64 0, .int .i64 0, .str [], .str [], .str []] 41)).get h.next = some (.cells [.int .i64 0, .int .i64 0, .int .i64 0, .str [], .str [], .str []] 41) := by simp
  have ht1 := ht.keeps hk0
  generalize h.push (.cells [.int .i64 0, .int .i64 0, .int .i64 0, .str [], .str [], .str []] 41) = h1 at hk0 hg0 ht1 ⊢
  refine callK_RetH (by simp [fn23]) (get_ret W h1 k T ht1 fd) ?_
  have hs : ∀ (a b c : Int) (p d : List UInt8), aStoreOp (CC W) h1 41 (.ptr (some (.new h.next 0))) (opV a b c p d) = some (h1.set h.next (.cells [.int .i64 a, .int .i64 b, .int .i64 c, .str p, .str [], .str d] 41)) := fun a b c p d => store_op hg0
  have hl : ∀ (a b c : Int) (p d : List UInt8), aLoad (CC W) (h1.set h.next (.cells [.int .i64 a, .int .i64 b, .int .i64 c, .str p, .str [], .str d] 41)) 41 (.new h.next 0) = some (opV a b c p d) := fun a b c p d => load_op (t := 41) (by simp)
  have hkk : ∀ o, Keeps h (h1.set h.next o) := fun o => hk0.set (Nat.le_refl _) o
  cases hg : gotT T fd with
  | none =>
    simp [Wc_seq, Wc_block, Wc_scope, Wc_skip, Wc_label, Wc_exit, Wc_ret, Wc_loop, Wc_region, Wc_cond, Nx_nil, Nx_seq, Nx_seq_exit, Nx_seq_ret, Nx_block, Nx_block_exit, Nx_block_ret, Rg_nil, Rg_cons, RgE, effA, calleeA, wantedA, enterN, ev, ofV, ofVn, putE, evalN, aBin, aInt_add, aInt_sub, aInt_mul, aInt_quo, aInt_rem, aInt_eql, aInt_neq, aInt_lss, aInt_leq, aInt_gtr, aInt_geq, aExtract, finQ_ret, resOf, extU, kq_eq, thenQ_normal, thenQ_exit, thenQ_ret, gotV, build_zero, zeroOp, hs, hl, hkk]
  | some r =>
    obtain ⟨i, x⟩ := r
    obtain ⟨rfl, hi, hx, hne⟩ := gotT_some hg
    by_cases h2n : d.length ≤ 1024
    · have h3n : ¬ (1024 : Int) < (d.length : Int) := by omega
      have h4n : ¬ 1024 < d.length := by omega
      have l1 := ld_path (W := W) ht1 hx
      have l2 := ld_at (W := W) ht1 hx
      simp only [if_pos h2n]
      simp [Wc_seq, Wc_block, Wc_scope, Wc_skip, Wc_label, Wc_exit, Wc_ret, Wc_loop, Wc_region, Wc_cond, Nx_nil, Nx_seq, Nx_seq_exit, Nx_seq_ret, Nx_block, Nx_block_exit, Nx_block_ret, Rg_nil, Rg_cons, RgE, effA, calleeA, wantedA, enterN, ev, ofV, ofVn, putE, evalN, aBin, aInt_add, aInt_sub, aInt_mul, aInt_quo, aInt_rem, aInt_eql, aInt_neq, aInt_lss, aInt_leq, aInt_gtr, aInt_geq, aExtract, finQ_ret, resOf, extU, kq_eq, thenQ_normal, thenQ_exit, thenQ_ret, gotV, aLen, kind9, h3n, h4n]
      refine draw1 (cc_ok W) [0, 1, 2, 3, 4, 5, 6, 7, 8, 9, 10, 11] (by kernel_rfl) (by kernel_rfl) (by kernel_rfl) rfl ?_
      simp [Wc_seq, Wc_block, Wc_scope, Wc_skip, Wc_label, Wc_exit, Wc_ret, Wc_loop, Wc_region, Wc_cond, Nx_nil, Nx_seq, Nx_seq_exit, Nx_seq_ret, Nx_block, Nx_block_exit, Nx_block_ret, Rg_nil, Rg_cons, RgE, effA, calleeA, wantedA, enterN, ev, ofV, ofVn, putE, evalN, aBin, aInt_add, aInt_sub, aInt_mul, aInt_quo, aInt_rem, aInt_eql, aInt_neq, aInt_lss, aInt_leq, aInt_gtr, aInt_geq, aExtract, finQ_ret, resOf, extU, kq_eq, thenQ_normal, thenQ_exit, thenQ_ret, aNilCheck, fa_path, fa_at, l1, l2, build_write, hs, hl, hkk]
    · have h3n : (1024 : Int) < (d.length : Int) := by omega
      have h4n : 1024 < d.length := by omega
      simp only [if_neg h2n]
      simp [Wc_seq, Wc_block, Wc_scope, Wc_skip, Wc_label, Wc_exit, Wc_ret, Wc_loop, Wc_region, Wc_cond, Nx_nil, Nx_seq, Nx_seq_exit, Nx_seq_ret, Nx_block, Nx_block_exit, Nx_block_ret, Rg_nil, Rg_cons, RgE, effA, calleeA, wantedA, enterN, ev, ofV, ofVn, putE, evalN, aBin, aInt_add, aInt_sub, aInt_mul, aInt_quo, aInt_rem, aInt_eql, aInt_neq, aInt_lss, aInt_leq, aInt_gtr, aInt_geq, aExtract, finQ_ret, resOf, extU, kq_eq, thenQ_normal, thenQ_exit, thenQ_ret, gotV, aLen, kind9, h3n, h4n, build_zero, zeroOp, hs, hl, hkk]

set_option maxRecDepth 20000 in
theorem write_nil (W : World) (fd : Int) (d : List UInt8) : RetX (CC W) 15 [.ptr none, .int .i64 fd, .str d] (.tup [zeroOp, .int .i64 311]) := by
  intro h
  refine acall_fin (cc_ok W) (fn15 W) (by simp only [Tryd.f15]; rfl) rfl rfl ?_
  simp [Wc_seq, Wc_block, Wc_scope, Wc_skip, Wc_label, Wc_exit, Wc_ret, Wc_loop, Wc_region, Wc_cond, Nx_nil, Nx_seq, Nx_seq_exit, Nx_seq_ret, Nx_block, Nx_block_exit, Nx_block_ret, Rg_nil, Rg_cons, RgE, effA, calleeA, wantedA, enterN, ev, ofV, ofVn, putE, evalN, aBin, aInt_add, aInt_sub, aInt_mul, aInt_quo, aInt_rem, aInt_eql, aInt_neq, aInt_lss, aInt_leq, aInt_gtr, aInt_geq, aExtract, finQ_ret, resOf, extU, kq_eq, thenQ_normal, thenQ_exit, thenQ_ret, alloc_op]
  have hk0 := Keeps.push h (.cells [.int .i64 0, .int .i64 0, .int .i64 0, .str [], .str [], .str []] 41)
  have hg0 : (h.push (.cells [.int .i64 0, .int .i64 0, .int .i64 0, .str [], .str [], .str []] 41)).get h.next = some (.cells [.int .i64 0, .int .i64 0, .int .i64 0, .str [], .str [], .str []] 41) := by simp
  generalize h.push (.cells [.int .i64 0, .int .i64 0, .int .i64 0, .str [], .str [], .str []] 41) = h1 at hk0 hg0 ⊢
  refine callK_Ret (by simp [fn23]) (get_nil W fd) ?_
  have hs : ∀ (a b c : Int) (p d : List UInt8), aStoreOp (CC W) h1 41 (.ptr (some (.new h.next 0))) (opV a b c p d) = some (h1.set h.next (.cells [.int .i64 a, .int .i64 b, .int .i64 c, .str p, .str [], .str d] 41)) := fun a b c p d => store_op hg0
  have hl : ∀ (a b c : Int) (p d : List UInt8), aLoad (CC W) (h1.set h.next (.cells [.int .i64 a, .int .i64 b, .int .i64 c, .str p, .str [], .str d] 41)) 41 (.new h.next 0) = some (opV a b c p d) := fun a b c p d => load_op (t := 41) (by simp)
  have hkk : ∀ o, Keeps h (h1.set h.next o) := fun o => hk0.set (Nat.le_refl _) o
  simp [Wc_seq, Wc_block, Wc_scope, Wc_skip, Wc_label, Wc_exit, Wc_ret, Wc_loop, Wc_region, Wc_cond, Nx_nil, Nx_seq, Nx_seq_exit, Nx_seq_ret, Nx_block, Nx_block_exit, Nx_block_ret, Rg_nil, Rg_cons, RgE, effA, calleeA, wantedA, enterN, ev, ofV, ofVn, putE, evalN, aBin, aInt_add, aInt_sub, aInt_mul, aInt_quo, aInt_rem, aInt_eql, aInt_neq, aInt_lss, aInt_leq, aInt_gtr, aInt_geq, aExtract, finQ_ret, resOf, extU, kq_eq, thenQ_normal, thenQ_exit, thenQ_ret, build_zero, zeroOp, hs, hl, hkk]

def atR (T : List Ent) (fd : Int) : List UInt8 × Int × Int := match gotT T fd with
  | none => ([], 0, 311)
  | some (_, x) => (x.1, x.2, 0)

set_option maxHeartbeats 4000000 in
set_option maxRecDepth 20000 in
theorem at_ret (W : World) (h : AH) (k : Nat) (T : List Ent) (ht : TabIs h k T) (fd : Int) : RetH (CC W) 17 [.ptr (some (.new k 0)), .int .i64 fd] h (.tup [.str (atR T fd).1, .int .i64 (atR T fd).2.1, .int .i64 (atR T fd).2.2]) := by
  refine acall_fin (cc_ok W) (fn17 W) (by simp only [Tryd.f17]; rfl) rfl rfl ?_
  have hn : atR T fd = match gotT T fd with
    | none => ([], 0, 311)
    | some (_, x) => (x.1, x.2, 0) := rfl
  rw [hn]
  simp [Wc_seq, Wc_block, Wc_scope, Wc_skip, Wc_label, Wc_exit, Wc_ret, Wc_loop, Wc_region, Wc_cond, Nx_nil, Nx_seq, Nx_seq_exit, Nx_seq_ret, Nx_block, Nx_block_exit, Nx_block_ret, Rg_nil, Rg_cons, RgE, effA, calleeA, wantedA, enterN, ev, ofV, ofVn, putE, evalN, aBin, aInt_add, aInt_sub, aInt_mul, aInt_quo, aInt_rem, aInt_eql, aInt_neq, aInt_lss, aInt_leq, aInt_gtr, aInt_geq, aExtract, finQ_ret, resOf, extU, kq_eq, thenQ_normal, thenQ_exit, thenQ_ret]
  refine callK_RetH (by simp [fn23]) (get_ret W h k T ht fd) ?_
  cases hg : gotT T fd with
  | none => simp [Wc_seq, Wc_block, Wc_scope, Wc_skip, Wc_label, Wc_exit, Wc_ret, Wc_loop, Wc_region, Wc_cond, Nx_nil, Nx_seq, Nx_seq_exit, Nx_seq_ret, Nx_block, Nx_block_exit, Nx_block_ret, Rg_nil, Rg_cons, RgE, effA, calleeA, wantedA, enterN, ev, ofV, ofVn, putE, evalN, aBin, aInt_add, aInt_sub, aInt_mul, aInt_quo, aInt_rem, aInt_eql, aInt_neq, aInt_lss, aInt_leq, aInt_gtr, aInt_geq, aExtract, finQ_ret, resOf, extU, kq_eq, thenQ_normal, thenQ_exit, thenQ_ret, gotV]
  | some r =>
    obtain ⟨i, x⟩ := r
    obtain ⟨rfl, hi, hx, hne⟩ := gotT_some hg
    have l1 := ld_path (W := W) ht hx
    have l2 := ld_at (W := W) ht hx
    simp [Wc_seq, Wc_block, Wc_scope, Wc_skip, Wc_label, Wc_exit, Wc_ret, Wc_loop, Wc_region, Wc_cond, Nx_nil, Nx_seq, Nx_seq_exit, Nx_seq_ret, Nx_block, Nx_block_exit, Nx_block_ret, Rg_nil, Rg_cons, RgE, effA, calleeA, wantedA, enterN, ev, ofV, ofVn, putE, evalN, aBin, aInt_add, aInt_sub, aInt_mul, aInt_quo, aInt_rem, aInt_eql, aInt_neq, aInt_lss, aInt_leq, aInt_gtr, aInt_geq, aExtract, finQ_ret, resOf, extU, kq_eq, thenQ_normal, thenQ_exit, thenQ_ret, gotV]
    refine draw1 (cc_ok W) [0, 1, 2, 3, 4, 5, 6, 7, 8, 9, 10] (by kernel_rfl) (by kernel_rfl) (by kernel_rfl) rfl ?_
    simp [Wc_seq, Wc_block, Wc_scope, Wc_skip, Wc_label, Wc_exit, Wc_ret, Wc_loop, Wc_region, Wc_cond, Nx_nil, Nx_seq, Nx_seq_exit, Nx_seq_ret, Nx_block, Nx_block_exit, Nx_block_ret, Rg_nil, Rg_cons, RgE, effA, calleeA, wantedA, enterN, ev, ofV, ofVn, putE, evalN, aBin, aInt_add, aInt_sub, aInt_mul, aInt_quo, aInt_rem, aInt_eql, aInt_neq, aInt_lss, aInt_leq, aInt_gtr, aInt_geq, aExtract, finQ_ret, resOf, extU, kq_eq, thenQ_normal, thenQ_exit, thenQ_ret, aNilCheck, fa_path, fa_at, l1, l2]

set_option maxRecDepth 20000 in
theorem at_nil (W : World) (fd : Int) : Ret (CC W) 17 [.ptr none, .int .i64 fd] (.tup [.str [], .int .i64 0, .int .i64 311]) := by
  intro h
  refine acall_fin (cc_ok W) (fn17 W) (by simp only [Tryd.f17]; rfl) rfl rfl ?_
  simp [Wc_seq, Wc_block, Wc_scope, Wc_skip, Wc_label, Wc_exit, Wc_ret, Wc_loop, Wc_region, Wc_cond, Nx_nil, Nx_seq, Nx_seq_exit, Nx_seq_ret, Nx_block, Nx_block_exit, Nx_block_ret, Rg_nil, Rg_cons, RgE, effA, calleeA, wantedA, enterN, ev, ofV, ofVn, putE, evalN, aBin, aInt_add, aInt_sub, aInt_mul, aInt_quo, aInt_rem, aInt_eql, aInt_neq, aInt_lss, aInt_leq, aInt_gtr, aInt_geq, aExtract, finQ_ret, resOf, extU, kq_eq, thenQ_normal, thenQ_exit, thenQ_ret]
  refine callK_Ret (by simp [fn23]) (get_nil W fd) ?_
  simp [Wc_seq, Wc_block, Wc_scope, Wc_skip, Wc_label, Wc_exit, Wc_ret, Wc_loop, Wc_region, Wc_cond, Nx_nil, Nx_seq, Nx_seq_exit, Nx_seq_ret, Nx_block, Nx_block_exit, Nx_block_ret, Rg_nil, Rg_cons, RgE, effA, calleeA, wantedA, enterN, ev, ofV, ofVn, putE, evalN, aBin, aInt_add, aInt_sub, aInt_mul, aInt_quo, aInt_rem, aInt_eql, aInt_neq, aInt_lss, aInt_leq, aInt_gtr, aInt_geq, aExtract, finQ_ret, resOf, extU, kq_eq, thenQ_normal, thenQ_exit, thenQ_ret]

def LnI (h : AH) (m : Nat) (e' : Env) (h' : AH) : Prop :=
  h' = h ∧ e'.length = 24 ∧ ∃ i : Nat, i + m = 16 ∧ (e'.getD 0 .undef = .ptr none ∧ e'.getD 3 .undef = .sl none 0 0 none ∧ e'.getD 7 .undef = .int .i64 i)

set_option maxHeartbeats 4000000 in
set_option maxRecDepth 20000 in
theorem list_nil (W : World) : Ret (CC W) 11 [.ptr none] (.sl none 0 0 none) := by
  intro h
  refine acall_fin (cc_ok W) (fn11 W) (by simp only [Tryd.f11]; rfl) rfl rfl ?_
  simp [Wc_seq, Wc_block, Wc_scope, Wc_skip, Wc_label, Wc_exit, Wc_ret, Wc_loop, Wc_region, Wc_cond, Nx_nil, Nx_seq, Nx_seq_exit, Nx_seq_ret, Nx_block, Nx_block_exit, Nx_block_ret, Rg_nil, Rg_cons, RgE, effA, calleeA, wantedA, enterN, ev, ofV, ofVn, putE, evalN, aBin, aInt_add, aInt_sub, aInt_mul, aInt_quo, aInt_rem, aInt_eql, aInt_neq, aInt_lss, aInt_leq, aInt_gtr, aInt_geq, aExtract, finQ_ret, resOf, extU, kq_eq, thenQ_normal, thenQ_exit, thenQ_ret]
  refine loopN (cc_ok W) (LnI h) 16 ⟨rfl, by simp, 0, by simp, by simp⟩ ?_
  rintro m e' h' ⟨rfl, hl, i, him, hh⟩
  match e', hl with
  | a0 :: a1 :: a2 :: a3 :: a4 :: a5 :: a6 :: a7 :: a8 :: a9 :: a10 :: a11 :: a12 :: a13 :: a14 :: a15 :: a16 :: a17 :: a18 :: a19 :: a20 :: a21 :: a22 :: a23 :: [], _ =>
    simp at hh
    obtain ⟨rfl, rfl, rfl⟩ := hh
    by_cases hlt : i < 16
    · have hlt' : (i : Int) < 16 := by omega
      have wi : IntKind.i64.wrap ((i : Int) + 1) = (i : Int) + 1 := wrap64 (by omega) (by omega)
      simp [Wc_seq, Wc_block, Wc_scope, Wc_skip, Wc_label, Wc_exit, Wc_ret, Wc_loop, Wc_region, Wc_cond, Nx_nil, Nx_seq, Nx_seq_exit, Nx_seq_ret, Nx_block, Nx_block_exit, Nx_block_ret, Rg_nil, Rg_cons, RgE, effA, calleeA, wantedA, enterN, ev, ofV, ofVn, putE, evalN, aBin, aInt_add, aInt_sub, aInt_mul, aInt_quo, aInt_rem, aInt_eql, aInt_neq, aInt_lss, aInt_leq, aInt_gtr, aInt_geq, aExtract, finQ_ret, resOf, extU, kq_eq, thenQ_normal, thenQ_exit, thenQ_ret, hlt, hlt']
      refine callK_Ret (by simp [fn23]) (get_nil W i) ?_
      simp [Wc_seq, Wc_block, Wc_scope, Wc_skip, Wc_label, Wc_exit, Wc_ret, Wc_loop, Wc_region, Wc_cond, Nx_nil, Nx_seq, Nx_seq_exit, Nx_seq_ret, Nx_block, Nx_block_exit, Nx_block_ret, Rg_nil, Rg_cons, RgE, effA, calleeA, wantedA, enterN, ev, ofV, ofVn, putE, evalN, aBin, aInt_add, aInt_sub, aInt_mul, aInt_quo, aInt_rem, aInt_eql, aInt_neq, aInt_lss, aInt_leq, aInt_gtr, aInt_geq, aExtract, finQ_ret, resOf, extU, kq_eq, thenQ_normal, thenQ_exit, thenQ_ret, wi]
      exact ⟨m - 1, by omega, rfl, by simp, i + 1, by omega, by simp⟩
    · have hlt' : ¬ (i : Int) < 16 := by omega
      simp [Wc_seq, Wc_block, Wc_scope, Wc_skip, Wc_label, Wc_exit, Wc_ret, Wc_loop, Wc_region, Wc_cond, Nx_nil, Nx_seq, Nx_seq_exit, Nx_seq_ret, Nx_block, Nx_block_exit, Nx_block_ret, Rg_nil, Rg_cons, RgE, effA, calleeA, wantedA, enterN, ev, ofV, ofVn, putE, evalN, aBin, aInt_add, aInt_sub, aInt_mul, aInt_quo, aInt_rem, aInt_eql, aInt_neq, aInt_lss, aInt_leq, aInt_gtr, aInt_geq, aExtract, finQ_ret, resOf, extU, kq_eq, thenQ_normal, thenQ_exit, thenQ_ret, hlt, hlt']
end Go.Proofs.YteedadelgpagfaaDoor.Ax
