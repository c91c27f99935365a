/- Bitmaps: the small case that each statement asks ahead. -/
import Derived.Test.YtoioomplhebadaaSet
set_option linter.unusedVariables false
set_option linter.unusedSimpArgs false
namespace Go.Proofs.Ytoioomplhebadaa.Ax
open Go.RowKit

def blank : List UInt8 := List.replicate 128 0
def spk : List UInt8 := setL blank 9 true

theorem spk_set : setR blank 9 true = (spk, 0) := by decide +kernel
theorem spk_has : hasR spk 9 = (true, 0) := by decide +kernel
theorem spk_count : countR spk 0 1024 = (1, 0) := by decide +kernel
theorem spk_least : runR spk 9 20 1 = (10, 0) := by
  have h0 : askedR spk 9 20 = 0 := by decide +kernel
  have hb : bit spk 9 = true := by decide +kernel
  have hk : ∀ k, k < 1 → bit spk (10 + k) = false := by decide +kernel
  have h1 : runV spk 9 20 1 = (10, 0) := runV_some (i := 10) ⟨by omega, by omega, hk⟩ fun j hj hf => by
    have := hf.1
    exact not_free_of hb (by omega) (by omega) hf
  simp only [runR, h0, if_true]
  exact h1
theorem spk_run : runR spk 8 20 2 = (10, 0) := by
  have h0 : askedR spk 8 20 = 0 := by decide +kernel
  have hb : bit spk 9 = true := by decide +kernel
  have hk : ∀ k, k < 2 → bit spk (10 + k) = false := by decide +kernel
  have h1 : runV spk 8 20 2 = (10, 0) := runV_some (i := 10) ⟨by omega, by omega, hk⟩ fun j hj hf => by
    have := hf.1
    exact not_free_of hb (by omega) (by omega) hf
  simp only [runR, h0, if_true]
  exact h1

theorem mk128 {W : World} {h : AH} : aMakeSlice (CC W) h 45 (.int .i64 128) (.int .i64 128) = some (.sl (some (.new h.next 0)) 128 128 none, h.push (.cells (bcells blank) 5)) := by
  have hr : repZ 128 [.int .u8 0] = bcells blank := by kernel_rfl
  simp [aMakeSlice, kind45, size5, zero5, Cx.bytes, ty5, T5, hr]

set_option maxRecDepth 20000 in
theorem speaks_ret (W : World) : RetA (CC W) 12 [] (.bool true) := by
  intro h
  refine acall_fin (cc_ok W) (fn12 W) (by simp only [Try.f12]; rfl) rfl rfl ?_
  have hg : (h.push (.cells (bcells blank) 5)).get h.next = some (.cells (bcells blank) 5) := by simp
  have hc := conv_bytes (W := W) (gr := none) hg rfl
  have k1 := set_ret W blank 9 true
  rw [spk_set] at k1
  have k2 := least_ret W spk 9 20
  rw [spk_least] at k2
  have k3 := run_ret W spk 8 20 2
  rw [spk_run] at k3
  have k4 := count_ret W spk 0 1024
  rw [spk_count] at k4
  have k5 := has_ret W spk 9
  rw [spk_has] at k5
  simp [Wc_seq, Wc_block, Wc_scope, Wc_skip, Wc_label, Wc_exit, Wc_ret, Wc_loop, Wc_region, Wc_cond, Nx_nil, Nx_seq, Nx_seq_exit, Nx_seq_ret, Nx_block, Nx_block_exit, Nx_block_ret, Rg_nil, Rg_cons, RgE, effA, calleeA, wantedA, enterN, ev, ofV, ofVn, putE, evalN, aBin, aInt_add, aInt_sub, aInt_mul, aInt_quo, aInt_rem, aInt_eql, aInt_neq, aInt_lss, aInt_leq, aInt_gtr, aInt_geq, aExtract, finQ_ret, resOf, kq_eq, thenQ_normal, thenQ_exit, thenQ_ret, mk128, hc]
  refine callK_RetA (by simp [fn10]) k1 fun h' => ?_
  simp [Wc_seq, Wc_block, Wc_scope, Wc_skip, Wc_label, Wc_exit, Wc_ret, Wc_loop, Wc_region, Wc_cond, Nx_nil, Nx_seq, Nx_seq_exit, Nx_seq_ret, Nx_block, Nx_block_exit, Nx_block_ret, Rg_nil, Rg_cons, RgE, effA, calleeA, wantedA, enterN, ev, ofV, ofVn, putE, evalN, aBin, aInt_add, aInt_sub, aInt_mul, aInt_quo, aInt_rem, aInt_eql, aInt_neq, aInt_lss, aInt_leq, aInt_gtr, aInt_geq, aExtract, finQ_ret, resOf, kq_eq, thenQ_normal, thenQ_exit, thenQ_ret]
  refine callK_Ret (by simp [fn13]) k2 ?_
  simp [Wc_seq, Wc_block, Wc_scope, Wc_skip, Wc_label, Wc_exit, Wc_ret, Wc_loop, Wc_region, Wc_cond, Nx_nil, Nx_seq, Nx_seq_exit, Nx_seq_ret, Nx_block, Nx_block_exit, Nx_block_ret, Rg_nil, Rg_cons, RgE, effA, calleeA, wantedA, enterN, ev, ofV, ofVn, putE, evalN, aBin, aInt_add, aInt_sub, aInt_mul, aInt_quo, aInt_rem, aInt_eql, aInt_neq, aInt_lss, aInt_leq, aInt_gtr, aInt_geq, aExtract, finQ_ret, resOf, kq_eq, thenQ_normal, thenQ_exit, thenQ_ret]
  refine callK_Ret (by simp [fn15]) k3 ?_
  simp [Wc_seq, Wc_block, Wc_scope, Wc_skip, Wc_label, Wc_exit, Wc_ret, Wc_loop, Wc_region, Wc_cond, Nx_nil, Nx_seq, Nx_seq_exit, Nx_seq_ret, Nx_block, Nx_block_exit, Nx_block_ret, Rg_nil, Rg_cons, RgE, effA, calleeA, wantedA, enterN, ev, ofV, ofVn, putE, evalN, aBin, aInt_add, aInt_sub, aInt_mul, aInt_quo, aInt_rem, aInt_eql, aInt_neq, aInt_lss, aInt_leq, aInt_gtr, aInt_geq, aExtract, finQ_ret, resOf, kq_eq, thenQ_normal, thenQ_exit, thenQ_ret]
  refine callK_Ret (by simp [fn16]) k4 ?_
  simp [Wc_seq, Wc_block, Wc_scope, Wc_skip, Wc_label, Wc_exit, Wc_ret, Wc_loop, Wc_region, Wc_cond, Nx_nil, Nx_seq, Nx_seq_exit, Nx_seq_ret, Nx_block, Nx_block_exit, Nx_block_ret, Rg_nil, Rg_cons, RgE, effA, calleeA, wantedA, enterN, ev, ofV, ofVn, putE, evalN, aBin, aInt_add, aInt_sub, aInt_mul, aInt_quo, aInt_rem, aInt_eql, aInt_neq, aInt_lss, aInt_leq, aInt_gtr, aInt_geq, aExtract, finQ_ret, resOf, kq_eq, thenQ_normal, thenQ_exit, thenQ_ret]
  refine callK_Ret (by simp [fn8]) k5 ?_
  have hi : aIndex (CC W) 9 (.str spk) (.int .i64 1) = some (.int .u8 2) := by
    simp only [aIndex, kind9]; kernel_rfl
  simp [Wc_seq, Wc_block, Wc_scope, Wc_skip, Wc_label, Wc_exit, Wc_ret, Wc_loop, Wc_region, Wc_cond, Nx_nil, Nx_seq, Nx_seq_exit, Nx_seq_ret, Nx_block, Nx_block_exit, Nx_block_ret, Rg_nil, Rg_cons, RgE, effA, calleeA, wantedA, enterN, ev, ofV, ofVn, putE, evalN, aBin, aInt_add, aInt_sub, aInt_mul, aInt_quo, aInt_rem, aInt_eql, aInt_neq, aInt_lss, aInt_leq, aInt_gtr, aInt_geq, aExtract, finQ_ret, resOf, kq_eq, thenQ_normal, thenQ_exit, thenQ_ret, hi]
end Go.Proofs.Ytoioomplhebadaa.Ax
