/- Bitmaps: the law of rows. -/
import Derived.Test.YtoioomplhebadaaFields
set_option linter.unusedVariables false
set_option linter.unusedSimpArgs false
namespace Go.Proofs.Ytoioomplhebadaa.Ax
open Go.RowKit

set_option maxHeartbeats 4000000 in
set_option maxRecDepth 20000 in
theorem row_ret (W : World) (b : List UInt8) (x y c : Int) : RetA (CC W) 6 [.str b, .agg [.int .i64 x, .int .i64 y, .int .i64 c]] (.bool true) := by
  intro h
  refine acall_fin (cc_ok W) (fn6 W) (by simp only [Try.f6]; rfl) rfl rfl ?_
  have hg : (h.push (.cells [.int .i64 x, .int .i64 y, .int .i64 c] 34)).get h.next = some (.cells [.int .i64 x, .int .i64 y, .int .i64 c] 34) := by simp
  have l0 := ld3 (W := W) (o := 0) hg rfl
  have l1 := ld3 (W := W) (o := 1) hg rfl
  have l2 := ld3 (W := W) (o := 2) hg rfl
  by_cases he : (runR b x y c).2 = 0
  · obtain ⟨hl, p, n, m, i, rfl, rfl, rfl, hpn, hm, hr, hf, hmin⟩ := runR_zero he
    have hf1 := hf.1
    have hf2 := hf.2.1
    have hw1 : IntKind.i64.wrap ((p : Int) + (n : Int) - (m : Int)) = (p : Int) + (n : Int) - (m : Int) := wrap64 (by omega) (by omega)
    have hw2 : IntKind.i64.wrap ((i : Int) + (m : Int)) = (i : Int) + (m : Int) := wrap64 (by omega) (by omega)
    have hw3 : IntKind.i64.wrap ((i : Int) + (m : Int) - 1) = (i : Int) + (m : Int) - 1 := wrap64 (by omega) (by omega)
    have c1 : ¬ (i : Int) < (p : Int) := by omega
    have c1' : ¬ i < p := by omega
    have c2 : ¬ (p : Int) + (n : Int) - (m : Int) < (i : Int) := by omega
    have hc : countR b (i : Int) ((i : Int) + (m : Int)) = (0, 0) := by
      have : cnt b i m = 0 := cnt_zero hf.2.2
      simp only [countR, asked_ok hl (show i + m ≤ 1024 by omega), if_true, Int.toNat_natCast]
      rw [show ((i : Int) + (m : Int) - (i : Int)).toNat = m from by omega, this]
      rfl
    have k1 := count_ret W b (i : Int) ((i : Int) + (m : Int))
    rw [hc] at k1
    have hr2 : runR b (p : Int) ((i : Int) + (m : Int) - 1) (m : Int) = (0, 5) := by
      have ha : askedR b (p : Int) ((i : Int) + (m : Int) - 1) = 0 := by
        unfold askedR; rw [if_pos hl, if_neg (by omega)]
      have hz : ¬ (m : Int) < 1 := by omega
      simp only [runR, ha, if_true, hz, if_false, Int.toNat_natCast]
      rw [show ((i : Int) + (m : Int) - 1).toNat = i + m - 1 from by omega]
      refine runV_none fun j hj => ?_
      have h1 := hj.1
      have h2 := hj.2.1
      have := hmin j ⟨h1, by omega, hj.2.2⟩
      omega
    have k2 := run_ret W b (p : Int) ((i : Int) + (m : Int) - 1) (m : Int)
    rw [hr2] at k2
    have k0 := run_ret W b (p : Int) ((p : Int) + (n : Int)) (m : Int)
    rw [hr] at k0
    simp [Wc_seq, Wc_block, Wc_scope, Wc_skip, Wc_label, Wc_exit, Wc_ret, Wc_loop, Wc_region, Wc_cond, Nx_nil, Nx_seq, Nx_seq_exit, Nx_seq_ret, Nx_block, Nx_block_exit, Nx_block_ret, Rg_nil, Rg_cons, RgE, effA, calleeA, wantedA, enterN, ev, ofV, ofVn, putE, evalN, aBin, aInt_add, aInt_sub, aInt_mul, aInt_quo, aInt_rem, aInt_eql, aInt_neq, aInt_lss, aInt_leq, aInt_gtr, aInt_geq, aExtract, finQ_ret, resOf, kq_eq, thenQ_normal, thenQ_exit, thenQ_ret, bx, fa0, fa1, fa2, l0, l1, l2]
    refine callK_Ret (by simp [fn15]) k0 ?_
    simp [Wc_seq, Wc_block, Wc_scope, Wc_skip, Wc_label, Wc_exit, Wc_ret, Wc_loop, Wc_region, Wc_cond, Nx_nil, Nx_seq, Nx_seq_exit, Nx_seq_ret, Nx_block, Nx_block_exit, Nx_block_ret, Rg_nil, Rg_cons, RgE, effA, calleeA, wantedA, enterN, ev, ofV, ofVn, putE, evalN, aBin, aInt_add, aInt_sub, aInt_mul, aInt_quo, aInt_rem, aInt_eql, aInt_neq, aInt_lss, aInt_leq, aInt_gtr, aInt_geq, aExtract, finQ_ret, resOf, kq_eq, thenQ_normal, thenQ_exit, thenQ_ret, fa0, fa1, fa2, l0, l1, l2, hw1, c1, c1', c2, hw2]
    refine callK_Ret (by simp [fn16]) k1 ?_
    simp [Wc_seq, Wc_block, Wc_scope, Wc_skip, Wc_label, Wc_exit, Wc_ret, Wc_loop, Wc_region, Wc_cond, Nx_nil, Nx_seq, Nx_seq_exit, Nx_seq_ret, Nx_block, Nx_block_exit, Nx_block_ret, Rg_nil, Rg_cons, RgE, effA, calleeA, wantedA, enterN, ev, ofV, ofVn, putE, evalN, aBin, aInt_add, aInt_sub, aInt_mul, aInt_quo, aInt_rem, aInt_eql, aInt_neq, aInt_lss, aInt_leq, aInt_gtr, aInt_geq, aExtract, finQ_ret, resOf, kq_eq, thenQ_normal, thenQ_exit, thenQ_ret, fa0, fa1, fa2, l0, l1, l2, hw2, hw3]
    refine callK_Ret (by simp [fn15]) k2 ?_
    simp [Wc_seq, Wc_block, Wc_scope, Wc_skip, Wc_label, Wc_exit, Wc_ret, Wc_loop, Wc_region, Wc_cond, Nx_nil, Nx_seq, Nx_seq_exit, Nx_seq_ret, Nx_block, Nx_block_exit, Nx_block_ret, Rg_nil, Rg_cons, RgE, effA, calleeA, wantedA, enterN, ev, ofV, ofVn, putE, evalN, aBin, aInt_add, aInt_sub, aInt_mul, aInt_quo, aInt_rem, aInt_eql, aInt_neq, aInt_lss, aInt_leq, aInt_gtr, aInt_geq, aExtract, finQ_ret, resOf, kq_eq, thenQ_normal, thenQ_exit, thenQ_ret]
    refine callK_RetA (by simp [fn12]) (speaks_ret W) fun h2 => ?_
    simp [Wc_seq, Wc_block, Wc_scope, Wc_skip, Wc_label, Wc_exit, Wc_ret, Wc_loop, Wc_region, Wc_cond, Nx_nil, Nx_seq, Nx_seq_exit, Nx_seq_ret, Nx_block, Nx_block_exit, Nx_block_ret, Rg_nil, Rg_cons, RgE, effA, calleeA, wantedA, enterN, ev, ofV, ofVn, putE, evalN, aBin, aInt_add, aInt_sub, aInt_mul, aInt_quo, aInt_rem, aInt_eql, aInt_neq, aInt_lss, aInt_leq, aInt_gtr, aInt_geq, aExtract, finQ_ret, resOf, kq_eq, thenQ_normal, thenQ_exit, thenQ_ret]
  · simp [Wc_seq, Wc_block, Wc_scope, Wc_skip, Wc_label, Wc_exit, Wc_ret, Wc_loop, Wc_region, Wc_cond, Nx_nil, Nx_seq, Nx_seq_exit, Nx_seq_ret, Nx_block, Nx_block_exit, Nx_block_ret, Rg_nil, Rg_cons, RgE, effA, calleeA, wantedA, enterN, ev, ofV, ofVn, putE, evalN, aBin, aInt_add, aInt_sub, aInt_mul, aInt_quo, aInt_rem, aInt_eql, aInt_neq, aInt_lss, aInt_leq, aInt_gtr, aInt_geq, aExtract, finQ_ret, resOf, kq_eq, thenQ_normal, thenQ_exit, thenQ_ret, bx, fa0, fa1, fa2, l0, l1, l2]
    refine callK_Ret (by simp [fn15]) (run_ret W b x y c) ?_
    simp [Wc_seq, Wc_block, Wc_scope, Wc_skip, Wc_label, Wc_exit, Wc_ret, Wc_loop, Wc_region, Wc_cond, Nx_nil, Nx_seq, Nx_seq_exit, Nx_seq_ret, Nx_block, Nx_block_exit, Nx_block_ret, Rg_nil, Rg_cons, RgE, effA, calleeA, wantedA, enterN, ev, ofV, ofVn, putE, evalN, aBin, aInt_add, aInt_sub, aInt_mul, aInt_quo, aInt_rem, aInt_eql, aInt_neq, aInt_lss, aInt_leq, aInt_gtr, aInt_geq, aExtract, finQ_ret, resOf, kq_eq, thenQ_normal, thenQ_exit, thenQ_ret, he, runR_nonzero he]
    refine callK_RetA (by simp [fn12]) (speaks_ret W) fun h2 => ?_
    simp [Wc_seq, Wc_block, Wc_scope, Wc_skip, Wc_label, Wc_exit, Wc_ret, Wc_loop, Wc_region, Wc_cond, Nx_nil, Nx_seq, Nx_seq_exit, Nx_seq_ret, Nx_block, Nx_block_exit, Nx_block_ret, Rg_nil, Rg_cons, RgE, effA, calleeA, wantedA, enterN, ev, ofV, ofVn, putE, evalN, aBin, aInt_add, aInt_sub, aInt_mul, aInt_quo, aInt_rem, aInt_eql, aInt_neq, aInt_lss, aInt_leq, aInt_gtr, aInt_geq, aExtract, finQ_ret, resOf, kq_eq, thenQ_normal, thenQ_exit, thenQ_ret]

end Go.Proofs.Ytoioomplhebadaa.Ax
