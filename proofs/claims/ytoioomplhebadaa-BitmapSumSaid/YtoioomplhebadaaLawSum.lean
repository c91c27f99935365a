/- Bitmaps: the law of sums. -/
import Derived.Test.YtoioomplhebadaaFields
set_option linter.unusedVariables false
set_option linter.unusedSimpArgs false
namespace Go.Proofs.Ytoioomplhebadaa.Ax
open Go.RowKit

set_option maxHeartbeats 4000000 in
set_option maxRecDepth 20000 in
theorem sum_ret (W : World) (b : List UInt8) (x y c mid : Int) : RetA (CC W) 7 [.str b, .agg [.int .i64 x, .int .i64 y, .int .i64 c], .int .i64 mid] (.bool true) := by
  intro h
  refine acall_fin (cc_ok W) (fn7 W) (by simp only [Try.f7]; rfl) rfl rfl ?_
  have hg : (h.push (.cells [.int .i64 x, .int .i64 y, .int .i64 c] 34)).get h.next = some (.cells [.int .i64 x, .int .i64 y, .int .i64 c] 34) := by simp
  have l0 := ld3 (W := W) (o := 0) hg rfl
  have l1 := ld3 (W := W) (o := 1) hg rfl
  have l2 := ld3 (W := W) (o := 2) hg rfl
  simp [Wc_seq, Wc_block, Wc_scope, Wc_skip, Wc_label, Wc_exit, Wc_ret, Wc_loop, Wc_region, Wc_cond, Nx_nil, Nx_seq, Nx_seq_exit, Nx_seq_ret, Nx_block, Nx_block_exit, Nx_block_ret, Rg_nil, Rg_cons, RgE, effA, calleeA, wantedA, enterN, ev, ofV, ofVn, putE, evalN, aBin, aInt_add, aInt_sub, aInt_mul, aInt_quo, aInt_rem, aInt_eql, aInt_neq, aInt_lss, aInt_leq, aInt_gtr, aInt_geq, aExtract, finQ_ret, resOf, kq_eq, thenQ_normal, thenQ_exit, thenQ_ret, bx, fa0, fa1, fa2, l0, l1, l2]
  refine callK_Ret (by simp [fn16]) (count_ret W b x y) ?_
  by_cases he : (countR b x y).2 = 0
  · by_cases h1 : mid < x
    · simp [Wc_seq, Wc_block, Wc_scope, Wc_skip, Wc_label, Wc_exit, Wc_ret, Wc_loop, Wc_region, Wc_cond, Nx_nil, Nx_seq, Nx_seq_exit, Nx_seq_ret, Nx_block, Nx_block_exit, Nx_block_ret, Rg_nil, Rg_cons, RgE, effA, calleeA, wantedA, enterN, ev, ofV, ofVn, putE, evalN, aBin, aInt_add, aInt_sub, aInt_mul, aInt_quo, aInt_rem, aInt_eql, aInt_neq, aInt_lss, aInt_leq, aInt_gtr, aInt_geq, aExtract, finQ_ret, resOf, kq_eq, thenQ_normal, thenQ_exit, thenQ_ret, fa0, fa1, fa2, l0, l1, l2, he, h1]
      refine callK_RetA (by simp [fn12]) (speaks_ret W) fun h2 => ?_
      simp [Wc_seq, Wc_block, Wc_scope, Wc_skip, Wc_label, Wc_exit, Wc_ret, Wc_loop, Wc_region, Wc_cond, Nx_nil, Nx_seq, Nx_seq_exit, Nx_seq_ret, Nx_block, Nx_block_exit, Nx_block_ret, Rg_nil, Rg_cons, RgE, effA, calleeA, wantedA, enterN, ev, ofV, ofVn, putE, evalN, aBin, aInt_add, aInt_sub, aInt_mul, aInt_quo, aInt_rem, aInt_eql, aInt_neq, aInt_lss, aInt_leq, aInt_gtr, aInt_geq, aExtract, finQ_ret, resOf, kq_eq, thenQ_normal, thenQ_exit, thenQ_ret]
    · by_cases h2 : y < mid
      · simp [Wc_seq, Wc_block, Wc_scope, Wc_skip, Wc_label, Wc_exit, Wc_ret, Wc_loop, Wc_region, Wc_cond, Nx_nil, Nx_seq, Nx_seq_exit, Nx_seq_ret, Nx_block, Nx_block_exit, Nx_block_ret, Rg_nil, Rg_cons, RgE, effA, calleeA, wantedA, enterN, ev, ofV, ofVn, putE, evalN, aBin, aInt_add, aInt_sub, aInt_mul, aInt_quo, aInt_rem, aInt_eql, aInt_neq, aInt_lss, aInt_leq, aInt_gtr, aInt_geq, aExtract, finQ_ret, resOf, kq_eq, thenQ_normal, thenQ_exit, thenQ_ret, fa0, fa1, fa2, l0, l1, l2, he, h1, h2]
        refine callK_RetA (by simp [fn12]) (speaks_ret W) fun h2 => ?_
        simp [Wc_seq, Wc_block, Wc_scope, Wc_skip, Wc_label, Wc_exit, Wc_ret, Wc_loop, Wc_region, Wc_cond, Nx_nil, Nx_seq, Nx_seq_exit, Nx_seq_ret, Nx_block, Nx_block_exit, Nx_block_ret, Rg_nil, Rg_cons, RgE, effA, calleeA, wantedA, enterN, ev, ofV, ofVn, putE, evalN, aBin, aInt_add, aInt_sub, aInt_mul, aInt_quo, aInt_rem, aInt_eql, aInt_neq, aInt_lss, aInt_leq, aInt_gtr, aInt_geq, aExtract, finQ_ret, resOf, kq_eq, thenQ_normal, thenQ_exit, thenQ_ret]
      · obtain ⟨hl, p, n, rfl, rfl, hpn⟩ := asked_zero (countR_zero he)
        obtain ⟨k, rfl⟩ : ∃ k : Nat, mid = (p : Int) + (k : Int) := ⟨(mid - p).toNat, by omega⟩
        obtain ⟨r, rfl⟩ : ∃ r, n = k + r := ⟨n - k, by omega⟩
        have k1 := count_ret W b (p : Int) ((p : Int) + (k : Int))
        rw [countR_at hl (by omega)] at k1
        have k2 := count_ret W b ((p : Int) + (k : Int)) ((p : Int) + ((k + r : Nat) : Int))
        have e2 : countR b ((p : Int) + (k : Int)) ((p : Int) + ((k + r : Nat) : Int)) = ((cnt b (p + k) r : Int), 0) := by
          have := countR_at (b := b) (p := p + k) (k := r) hl (by omega)
          rw [← this]
          congr 1
          omega
        rw [e2] at k2
        have e0 := countR_at (b := b) (p := p) (k := k + r) hl (by omega)
        have hwn : IntKind.i64.wrap ((p : Int) + ((k + r : Nat) : Int) - (p : Int)) = ((k + r : Nat) : Int) := by
          rw [wrap64 (by omega) (by omega)]; omega
        have hle1 := cnt_le b p k
        have hle2 := cnt_le b (p + k) r
        have hws : IntKind.i64.wrap ((cnt b p k : Int) + (cnt b (p + k) r : Int)) = (cnt b p (k + r) : Int) := by
          rw [wrap64 (by omega) (by omega), cnt_add]; omega
        have hh : ((runR b (p : Int) ((p : Int) + ((k + r : Nat) : Int)) 1).2 == 0) = decide ((cnt b p (k + r) : Int) < ((k + r : Nat) : Int)) := by
          have ha := asked_ok (b := b) (p := p) (n := k + r) hl (by omega)
          have hz : ¬ (1 : Int) < 1 := by omega
          simp only [runR, ha, if_true, hz, if_false, Int.toNat_natCast]
          rw [show ((p : Int) + ((k + r : Nat) : Int)).toNat = p + (k + r) from by omega, show (1 : Int).toNat = 1 from rfl]
          rw [Bool.eq_iff_iff]
          simp only [beq_iff_eq, decide_eq_true_eq]
          have hfull := cnt_full (b := b) (x := p) (k := k + r)
          constructor
          · intro hz0
            obtain ⟨i, _, hfi, _⟩ := runV_zero hz0
            have : cnt b p (k + r) < k + r := hfull.2 ⟨i - p, by have := hfi.1; have := hfi.2.1; omega, by
              have h3 := hfi.2.2 0 (by omega)
              have h4 := hfi.1
              rw [show p + (i - p) = i + 0 from by omega]; exact h3⟩
            omega
          · intro hlt
            obtain ⟨j, hj, hjb⟩ := hfull.1 (by omega)
            rcases Classical.em ((runV b p (p + (k + r)) 1).2 = 0) with h5 | h5
            · exact h5
            · exact absurd (⟨by omega, by omega, fun q hq => by
                rw [show p + j + q = p + j from by omega]; exact hjb⟩ : FreeAt b p (p + (k + r)) 1 (p + j)) ((runV_five h5).2 (p + j))
        generalize hn : ((k + r : Nat) : Int) = nn at *
        simp [Wc_seq, Wc_block, Wc_scope, Wc_skip, Wc_label, Wc_exit, Wc_ret, Wc_loop, Wc_region, Wc_cond, Nx_nil, Nx_seq, Nx_seq_exit, Nx_seq_ret, Nx_block, Nx_block_exit, Nx_block_ret, Rg_nil, Rg_cons, RgE, effA, calleeA, wantedA, enterN, ev, ofV, ofVn, putE, evalN, aBin, aInt_add, aInt_sub, aInt_mul, aInt_quo, aInt_rem, aInt_eql, aInt_neq, aInt_lss, aInt_leq, aInt_gtr, aInt_geq, aExtract, finQ_ret, resOf, kq_eq, thenQ_normal, thenQ_exit, thenQ_ret, fa0, fa1, fa2, l0, l1, l2, he, h1, h2]
        refine callK_Ret (by simp [fn16]) k1 ?_
        simp [Wc_seq, Wc_block, Wc_scope, Wc_skip, Wc_label, Wc_exit, Wc_ret, Wc_loop, Wc_region, Wc_cond, Nx_nil, Nx_seq, Nx_seq_exit, Nx_seq_ret, Nx_block, Nx_block_exit, Nx_block_ret, Rg_nil, Rg_cons, RgE, effA, calleeA, wantedA, enterN, ev, ofV, ofVn, putE, evalN, aBin, aInt_add, aInt_sub, aInt_mul, aInt_quo, aInt_rem, aInt_eql, aInt_neq, aInt_lss, aInt_leq, aInt_gtr, aInt_geq, aExtract, finQ_ret, resOf, kq_eq, thenQ_normal, thenQ_exit, thenQ_ret, fa0, fa1, fa2, l0, l1, l2]
        refine callK_Ret (by simp [fn16]) k2 ?_
        simp [Wc_seq, Wc_block, Wc_scope, Wc_skip, Wc_label, Wc_exit, Wc_ret, Wc_loop, Wc_region, Wc_cond, Nx_nil, Nx_seq, Nx_seq_exit, Nx_seq_ret, Nx_block, Nx_block_exit, Nx_block_ret, Rg_nil, Rg_cons, RgE, effA, calleeA, wantedA, enterN, ev, ofV, ofVn, putE, evalN, aBin, aInt_add, aInt_sub, aInt_mul, aInt_quo, aInt_rem, aInt_eql, aInt_neq, aInt_lss, aInt_leq, aInt_gtr, aInt_geq, aExtract, finQ_ret, resOf, kq_eq, thenQ_normal, thenQ_exit, thenQ_ret, fa0, fa1, fa2, l0, l1, l2]
        refine callK_Ret (by simp [fn13]) (least_ret W b (p : Int) ((p : Int) + nn)) ?_
        simp [Wc_seq, Wc_block, Wc_scope, Wc_skip, Wc_label, Wc_exit, Wc_ret, Wc_loop, Wc_region, Wc_cond, Nx_nil, Nx_seq, Nx_seq_exit, Nx_seq_ret, Nx_block, Nx_block_exit, Nx_block_ret, Rg_nil, Rg_cons, RgE, effA, calleeA, wantedA, enterN, ev, ofV, ofVn, putE, evalN, aBin, aInt_add, aInt_sub, aInt_mul, aInt_quo, aInt_rem, aInt_eql, aInt_neq, aInt_lss, aInt_leq, aInt_gtr, aInt_geq, aExtract, finQ_ret, resOf, kq_eq, thenQ_normal, thenQ_exit, thenQ_ret, fa0, fa1, fa2, l0, l1, l2, e0, hwn, hws, hh, aEq, kind4, kindEq1, aEq1]
        refine callK_RetA (by simp [fn12]) (speaks_ret W) fun h2 => ?_
        simp [Wc_seq, Wc_block, Wc_scope, Wc_skip, Wc_label, Wc_exit, Wc_ret, Wc_loop, Wc_region, Wc_cond, Nx_nil, Nx_seq, Nx_seq_exit, Nx_seq_ret, Nx_block, Nx_block_exit, Nx_block_ret, Rg_nil, Rg_cons, RgE, effA, calleeA, wantedA, enterN, ev, ofV, ofVn, putE, evalN, aBin, aInt_add, aInt_sub, aInt_mul, aInt_quo, aInt_rem, aInt_eql, aInt_neq, aInt_lss, aInt_leq, aInt_gtr, aInt_geq, aExtract, finQ_ret, resOf, kq_eq, thenQ_normal, thenQ_exit, thenQ_ret]
  · have hne : ((countR b x y).2 != 0) = true := by simp [he]
    simp [Wc_seq, Wc_block, Wc_scope, Wc_skip, Wc_label, Wc_exit, Wc_ret, Wc_loop, Wc_region, Wc_cond, Nx_nil, Nx_seq, Nx_seq_exit, Nx_seq_ret, Nx_block, Nx_block_exit, Nx_block_ret, Rg_nil, Rg_cons, RgE, effA, calleeA, wantedA, enterN, ev, ofV, ofVn, putE, evalN, aBin, aInt_add, aInt_sub, aInt_mul, aInt_quo, aInt_rem, aInt_eql, aInt_neq, aInt_lss, aInt_leq, aInt_gtr, aInt_geq, aExtract, finQ_ret, resOf, kq_eq, thenQ_normal, thenQ_exit, thenQ_ret, fa0, fa1, fa2, l0, l1, l2, he, hne]
    refine callK_RetA (by simp [fn12]) (speaks_ret W) fun h2 => ?_
    simp [Wc_seq, Wc_block, Wc_scope, Wc_skip, Wc_label, Wc_exit, Wc_ret, Wc_loop, Wc_region, Wc_cond, Nx_nil, Nx_seq, Nx_seq_exit, Nx_seq_ret, Nx_block, Nx_block_exit, Nx_block_ret, Rg_nil, Rg_cons, RgE, effA, calleeA, wantedA, enterN, ev, ofV, ofVn, putE, evalN, aBin, aInt_add, aInt_sub, aInt_mul, aInt_quo, aInt_rem, aInt_eql, aInt_neq, aInt_lss, aInt_leq, aInt_gtr, aInt_geq, aExtract, finQ_ret, resOf, kq_eq, thenQ_normal, thenQ_exit, thenQ_ret]

end Go.Proofs.Ytoioomplhebadaa.Ax
