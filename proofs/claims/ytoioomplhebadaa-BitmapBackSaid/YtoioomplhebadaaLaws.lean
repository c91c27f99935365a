/- Bitmaps: the five laws return true. -/
import Derived.Test.YtoioomplhebadaaSpeaks
set_option linter.unusedVariables false
set_option linter.unusedSimpArgs false
namespace Go.Proofs.Ytoioomplhebadaa.Ax
open Go.RowKit

theorem has_wf (b : List UInt8) (i : Int) : IntKind.i64.wrap (hasR b i).2 = (hasR b i).2 := by
  unfold hasR; split <;> (try split) <;> exact wrap64 (by simp) (by simp)
theorem set_wf (b : List UInt8) (i : Int) (on : Bool) : IntKind.i64.wrap (setR b i on).2 = (setR b i on).2 := by
  unfold setR; split
  · exact wrap64 (by simp) (by simp)
  · exact has_wf b i
theorem asked_wf (b : List UInt8) (x y : Int) : IntKind.i64.wrap (askedR b x y) = askedR b x y := by
  unfold askedR; split <;> (try split) <;> exact wrap64 (by simp) (by simp)
theorem count_wf (b : List UInt8) (x y : Int) : IntKind.i64.wrap (countR b x y).2 = (countR b x y).2 := by
  unfold countR; split
  · exact wrap64 (by simp) (by simp)
  · exact asked_wf b x y
theorem runV_wf (b : List UInt8) (p q m : Nat) : IntKind.i64.wrap (runV b p q m).2 = (runV b p q m).2 := by
  unfold runV; split <;> exact wrap64 (by simp) (by simp)
theorem run_wf (b : List UInt8) (x y c : Int) : IntKind.i64.wrap (runR b x y c).2 = (runR b x y c).2 := by
  unfold runR; split
  · split
    · exact wrap64 (by simp) (by simp)
    · exact runV_wf b _ _ _
  · exact asked_wf b x y

set_option maxRecDepth 20000 in
theorem bits_ret (W : World) (b : List UInt8) (i : Int) (on : Bool) : RetA (CC W) 3 [.str b, .int .i64 i, .bool on] (.bool true) := by
  intro h
  refine acall_fin (cc_ok W) (fn3 W) (by simp only [Try.f3]; rfl) rfl rfl ?_
  simp [Wc_seq, Wc_block, Wc_scope, Wc_skip, Wc_label, Wc_exit, Wc_ret, Wc_loop, Wc_region, Wc_cond, Nx_nil, Nx_seq, Nx_seq_exit, Nx_seq_ret, Nx_block, Nx_block_exit, Nx_block_ret, Rg_nil, Rg_cons, RgE, effA, calleeA, wantedA, enterN, ev, ofV, ofVn, putE, evalN, aBin, aInt_add, aInt_sub, aInt_mul, aInt_quo, aInt_rem, aInt_eql, aInt_neq, aInt_lss, aInt_leq, aInt_gtr, aInt_geq, aExtract, finQ_ret, resOf, kq_eq, thenQ_normal, thenQ_exit, thenQ_ret]
  refine callK_Ret (by simp [fn8]) (has_ret W b i) ?_
  simp [Wc_seq, Wc_block, Wc_scope, Wc_skip, Wc_label, Wc_exit, Wc_ret, Wc_loop, Wc_region, Wc_cond, Nx_nil, Nx_seq, Nx_seq_exit, Nx_seq_ret, Nx_block, Nx_block_exit, Nx_block_ret, Rg_nil, Rg_cons, RgE, effA, calleeA, wantedA, enterN, ev, ofV, ofVn, putE, evalN, aBin, aInt_add, aInt_sub, aInt_mul, aInt_quo, aInt_rem, aInt_eql, aInt_neq, aInt_lss, aInt_leq, aInt_gtr, aInt_geq, aExtract, finQ_ret, resOf, kq_eq, thenQ_normal, thenQ_exit, thenQ_ret]
  refine callK_Ret (by simp [fn9]) (Has_ret W b i) ?_
  simp [Wc_seq, Wc_block, Wc_scope, Wc_skip, Wc_label, Wc_exit, Wc_ret, Wc_loop, Wc_region, Wc_cond, Nx_nil, Nx_seq, Nx_seq_exit, Nx_seq_ret, Nx_block, Nx_block_exit, Nx_block_ret, Rg_nil, Rg_cons, RgE, effA, calleeA, wantedA, enterN, ev, ofV, ofVn, putE, evalN, aBin, aInt_add, aInt_sub, aInt_mul, aInt_quo, aInt_rem, aInt_eql, aInt_neq, aInt_lss, aInt_leq, aInt_gtr, aInt_geq, aExtract, finQ_ret, resOf, kq_eq, thenQ_normal, thenQ_exit, thenQ_ret]
  refine callK_RetA (by simp [fn10]) (set_ret W b i on) fun h1 => ?_
  simp [Wc_seq, Wc_block, Wc_scope, Wc_skip, Wc_label, Wc_exit, Wc_ret, Wc_loop, Wc_region, Wc_cond, Nx_nil, Nx_seq, Nx_seq_exit, Nx_seq_ret, Nx_block, Nx_block_exit, Nx_block_ret, Rg_nil, Rg_cons, RgE, effA, calleeA, wantedA, enterN, ev, ofV, ofVn, putE, evalN, aBin, aInt_add, aInt_sub, aInt_mul, aInt_quo, aInt_rem, aInt_eql, aInt_neq, aInt_lss, aInt_leq, aInt_gtr, aInt_geq, aExtract, finQ_ret, resOf, kq_eq, thenQ_normal, thenQ_exit, thenQ_ret]
  refine callK_RetA (by simp [fn11]) (Set_ret W b i on) fun h2 => ?_
  simp [Wc_seq, Wc_block, Wc_scope, Wc_skip, Wc_label, Wc_exit, Wc_ret, Wc_loop, Wc_region, Wc_cond, Nx_nil, Nx_seq, Nx_seq_exit, Nx_seq_ret, Nx_block, Nx_block_exit, Nx_block_ret, Rg_nil, Rg_cons, RgE, effA, calleeA, wantedA, enterN, ev, ofV, ofVn, putE, evalN, aBin, aInt_add, aInt_sub, aInt_mul, aInt_quo, aInt_rem, aInt_eql, aInt_neq, aInt_lss, aInt_leq, aInt_gtr, aInt_geq, aExtract, finQ_ret, resOf, kq_eq, thenQ_normal, thenQ_exit, thenQ_ret, aConv, kind22, kind3, has_wf, set_wf, aEq, aEq1, aStr, kindEq1, kind4]

  refine callK_RetA (by simp [fn12]) (speaks_ret W) fun h2 => ?_
  simp [Wc_seq, Wc_block, Wc_scope, Wc_skip, Wc_label, Wc_exit, Wc_ret, Wc_loop, Wc_region, Wc_cond, Nx_nil, Nx_seq, Nx_seq_exit, Nx_seq_ret, Nx_block, Nx_block_exit, Nx_block_ret, Rg_nil, Rg_cons, RgE, effA, calleeA, wantedA, enterN, ev, ofV, ofVn, putE, evalN, aBin, aInt_add, aInt_sub, aInt_mul, aInt_quo, aInt_rem, aInt_eql, aInt_neq, aInt_lss, aInt_leq, aInt_gtr, aInt_geq, aExtract, finQ_ret, resOf, kq_eq, thenQ_normal, thenQ_exit, thenQ_ret]

end Go.Proofs.Ytoioomplhebadaa.Ax
