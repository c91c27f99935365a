/- What the other statements' functions give. -/
import Derived.Test.YtkgnhobaclngkaaDoorLaws
import Derived.Test.YtkgnhobaclngkaaDoorPlain
set_option linter.unusedVariables false
set_option linter.unusedSimpArgs false
namespace Go.Proofs.YtkgnhobaclngkaaDoor.Ax
open Go.RowKit

set_option maxHeartbeats 4000000 in
set_option maxRecDepth 20000 in
theorem joins_ret (W : World) (h : AH) (va vb : AV) (a b : List (List UInt8)) (ha : StrS W h va a) (hb : StrS W h vb b) (hla : a.length < 8796093022207) (hlb : b.length < 8796093022207) (hsm : ∀ x ∈ a, x.length < 9223372036854775808) :
    ACall (CC W) 4 [va, vb] h (fun v _ => v = .bool true) (fun _ _ => False) := by
  refine acall_fin (cc_ok W) (fn4 W) (by simp only [Tryd.f4]; rfl) rfl rfl ?_
  simp [Wc_seq, Wc_block, Wc_scope, Wc_skip, Wc_label, Wc_exit, Wc_ret, Wc_loop, Wc_region, Wc_cond, Nx_nil, Nx_seq, Nx_seq_exit, Nx_seq_ret, Nx_block, Nx_block_exit, Nx_block_ret, Rg_nil, Rg_cons, RgE, effA, calleeA, wantedA, enterN, ev, ofV, ofVn, putE, evalN, aBin, aInt_add, aInt_sub, aInt_mul, aInt_quo, aInt_rem, aInt_eql, aInt_neq, aInt_lss, aInt_leq, aInt_gtr, aInt_geq, aExtract, finQ_ret, resOf, extU, kq_eq, thenQ_normal, thenQ_exit, thenQ_ret]
  refine callK_RetQ (by simp [fn17]) (join_ret W h va a ha hla) fun v h1 hk1 hv => ?_
  subst hv
  have ha1 := ha.keeps hk1
  have hb1 := hb.keeps hk1
  simp [Wc_seq, Wc_block, Wc_scope, Wc_skip, Wc_label, Wc_exit, Wc_ret, Wc_loop, Wc_region, Wc_cond, Nx_nil, Nx_seq, Nx_seq_exit, Nx_seq_ret, Nx_block, Nx_block_exit, Nx_block_ret, Rg_nil, Rg_cons, RgE, effA, calleeA, wantedA, enterN, ev, ofV, ofVn, putE, evalN, aBin, aInt_add, aInt_sub, aInt_mul, aInt_quo, aInt_rem, aInt_eql, aInt_neq, aInt_lss, aInt_leq, aInt_gtr, aInt_geq, aExtract, finQ_ret, resOf, extU, kq_eq, thenQ_normal, thenQ_exit, thenQ_ret]
  refine callK_RetH (by simp [fn18]) (refJoin_ret W h1 va a ha1 hla hsm) ?_
  simp [Wc_seq, Wc_block, Wc_scope, Wc_skip, Wc_label, Wc_exit, Wc_ret, Wc_loop, Wc_region, Wc_cond, Nx_nil, Nx_seq, Nx_seq_exit, Nx_seq_ret, Nx_block, Nx_block_exit, Nx_block_ret, Rg_nil, Rg_cons, RgE, effA, calleeA, wantedA, enterN, ev, ofV, ofVn, putE, evalN, aBin, aInt_add, aInt_sub, aInt_mul, aInt_quo, aInt_rem, aInt_eql, aInt_neq, aInt_lss, aInt_leq, aInt_gtr, aInt_geq, aExtract, finQ_ret, resOf, extU, kq_eq, thenQ_normal, thenQ_exit, thenQ_ret, aStr]
  refine callK_RetH (by simp [fn19]) (less_ret W h1 va vb a b ha1 hb1 (by omega) (by omega)) ?_
  simp [Wc_seq, Wc_block, Wc_scope, Wc_skip, Wc_label, Wc_exit, Wc_ret, Wc_loop, Wc_region, Wc_cond, Nx_nil, Nx_seq, Nx_seq_exit, Nx_seq_ret, Nx_block, Nx_block_exit, Nx_block_ret, Rg_nil, Rg_cons, RgE, effA, calleeA, wantedA, enterN, ev, ofV, ofVn, putE, evalN, aBin, aInt_add, aInt_sub, aInt_mul, aInt_quo, aInt_rem, aInt_eql, aInt_neq, aInt_lss, aInt_leq, aInt_gtr, aInt_geq, aExtract, finQ_ret, resOf, extU, kq_eq, thenQ_normal, thenQ_exit, thenQ_ret]
  refine callK_RetH (by simp [fn20]) (refLess_ret W h1 va vb a b ha1 hb1 (by omega) (by omega)) ?_
  generalize decide (txtsC a b < 0) = t1
  cases t1
  · simp [Wc_seq, Wc_block, Wc_scope, Wc_skip, Wc_label, Wc_exit, Wc_ret, Wc_loop, Wc_region, Wc_cond, Nx_nil, Nx_seq, Nx_seq_exit, Nx_seq_ret, Nx_block, Nx_block_exit, Nx_block_ret, Rg_nil, Rg_cons, RgE, effA, calleeA, wantedA, enterN, ev, ofV, ofVn, putE, evalN, aBin, aInt_add, aInt_sub, aInt_mul, aInt_quo, aInt_rem, aInt_eql, aInt_neq, aInt_lss, aInt_leq, aInt_gtr, aInt_geq, aExtract, finQ_ret, resOf, extU, kq_eq, thenQ_normal, thenQ_exit, thenQ_ret, aEq, aEq1, aEqIn, isConst, kindEq1, kind4]
    refine callK_RetH (by simp [fn19]) (less_ret W h1 vb va b a hb1 ha1 (by omega) (by omega)) ?_
    simp [Wc_seq, Wc_block, Wc_scope, Wc_skip, Wc_label, Wc_exit, Wc_ret, Wc_loop, Wc_region, Wc_cond, Nx_nil, Nx_seq, Nx_seq_exit, Nx_seq_ret, Nx_block, Nx_block_exit, Nx_block_ret, Rg_nil, Rg_cons, RgE, effA, calleeA, wantedA, enterN, ev, ofV, ofVn, putE, evalN, aBin, aInt_add, aInt_sub, aInt_mul, aInt_quo, aInt_rem, aInt_eql, aInt_neq, aInt_lss, aInt_leq, aInt_gtr, aInt_geq, aExtract, finQ_ret, resOf, extU, kq_eq, thenQ_normal, thenQ_exit, thenQ_ret]
    refine callK_RetH (by simp [fn20]) (refLess_ret W h1 vb va b a hb1 ha1 (by omega) (by omega)) ?_
    generalize decide (txtsC b a < 0) = t2
    cases t2 <;> simp [Wc_seq, Wc_block, Wc_scope, Wc_skip, Wc_label, Wc_exit, Wc_ret, Wc_loop, Wc_region, Wc_cond, Nx_nil, Nx_seq, Nx_seq_exit, Nx_seq_ret, Nx_block, Nx_block_exit, Nx_block_ret, Rg_nil, Rg_cons, RgE, effA, calleeA, wantedA, enterN, ev, ofV, ofVn, putE, evalN, aBin, aInt_add, aInt_sub, aInt_mul, aInt_quo, aInt_rem, aInt_eql, aInt_neq, aInt_lss, aInt_leq, aInt_gtr, aInt_geq, aExtract, finQ_ret, resOf, extU, kq_eq, thenQ_normal, thenQ_exit, thenQ_ret, aEq, aEq1, aEqIn, isConst, kindEq1, kind4]
    all_goals
      refine callK_RetX (by simp [fn16]) (speaks_ret W) fun h6 hk6 => ?_
      simp [Wc_seq, Wc_block, Wc_scope, Wc_skip, Wc_label, Wc_exit, Wc_ret, Wc_loop, Wc_region, Wc_cond, Nx_nil, Nx_seq, Nx_seq_exit, Nx_seq_ret, Nx_block, Nx_block_exit, Nx_block_ret, Rg_nil, Rg_cons, RgE, effA, calleeA, wantedA, enterN, ev, ofV, ofVn, putE, evalN, aBin, aInt_add, aInt_sub, aInt_mul, aInt_quo, aInt_rem, aInt_eql, aInt_neq, aInt_lss, aInt_leq, aInt_gtr, aInt_geq, aExtract, finQ_ret, resOf, extU, kq_eq, thenQ_normal, thenQ_exit, thenQ_ret]
  · simp [Wc_seq, Wc_block, Wc_scope, Wc_skip, Wc_label, Wc_exit, Wc_ret, Wc_loop, Wc_region, Wc_cond, Nx_nil, Nx_seq, Nx_seq_exit, Nx_seq_ret, Nx_block, Nx_block_exit, Nx_block_ret, Rg_nil, Rg_cons, RgE, effA, calleeA, wantedA, enterN, ev, ofV, ofVn, putE, evalN, aBin, aInt_add, aInt_sub, aInt_mul, aInt_quo, aInt_rem, aInt_eql, aInt_neq, aInt_lss, aInt_leq, aInt_gtr, aInt_geq, aExtract, finQ_ret, resOf, extU, kq_eq, thenQ_normal, thenQ_exit, thenQ_ret, aEq, aEq1, aEqIn, isConst, kindEq1, kind4]
    refine callK_RetH (by simp [fn19]) (less_ret W h1 vb va b a hb1 ha1 (by omega) (by omega)) ?_
    simp [Wc_seq, Wc_block, Wc_scope, Wc_skip, Wc_label, Wc_exit, Wc_ret, Wc_loop, Wc_region, Wc_cond, Nx_nil, Nx_seq, Nx_seq_exit, Nx_seq_ret, Nx_block, Nx_block_exit, Nx_block_ret, Rg_nil, Rg_cons, RgE, effA, calleeA, wantedA, enterN, ev, ofV, ofVn, putE, evalN, aBin, aInt_add, aInt_sub, aInt_mul, aInt_quo, aInt_rem, aInt_eql, aInt_neq, aInt_lss, aInt_leq, aInt_gtr, aInt_geq, aExtract, finQ_ret, resOf, extU, kq_eq, thenQ_normal, thenQ_exit, thenQ_ret]
    refine callK_RetH (by simp [fn20]) (refLess_ret W h1 vb va b a hb1 ha1 (by omega) (by omega)) ?_
    generalize decide (txtsC b a < 0) = t2
    cases t2 <;> simp [Wc_seq, Wc_block, Wc_scope, Wc_skip, Wc_label, Wc_exit, Wc_ret, Wc_loop, Wc_region, Wc_cond, Nx_nil, Nx_seq, Nx_seq_exit, Nx_seq_ret, Nx_block, Nx_block_exit, Nx_block_ret, Rg_nil, Rg_cons, RgE, effA, calleeA, wantedA, enterN, ev, ofV, ofVn, putE, evalN, aBin, aInt_add, aInt_sub, aInt_mul, aInt_quo, aInt_rem, aInt_eql, aInt_neq, aInt_lss, aInt_leq, aInt_gtr, aInt_geq, aExtract, finQ_ret, resOf, extU, kq_eq, thenQ_normal, thenQ_exit, thenQ_ret, aEq, aEq1, aEqIn, isConst, kindEq1, kind4]
    all_goals
      refine callK_RetX (by simp [fn16]) (speaks_ret W) fun h6 hk6 => ?_
      simp [Wc_seq, Wc_block, Wc_scope, Wc_skip, Wc_label, Wc_exit, Wc_ret, Wc_loop, Wc_region, Wc_cond, Nx_nil, Nx_seq, Nx_seq_exit, Nx_seq_ret, Nx_block, Nx_block_exit, Nx_block_ret, Rg_nil, Rg_cons, RgE, effA, calleeA, wantedA, enterN, ev, ofV, ofVn, putE, evalN, aBin, aInt_add, aInt_sub, aInt_mul, aInt_quo, aInt_rem, aInt_eql, aInt_neq, aInt_lss, aInt_leq, aInt_gtr, aInt_geq, aExtract, finQ_ret, resOf, extU, kq_eq, thenQ_normal, thenQ_exit, thenQ_ret]

set_option maxHeartbeats 4000000 in
set_option maxRecDepth 20000 in
theorem belows_ret (W : World) (p q : List UInt8) (hp : p.length < 8796093022207) (hq : q.length < 8796093022207) : RetA (CC W) 5 [.str p, .str q] (.bool true) := by
  intro h
  refine acall_fin (cc_ok W) (fn5 W) (by simp only [Tryd.f5]; rfl) rfl rfl ?_
  simp [Wc_seq, Wc_block, Wc_scope, Wc_skip, Wc_label, Wc_exit, Wc_ret, Wc_loop, Wc_region, Wc_cond, Nx_nil, Nx_seq, Nx_seq_exit, Nx_seq_ret, Nx_block, Nx_block_exit, Nx_block_ret, Rg_nil, Rg_cons, RgE, effA, calleeA, wantedA, enterN, ev, ofV, ofVn, putE, evalN, aBin, aInt_add, aInt_sub, aInt_mul, aInt_quo, aInt_rem, aInt_eql, aInt_neq, aInt_lss, aInt_leq, aInt_gtr, aInt_geq, aExtract, finQ_ret, resOf, extU, kq_eq, thenQ_normal, thenQ_exit, thenQ_ret]
  refine callK_RetX (by simp [fn21]) (below_ret W p q hp hq) fun h1 hk1 => ?_
  simp [Wc_seq, Wc_block, Wc_scope, Wc_skip, Wc_label, Wc_exit, Wc_ret, Wc_loop, Wc_region, Wc_cond, Nx_nil, Nx_seq, Nx_seq_exit, Nx_seq_ret, Nx_block, Nx_block_exit, Nx_block_ret, Rg_nil, Rg_cons, RgE, effA, calleeA, wantedA, enterN, ev, ofV, ofVn, putE, evalN, aBin, aInt_add, aInt_sub, aInt_mul, aInt_quo, aInt_rem, aInt_eql, aInt_neq, aInt_lss, aInt_leq, aInt_gtr, aInt_geq, aExtract, finQ_ret, resOf, extU, kq_eq, thenQ_normal, thenQ_exit, thenQ_ret]
  refine callK_RetX (by simp [fn22]) (refBelow_ret W p q hp hq) fun h2 hk2 => ?_
  generalize belowR p q = t
  obtain ⟨t1, t2⟩ := t
  cases t1 <;> simp [Wc_seq, Wc_block, Wc_scope, Wc_skip, Wc_label, Wc_exit, Wc_ret, Wc_loop, Wc_region, Wc_cond, Nx_nil, Nx_seq, Nx_seq_exit, Nx_seq_ret, Nx_block, Nx_block_exit, Nx_block_ret, Rg_nil, Rg_cons, RgE, effA, calleeA, wantedA, enterN, ev, ofV, ofVn, putE, evalN, aBin, aInt_add, aInt_sub, aInt_mul, aInt_quo, aInt_rem, aInt_eql, aInt_neq, aInt_lss, aInt_leq, aInt_gtr, aInt_geq, aExtract, finQ_ret, resOf, extU, kq_eq, thenQ_normal, thenQ_exit, thenQ_ret, aEq, aEq1, aEqIn, isConst, kindEq1, kind4]
  all_goals
    refine callK_RetX (by simp [fn16]) (speaks_ret W) fun h6 hk6 => ?_
    simp [Wc_seq, Wc_block, Wc_scope, Wc_skip, Wc_label, Wc_exit, Wc_ret, Wc_loop, Wc_region, Wc_cond, Nx_nil, Nx_seq, Nx_seq_exit, Nx_seq_ret, Nx_block, Nx_block_exit, Nx_block_ret, Rg_nil, Rg_cons, RgE, effA, calleeA, wantedA, enterN, ev, ofV, ofVn, putE, evalN, aBin, aInt_add, aInt_sub, aInt_mul, aInt_quo, aInt_rem, aInt_eql, aInt_neq, aInt_lss, aInt_leq, aInt_gtr, aInt_geq, aExtract, finQ_ret, resOf, extU, kq_eq, thenQ_normal, thenQ_exit, thenQ_ret]

set_option maxHeartbeats 8000000 in
set_option maxRecDepth 20000 in
theorem order_ret (W : World) (h : AH) (va vb vc : AV) (a b c : List (List UInt8)) (ha : StrS W h va a) (hb : StrS W h vb b) (hc : StrS W h vc c) (hla : a.length < 9223372036854775808) (hlb : b.length < 9223372036854775808) (hlc : c.length < 9223372036854775808) :
    ACall (CC W) 7 [va, vb, vc] h (fun v _ => v = .bool true) (fun _ _ => False) := by
  refine acall_fin (cc_ok W) (fn7 W) (by simp only [Tryd.f7]; rfl) rfl rfl ?_
  have hanti := txtsC_ord.anti a b
  have htr := txtsC_ord.trans a b c
  have heq := txtsC_ord.eq a b
  have hself : ¬ txtsC a a < 0 := by rw [(txtsC_ord.eq a a).2 rfl]; decide
  simp [Wc_seq, Wc_block, Wc_scope, Wc_skip, Wc_label, Wc_exit, Wc_ret, Wc_loop, Wc_region, Wc_cond, Nx_nil, Nx_seq, Nx_seq_exit, Nx_seq_ret, Nx_block, Nx_block_exit, Nx_block_ret, Rg_nil, Rg_cons, RgE, effA, calleeA, wantedA, enterN, ev, ofV, ofVn, putE, evalN, aBin, aInt_add, aInt_sub, aInt_mul, aInt_quo, aInt_rem, aInt_eql, aInt_neq, aInt_lss, aInt_leq, aInt_gtr, aInt_geq, aExtract, finQ_ret, resOf, extU, kq_eq, thenQ_normal, thenQ_exit, thenQ_ret]
  refine callK_RetH (by simp [fn19]) (less_ret W h va vb a b ha hb hla hlb) ?_
  by_cases h1 : txtsC a b < 0
  · have h2 : ¬ txtsC b a < 0 := by omega
    simp [Wc_seq, Wc_block, Wc_scope, Wc_skip, Wc_label, Wc_exit, Wc_ret, Wc_loop, Wc_region, Wc_cond, Nx_nil, Nx_seq, Nx_seq_exit, Nx_seq_ret, Nx_block, Nx_block_exit, Nx_block_ret, Rg_nil, Rg_cons, RgE, effA, calleeA, wantedA, enterN, ev, ofV, ofVn, putE, evalN, aBin, aInt_add, aInt_sub, aInt_mul, aInt_quo, aInt_rem, aInt_eql, aInt_neq, aInt_lss, aInt_leq, aInt_gtr, aInt_geq, aExtract, finQ_ret, resOf, extU, kq_eq, thenQ_normal, thenQ_exit, thenQ_ret, h1, h2]
    refine callK_RetH (by simp [fn19]) (less_ret W h vb va b a hb ha hlb hla) ?_
    simp [Wc_seq, Wc_block, Wc_scope, Wc_skip, Wc_label, Wc_exit, Wc_ret, Wc_loop, Wc_region, Wc_cond, Nx_nil, Nx_seq, Nx_seq_exit, Nx_seq_ret, Nx_block, Nx_block_exit, Nx_block_ret, Rg_nil, Rg_cons, RgE, effA, calleeA, wantedA, enterN, ev, ofV, ofVn, putE, evalN, aBin, aInt_add, aInt_sub, aInt_mul, aInt_quo, aInt_rem, aInt_eql, aInt_neq, aInt_lss, aInt_leq, aInt_gtr, aInt_geq, aExtract, finQ_ret, resOf, extU, kq_eq, thenQ_normal, thenQ_exit, thenQ_ret, h1, h2, aUn]
    refine callK_RetH (by simp [fn19]) (less_ret W h va vb a b ha hb hla hlb) ?_
    simp [Wc_seq, Wc_block, Wc_scope, Wc_skip, Wc_label, Wc_exit, Wc_ret, Wc_loop, Wc_region, Wc_cond, Nx_nil, Nx_seq, Nx_seq_exit, Nx_seq_ret, Nx_block, Nx_block_exit, Nx_block_ret, Rg_nil, Rg_cons, RgE, effA, calleeA, wantedA, enterN, ev, ofV, ofVn, putE, evalN, aBin, aInt_add, aInt_sub, aInt_mul, aInt_quo, aInt_rem, aInt_eql, aInt_neq, aInt_lss, aInt_leq, aInt_gtr, aInt_geq, aExtract, finQ_ret, resOf, extU, kq_eq, thenQ_normal, thenQ_exit, thenQ_ret, h1, h2, aUn]
    refine callK_RetH (by simp [fn19]) (less_ret W h va vb a b ha hb hla hlb) ?_
    simp [Wc_seq, Wc_block, Wc_scope, Wc_skip, Wc_label, Wc_exit, Wc_ret, Wc_loop, Wc_region, Wc_cond, Nx_nil, Nx_seq, Nx_seq_exit, Nx_seq_ret, Nx_block, Nx_block_exit, Nx_block_ret, Rg_nil, Rg_cons, RgE, effA, calleeA, wantedA, enterN, ev, ofV, ofVn, putE, evalN, aBin, aInt_add, aInt_sub, aInt_mul, aInt_quo, aInt_rem, aInt_eql, aInt_neq, aInt_lss, aInt_leq, aInt_gtr, aInt_geq, aExtract, finQ_ret, resOf, extU, kq_eq, thenQ_normal, thenQ_exit, thenQ_ret, h1, h2, aUn]
    refine callK_RetH (by simp [fn19]) (less_ret W h vb vc b c hb hc hlb hlc) ?_
    by_cases h3 : txtsC b c < 0
    · have h4 := htr h1 h3
      simp [Wc_seq, Wc_block, Wc_scope, Wc_skip, Wc_label, Wc_exit, Wc_ret, Wc_loop, Wc_region, Wc_cond, Nx_nil, Nx_seq, Nx_seq_exit, Nx_seq_ret, Nx_block, Nx_block_exit, Nx_block_ret, Rg_nil, Rg_cons, RgE, effA, calleeA, wantedA, enterN, ev, ofV, ofVn, putE, evalN, aBin, aInt_add, aInt_sub, aInt_mul, aInt_quo, aInt_rem, aInt_eql, aInt_neq, aInt_lss, aInt_leq, aInt_gtr, aInt_geq, aExtract, finQ_ret, resOf, extU, kq_eq, thenQ_normal, thenQ_exit, thenQ_ret, h3, aUn]
      refine callK_RetH (by simp [fn19]) (less_ret W h va vc a c ha hc hla hlc) ?_
      simp [Wc_seq, Wc_block, Wc_scope, Wc_skip, Wc_label, Wc_exit, Wc_ret, Wc_loop, Wc_region, Wc_cond, Nx_nil, Nx_seq, Nx_seq_exit, Nx_seq_ret, Nx_block, Nx_block_exit, Nx_block_ret, Rg_nil, Rg_cons, RgE, effA, calleeA, wantedA, enterN, ev, ofV, ofVn, putE, evalN, aBin, aInt_add, aInt_sub, aInt_mul, aInt_quo, aInt_rem, aInt_eql, aInt_neq, aInt_lss, aInt_leq, aInt_gtr, aInt_geq, aExtract, finQ_ret, resOf, extU, kq_eq, thenQ_normal, thenQ_exit, thenQ_ret, h4, aUn]
      refine callK_RetH (by simp [fn19]) (less_ret W h va va a a ha ha hla hla) ?_
      simp [Wc_seq, Wc_block, Wc_scope, Wc_skip, Wc_label, Wc_exit, Wc_ret, Wc_loop, Wc_region, Wc_cond, Nx_nil, Nx_seq, Nx_seq_exit, Nx_seq_ret, Nx_block, Nx_block_exit, Nx_block_ret, Rg_nil, Rg_cons, RgE, effA, calleeA, wantedA, enterN, ev, ofV, ofVn, putE, evalN, aBin, aInt_add, aInt_sub, aInt_mul, aInt_quo, aInt_rem, aInt_eql, aInt_neq, aInt_lss, aInt_leq, aInt_gtr, aInt_geq, aExtract, finQ_ret, resOf, extU, kq_eq, thenQ_normal, thenQ_exit, thenQ_ret, hself, aUn]
      refine callK_RetX (by simp [fn16]) (speaks_ret W) fun h6 hk6 => ?_
      simp [Wc_seq, Wc_block, Wc_scope, Wc_skip, Wc_label, Wc_exit, Wc_ret, Wc_loop, Wc_region, Wc_cond, Nx_nil, Nx_seq, Nx_seq_exit, Nx_seq_ret, Nx_block, Nx_block_exit, Nx_block_ret, Rg_nil, Rg_cons, RgE, effA, calleeA, wantedA, enterN, ev, ofV, ofVn, putE, evalN, aBin, aInt_add, aInt_sub, aInt_mul, aInt_quo, aInt_rem, aInt_eql, aInt_neq, aInt_lss, aInt_leq, aInt_gtr, aInt_geq, aExtract, finQ_ret, resOf, extU, kq_eq, thenQ_normal, thenQ_exit, thenQ_ret]
    · simp [Wc_seq, Wc_block, Wc_scope, Wc_skip, Wc_label, Wc_exit, Wc_ret, Wc_loop, Wc_region, Wc_cond, Nx_nil, Nx_seq, Nx_seq_exit, Nx_seq_ret, Nx_block, Nx_block_exit, Nx_block_ret, Rg_nil, Rg_cons, RgE, effA, calleeA, wantedA, enterN, ev, ofV, ofVn, putE, evalN, aBin, aInt_add, aInt_sub, aInt_mul, aInt_quo, aInt_rem, aInt_eql, aInt_neq, aInt_lss, aInt_leq, aInt_gtr, aInt_geq, aExtract, finQ_ret, resOf, extU, kq_eq, thenQ_normal, thenQ_exit, thenQ_ret, h3, aUn]
      refine callK_RetH (by simp [fn19]) (less_ret W h va va a a ha ha hla hla) ?_
      simp [Wc_seq, Wc_block, Wc_scope, Wc_skip, Wc_label, Wc_exit, Wc_ret, Wc_loop, Wc_region, Wc_cond, Nx_nil, Nx_seq, Nx_seq_exit, Nx_seq_ret, Nx_block, Nx_block_exit, Nx_block_ret, Rg_nil, Rg_cons, RgE, effA, calleeA, wantedA, enterN, ev, ofV, ofVn, putE, evalN, aBin, aInt_add, aInt_sub, aInt_mul, aInt_quo, aInt_rem, aInt_eql, aInt_neq, aInt_lss, aInt_leq, aInt_gtr, aInt_geq, aExtract, finQ_ret, resOf, extU, kq_eq, thenQ_normal, thenQ_exit, thenQ_ret, hself, aUn]
      refine callK_RetX (by simp [fn16]) (speaks_ret W) fun h6 hk6 => ?_
      simp [Wc_seq, Wc_block, Wc_scope, Wc_skip, Wc_label, Wc_exit, Wc_ret, Wc_loop, Wc_region, Wc_cond, Nx_nil, Nx_seq, Nx_seq_exit, Nx_seq_ret, Nx_block, Nx_block_exit, Nx_block_ret, Rg_nil, Rg_cons, RgE, effA, calleeA, wantedA, enterN, ev, ofV, ofVn, putE, evalN, aBin, aInt_add, aInt_sub, aInt_mul, aInt_quo, aInt_rem, aInt_eql, aInt_neq, aInt_lss, aInt_leq, aInt_gtr, aInt_geq, aExtract, finQ_ret, resOf, extU, kq_eq, thenQ_normal, thenQ_exit, thenQ_ret]
  · simp [Wc_seq, Wc_block, Wc_scope, Wc_skip, Wc_label, Wc_exit, Wc_ret, Wc_loop, Wc_region, Wc_cond, Nx_nil, Nx_seq, Nx_seq_exit, Nx_seq_ret, Nx_block, Nx_block_exit, Nx_block_ret, Rg_nil, Rg_cons, RgE, effA, calleeA, wantedA, enterN, ev, ofV, ofVn, putE, evalN, aBin, aInt_add, aInt_sub, aInt_mul, aInt_quo, aInt_rem, aInt_eql, aInt_neq, aInt_lss, aInt_leq, aInt_gtr, aInt_geq, aExtract, finQ_ret, resOf, extU, kq_eq, thenQ_normal, thenQ_exit, thenQ_ret, h1, aUn]
    refine callK_RetH (by simp [fn19]) (less_ret W h va vb a b ha hb hla hlb) ?_
    simp [Wc_seq, Wc_block, Wc_scope, Wc_skip, Wc_label, Wc_exit, Wc_ret, Wc_loop, Wc_region, Wc_cond, Nx_nil, Nx_seq, Nx_seq_exit, Nx_seq_ret, Nx_block, Nx_block_exit, Nx_block_ret, Rg_nil, Rg_cons, RgE, effA, calleeA, wantedA, enterN, ev, ofV, ofVn, putE, evalN, aBin, aInt_add, aInt_sub, aInt_mul, aInt_quo, aInt_rem, aInt_eql, aInt_neq, aInt_lss, aInt_leq, aInt_gtr, aInt_geq, aExtract, finQ_ret, resOf, extU, kq_eq, thenQ_normal, thenQ_exit, thenQ_ret, h1, aUn]
    refine callK_RetH (by simp [fn19]) (less_ret W h vb va b a hb ha hlb hla) ?_
    by_cases h2 : txtsC b a < 0
    · simp [Wc_seq, Wc_block, Wc_scope, Wc_skip, Wc_label, Wc_exit, Wc_ret, Wc_loop, Wc_region, Wc_cond, Nx_nil, Nx_seq, Nx_seq_exit, Nx_seq_ret, Nx_block, Nx_block_exit, Nx_block_ret, Rg_nil, Rg_cons, RgE, effA, calleeA, wantedA, enterN, ev, ofV, ofVn, putE, evalN, aBin, aInt_add, aInt_sub, aInt_mul, aInt_quo, aInt_rem, aInt_eql, aInt_neq, aInt_lss, aInt_leq, aInt_gtr, aInt_geq, aExtract, finQ_ret, resOf, extU, kq_eq, thenQ_normal, thenQ_exit, thenQ_ret, h2, aUn]
      refine callK_RetH (by simp [fn19]) (less_ret W h va vb a b ha hb hla hlb) ?_
      simp [Wc_seq, Wc_block, Wc_scope, Wc_skip, Wc_label, Wc_exit, Wc_ret, Wc_loop, Wc_region, Wc_cond, Nx_nil, Nx_seq, Nx_seq_exit, Nx_seq_ret, Nx_block, Nx_block_exit, Nx_block_ret, Rg_nil, Rg_cons, RgE, effA, calleeA, wantedA, enterN, ev, ofV, ofVn, putE, evalN, aBin, aInt_add, aInt_sub, aInt_mul, aInt_quo, aInt_rem, aInt_eql, aInt_neq, aInt_lss, aInt_leq, aInt_gtr, aInt_geq, aExtract, finQ_ret, resOf, extU, kq_eq, thenQ_normal, thenQ_exit, thenQ_ret, h1, aUn]
      refine callK_RetH (by simp [fn19]) (less_ret W h va va a a ha ha hla hla) ?_
      simp [Wc_seq, Wc_block, Wc_scope, Wc_skip, Wc_label, Wc_exit, Wc_ret, Wc_loop, Wc_region, Wc_cond, Nx_nil, Nx_seq, Nx_seq_exit, Nx_seq_ret, Nx_block, Nx_block_exit, Nx_block_ret, Rg_nil, Rg_cons, RgE, effA, calleeA, wantedA, enterN, ev, ofV, ofVn, putE, evalN, aBin, aInt_add, aInt_sub, aInt_mul, aInt_quo, aInt_rem, aInt_eql, aInt_neq, aInt_lss, aInt_leq, aInt_gtr, aInt_geq, aExtract, finQ_ret, resOf, extU, kq_eq, thenQ_normal, thenQ_exit, thenQ_ret, hself, aUn]
      refine callK_RetX (by simp [fn16]) (speaks_ret W) fun h6 hk6 => ?_
      simp [Wc_seq, Wc_block, Wc_scope, Wc_skip, Wc_label, Wc_exit, Wc_ret, Wc_loop, Wc_region, Wc_cond, Nx_nil, Nx_seq, Nx_seq_exit, Nx_seq_ret, Nx_block, Nx_block_exit, Nx_block_ret, Rg_nil, Rg_cons, RgE, effA, calleeA, wantedA, enterN, ev, ofV, ofVn, putE, evalN, aBin, aInt_add, aInt_sub, aInt_mul, aInt_quo, aInt_rem, aInt_eql, aInt_neq, aInt_lss, aInt_leq, aInt_gtr, aInt_geq, aExtract, finQ_ret, resOf, extU, kq_eq, thenQ_normal, thenQ_exit, thenQ_ret]
    · have he : a = b := heq.1 (by omega)
      simp [Wc_seq, Wc_block, Wc_scope, Wc_skip, Wc_label, Wc_exit, Wc_ret, Wc_loop, Wc_region, Wc_cond, Nx_nil, Nx_seq, Nx_seq_exit, Nx_seq_ret, Nx_block, Nx_block_exit, Nx_block_ret, Rg_nil, Rg_cons, RgE, effA, calleeA, wantedA, enterN, ev, ofV, ofVn, putE, evalN, aBin, aInt_add, aInt_sub, aInt_mul, aInt_quo, aInt_rem, aInt_eql, aInt_neq, aInt_lss, aInt_leq, aInt_gtr, aInt_geq, aExtract, finQ_ret, resOf, extU, kq_eq, thenQ_normal, thenQ_exit, thenQ_ret, h2, aUn]
      refine callK_RetH (by simp [fn13]) (texts_ret W h va vb a b ha hb hla) ?_
      rw [decide_eq_true he]
      simp [Wc_seq, Wc_block, Wc_scope, Wc_skip, Wc_label, Wc_exit, Wc_ret, Wc_loop, Wc_region, Wc_cond, Nx_nil, Nx_seq, Nx_seq_exit, Nx_seq_ret, Nx_block, Nx_block_exit, Nx_block_ret, Rg_nil, Rg_cons, RgE, effA, calleeA, wantedA, enterN, ev, ofV, ofVn, putE, evalN, aBin, aInt_add, aInt_sub, aInt_mul, aInt_quo, aInt_rem, aInt_eql, aInt_neq, aInt_lss, aInt_leq, aInt_gtr, aInt_geq, aExtract, finQ_ret, resOf, extU, kq_eq, thenQ_normal, thenQ_exit, thenQ_ret, aUn]
      refine callK_RetH (by simp [fn19]) (less_ret W h va vb a b ha hb hla hlb) ?_
      simp [Wc_seq, Wc_block, Wc_scope, Wc_skip, Wc_label, Wc_exit, Wc_ret, Wc_loop, Wc_region, Wc_cond, Nx_nil, Nx_seq, Nx_seq_exit, Nx_seq_ret, Nx_block, Nx_block_exit, Nx_block_ret, Rg_nil, Rg_cons, RgE, effA, calleeA, wantedA, enterN, ev, ofV, ofVn, putE, evalN, aBin, aInt_add, aInt_sub, aInt_mul, aInt_quo, aInt_rem, aInt_eql, aInt_neq, aInt_lss, aInt_leq, aInt_gtr, aInt_geq, aExtract, finQ_ret, resOf, extU, kq_eq, thenQ_normal, thenQ_exit, thenQ_ret, h1, aUn]
      refine callK_RetH (by simp [fn19]) (less_ret W h va va a a ha ha hla hla) ?_
      simp [Wc_seq, Wc_block, Wc_scope, Wc_skip, Wc_label, Wc_exit, Wc_ret, Wc_loop, Wc_region, Wc_cond, Nx_nil, Nx_seq, Nx_seq_exit, Nx_seq_ret, Nx_block, Nx_block_exit, Nx_block_ret, Rg_nil, Rg_cons, RgE, effA, calleeA, wantedA, enterN, ev, ofV, ofVn, putE, evalN, aBin, aInt_add, aInt_sub, aInt_mul, aInt_quo, aInt_rem, aInt_eql, aInt_neq, aInt_lss, aInt_leq, aInt_gtr, aInt_geq, aExtract, finQ_ret, resOf, extU, kq_eq, thenQ_normal, thenQ_exit, thenQ_ret, hself, aUn]
      refine callK_RetX (by simp [fn16]) (speaks_ret W) fun h6 hk6 => ?_
      simp [Wc_seq, Wc_block, Wc_scope, Wc_skip, Wc_label, Wc_exit, Wc_ret, Wc_loop, Wc_region, Wc_cond, Nx_nil, Nx_seq, Nx_seq_exit, Nx_seq_ret, Nx_block, Nx_block_exit, Nx_block_ret, Rg_nil, Rg_cons, RgE, effA, calleeA, wantedA, enterN, ev, ofV, ofVn, putE, evalN, aBin, aInt_add, aInt_sub, aInt_mul, aInt_quo, aInt_rem, aInt_eql, aInt_neq, aInt_lss, aInt_leq, aInt_gtr, aInt_geq, aExtract, finQ_ret, resOf, extU, kq_eq, thenQ_normal, thenQ_exit, thenQ_ret]

end Go.Proofs.YtkgnhobaclngkaaDoor.Ax
