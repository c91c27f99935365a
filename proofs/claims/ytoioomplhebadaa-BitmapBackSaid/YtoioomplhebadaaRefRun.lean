/- Bitmaps: the document's run, and the least free bit. -/
import Derived.Test.YtoioomplhebadaaRun
set_option linter.unusedVariables false
set_option linter.unusedSimpArgs false
namespace Go.Proofs.Ytoioomplhebadaa.Ax
open Go.RowKit

def OutI (b : List UInt8) (p n many : Nat) (h : AH) (m : Nat) (e' : Env) (h' : AH) : Prop :=
  h' = h ∧ e'.length = 48 ∧ ∃ k : Nat, k + m = n ∧ (∀ j, j < p + k → ¬ FreeAt b p (p + n) many j) ∧
        (e'.getD 0 .undef = .str b ∧ e'.getD 2 .undef = .int .i64 ((p : Int) + (n : Int)) ∧ e'.getD 3 .undef = .int .i64 many ∧ e'.getD 11 .undef = .int .i64 ((p : Int) + (k : Int)))

def InI (b : List UInt8) (p n many k : Nat) (h : AH) (m : Nat) (e' : Env) (h' : AH) : Prop :=
  h' = h ∧ e'.length = 48 ∧ ∃ (q : Nat) (fr : Bool), q + m = many ∧ (fr = true ↔ ∀ j, j < q → bit b (p + k + j) = false) ∧
        (e'.getD 0 .undef = .str b ∧ e'.getD 2 .undef = .int .i64 ((p : Int) + (n : Int)) ∧ e'.getD 3 .undef = .int .i64 many ∧ e'.getD 11 .undef = .int .i64 ((p : Int) + (k : Int)) ∧ e'.getD 12 .undef = .bool fr ∧ e'.getD 13 .undef = .int .i64 q)

set_option maxRecDepth 20000 in
theorem Run_ret (W : World) (b : List UInt8) (x y c : Int) : Ret (CC W) 14 [.str b, .int .i64 x, .int .i64 y, .int .i64 c] (.tup [.int .i64 (runR b x y c).1, .int .i64 (runR b x y c).2]) := by
  intro h
  refine acall_fin (cc_ok W) (fn14 W) (by simp only [Try.f14]; rfl) rfl rfl ?_
  simp [Wc_seq, Wc_block, Wc_scope, Wc_skip, Wc_label, Wc_exit, Wc_ret, Wc_loop, Wc_region, Wc_cond, Nx_nil, Nx_seq, Nx_seq_exit, Nx_seq_ret, Nx_block, Nx_block_exit, Nx_block_ret, Rg_nil, Rg_cons, RgE, effA, calleeA, wantedA, enterN, ev, ofV, ofVn, putE, evalN, aBin, aInt_add, aInt_sub, aInt_mul, aInt_quo, aInt_rem, aInt_eql, aInt_neq, aInt_lss, aInt_leq, aInt_gtr, aInt_geq, aExtract, finQ_ret, resOf, kq_eq, thenQ_normal, thenQ_exit, thenQ_ret]
  refine callK_Ret (by simp [fn20]) (Asked_ret W b x y) ?_
  by_cases h0 : askedR b x y = 0
  · by_cases h1 : c < 1
    · have hv : runR b x y c = (0, 1) := by simp [runR, h0, h1]
      rw [hv]
      simp [Wc_seq, Wc_block, Wc_scope, Wc_skip, Wc_label, Wc_exit, Wc_ret, Wc_loop, Wc_region, Wc_cond, Nx_nil, Nx_seq, Nx_seq_exit, Nx_seq_ret, Nx_block, Nx_block_exit, Nx_block_ret, Rg_nil, Rg_cons, RgE, effA, calleeA, wantedA, enterN, ev, ofV, ofVn, putE, evalN, aBin, aInt_add, aInt_sub, aInt_mul, aInt_quo, aInt_rem, aInt_eql, aInt_neq, aInt_lss, aInt_leq, aInt_gtr, aInt_geq, aExtract, finQ_ret, resOf, kq_eq, thenQ_normal, thenQ_exit, thenQ_ret, h0, h1]
    · have hv : runR b x y c = runV b x.toNat y.toNat c.toNat := by simp [runR, h0, h1]
      obtain ⟨hlen, p, n, rfl, rfl, hpn⟩ := asked_zero h0
      obtain ⟨many, rfl⟩ : ∃ k : Nat, c = (k : Int) := ⟨c.toNat, by omega⟩
      have hm1 : ¬ many < 1 := by omega
      have hv' : runR b (p : Int) ((p : Int) + (n : Int)) (many : Int) = runV b p (p + n) many := by
        rw [hv, show ((p : Int) + (n : Int)).toNat = p + n from by omega]; simp
      rw [hv']
      simp [Wc_seq, Wc_block, Wc_scope, Wc_skip, Wc_label, Wc_exit, Wc_ret, Wc_loop, Wc_region, Wc_cond, Nx_nil, Nx_seq, Nx_seq_exit, Nx_seq_ret, Nx_block, Nx_block_exit, Nx_block_ret, Rg_nil, Rg_cons, RgE, effA, calleeA, wantedA, enterN, ev, ofV, ofVn, putE, evalN, aBin, aInt_add, aInt_sub, aInt_mul, aInt_quo, aInt_rem, aInt_eql, aInt_neq, aInt_lss, aInt_leq, aInt_gtr, aInt_geq, aExtract, finQ_ret, resOf, kq_eq, thenQ_normal, thenQ_exit, thenQ_ret, h0, h1, hm1]
      refine loopN (cc_ok W) (OutI b p n many h) n ⟨rfl, by simp, 0, by simp, fun j hj hf => by have := hf.1; omega, by simp⟩ ?_
      rintro m e' h' ⟨rfl, hl, k, hk, hno, hh⟩
      match e', hl with
      | a0 :: a1 :: a2 :: a3 :: a4 :: a5 :: a6 :: a7 :: a8 :: a9 :: a10 :: a11 :: a12 :: a13 :: a14 :: a15 :: a16 :: a17 :: a18 :: a19 :: a20 :: a21 :: a22 :: a23 :: a24 :: a25 :: a26 :: a27 :: a28 :: a29 :: a30 :: a31 :: a32 :: a33 :: a34 :: a35 :: a36 :: a37 :: a38 :: a39 :: a40 :: a41 :: a42 :: a43 :: a44 :: a45 :: a46 :: a47 :: [], _ =>
        simp at hh
        obtain ⟨rfl, rfl, rfl, rfl⟩ := hh
        have hwk : IntKind.i64.wrap ((p : Int) + (k : Int) + 1) = (p : Int) + (k : Int) + 1 := wrap64 (by omega) (by omega)
        have hwb : IntKind.i64.wrap ((p : Int) + (n : Int) - ((p : Int) + (k : Int))) = (n : Int) - (k : Int) := by rw [wrap64 (by omega) (by omega)]; omega
        by_cases hlt : k < n
        · by_cases hle : k + many ≤ n
          · have hle' : (many : Int) ≤ (n : Int) - (k : Int) := by omega
            simp [Wc_seq, Wc_block, Wc_scope, Wc_skip, Wc_label, Wc_exit, Wc_ret, Wc_loop, Wc_region, Wc_cond, Nx_nil, Nx_seq, Nx_seq_exit, Nx_seq_ret, Nx_block, Nx_block_exit, Nx_block_ret, Rg_nil, Rg_cons, RgE, effA, calleeA, wantedA, enterN, ev, ofV, ofVn, putE, evalN, aBin, aInt_add, aInt_sub, aInt_mul, aInt_quo, aInt_rem, aInt_eql, aInt_neq, aInt_lss, aInt_leq, aInt_gtr, aInt_geq, aExtract, finQ_ret, resOf, kq_eq, thenQ_normal, thenQ_exit, thenQ_ret, hlt, hwb, hle']
            refine loopN (cc_ok W) (InI b p n many k h') many ⟨rfl, by simp, 0, true, by simp, by simp, by simp⟩ ?_
            rintro m2 e' h' ⟨rfl, hl, q, fr, hq, hfr, hh⟩
            match e', hl with
            | a0 :: a1 :: a2 :: a3 :: a4 :: a5 :: a6 :: a7 :: a8 :: a9 :: a10 :: a11 :: a12 :: a13 :: a14 :: a15 :: a16 :: a17 :: a18 :: a19 :: a20 :: a21 :: a22 :: a23 :: a24 :: a25 :: a26 :: a27 :: a28 :: a29 :: a30 :: a31 :: a32 :: a33 :: a34 :: a35 :: a36 :: a37 :: a38 :: a39 :: a40 :: a41 :: a42 :: a43 :: a44 :: a45 :: a46 :: a47 :: [], _ =>
              simp at hh
              obtain ⟨rfl, rfl, rfl, rfl, rfl, rfl⟩ := hh
              have hwq : IntKind.i64.wrap ((q : Int) + 1) = (q : Int) + 1 := wrap64 (by omega) (by omega)
              have hwi : IntKind.i64.wrap ((p : Int) + (k : Int) + (q : Int)) = (p : Int) + (k : Int) + (q : Int) := wrap64 (by omega) (by omega)
              by_cases hqm : q < many
              · simp [Wc_seq, Wc_block, Wc_scope, Wc_skip, Wc_label, Wc_exit, Wc_ret, Wc_loop, Wc_region, Wc_cond, Nx_nil, Nx_seq, Nx_seq_exit, Nx_seq_ret, Nx_block, Nx_block_exit, Nx_block_ret, Rg_nil, Rg_cons, RgE, effA, calleeA, wantedA, enterN, ev, ofV, ofVn, putE, evalN, aBin, aInt_add, aInt_sub, aInt_mul, aInt_quo, aInt_rem, aInt_eql, aInt_neq, aInt_lss, aInt_leq, aInt_gtr, aInt_geq, aExtract, finQ_ret, resOf, kq_eq, thenQ_normal, thenQ_exit, thenQ_ret, hqm, hwi]
                have ht := Bit_ret W b (p + k + q) (by omega) (by omega)
                rw [Int.natCast_add, Int.natCast_add] at ht
                refine callK_Ret (by simp [fn19]) ht ?_
                cases hbit : bit b (p + k + q)
                · simp [Wc_seq, Wc_block, Wc_scope, Wc_skip, Wc_label, Wc_exit, Wc_ret, Wc_loop, Wc_region, Wc_cond, Nx_nil, Nx_seq, Nx_seq_exit, Nx_seq_ret, Nx_block, Nx_block_exit, Nx_block_ret, Rg_nil, Rg_cons, RgE, effA, calleeA, wantedA, enterN, ev, ofV, ofVn, putE, evalN, aBin, aInt_add, aInt_sub, aInt_mul, aInt_quo, aInt_rem, aInt_eql, aInt_neq, aInt_lss, aInt_leq, aInt_gtr, aInt_geq, aExtract, finQ_ret, resOf, kq_eq, thenQ_normal, thenQ_exit, thenQ_ret, hwq]
                  refine ⟨m2 - 1, by omega, rfl, by simp, q + 1, fr, by omega, ?_, by simp⟩
                  rw [hfr]
                  refine ⟨fun h j hj => ?_, fun h j hj => h j (by omega)⟩
                  rcases Nat.lt_or_ge j q with h' | h'
                  · exact h j h'
                  · rw [show j = q from by omega]; exact hbit
                · simp [Wc_seq, Wc_block, Wc_scope, Wc_skip, Wc_label, Wc_exit, Wc_ret, Wc_loop, Wc_region, Wc_cond, Nx_nil, Nx_seq, Nx_seq_exit, Nx_seq_ret, Nx_block, Nx_block_exit, Nx_block_ret, Rg_nil, Rg_cons, RgE, effA, calleeA, wantedA, enterN, ev, ofV, ofVn, putE, evalN, aBin, aInt_add, aInt_sub, aInt_mul, aInt_quo, aInt_rem, aInt_eql, aInt_neq, aInt_lss, aInt_leq, aInt_gtr, aInt_geq, aExtract, finQ_ret, resOf, kq_eq, thenQ_normal, thenQ_exit, thenQ_ret, hwq]
                  refine ⟨m2 - 1, by omega, rfl, by simp, q + 1, false, by omega, ?_, by simp⟩
                  refine ⟨fun h => by simp at h, fun h => ?_⟩
                  have := h q (by omega)
                  rw [hbit] at this; simp at this
              · obtain rfl : q = many := by omega
                cases fr with
                | true =>
                  have hfree : FreeAt b p (p + n) q (p + k) := ⟨by omega, by omega, fun j hj => hfr.1 rfl j hj⟩
                  have hres := runV_some hfree hno
                  simp [Wc_seq, Wc_block, Wc_scope, Wc_skip, Wc_label, Wc_exit, Wc_ret, Wc_loop, Wc_region, Wc_cond, Nx_nil, Nx_seq, Nx_seq_exit, Nx_seq_ret, Nx_block, Nx_block_exit, Nx_block_ret, Rg_nil, Rg_cons, RgE, effA, calleeA, wantedA, enterN, ev, ofV, ofVn, putE, evalN, aBin, aInt_add, aInt_sub, aInt_mul, aInt_quo, aInt_rem, aInt_eql, aInt_neq, aInt_lss, aInt_leq, aInt_gtr, aInt_geq, aExtract, finQ_ret, resOf, kq_eq, thenQ_normal, thenQ_exit, thenQ_ret, hres]
                | false =>
                  simp [Wc_seq, Wc_block, Wc_scope, Wc_skip, Wc_label, Wc_exit, Wc_ret, Wc_loop, Wc_region, Wc_cond, Nx_nil, Nx_seq, Nx_seq_exit, Nx_seq_ret, Nx_block, Nx_block_exit, Nx_block_ret, Rg_nil, Rg_cons, RgE, effA, calleeA, wantedA, enterN, ev, ofV, ofVn, putE, evalN, aBin, aInt_add, aInt_sub, aInt_mul, aInt_quo, aInt_rem, aInt_eql, aInt_neq, aInt_lss, aInt_leq, aInt_gtr, aInt_geq, aExtract, finQ_ret, resOf, kq_eq, thenQ_normal, thenQ_exit, thenQ_ret, hwk]
                  refine ⟨m - 1, by omega, rfl, by simp, k + 1, by omega, ?_, by simp; omega⟩
                  intro j hj hf
                  rcases Nat.lt_or_ge j (p + k) with h' | h'
                  · exact hno j h' hf
                  · obtain rfl : j = p + k := by omega
                    have := hfr.2 fun j hj => hf.2.2 j hj
                    simp at this
          · have hle' : ¬ (many : Int) ≤ (n : Int) - (k : Int) := by omega
            have hres : runV b p (p + n) many = (0, 5) := runV_none fun j hf => by
              rcases Nat.lt_or_ge j (p + k) with h | h
              · exact hno j h hf
              · have := hf.2.1; omega
            simp [Wc_seq, Wc_block, Wc_scope, Wc_skip, Wc_label, Wc_exit, Wc_ret, Wc_loop, Wc_region, Wc_cond, Nx_nil, Nx_seq, Nx_seq_exit, Nx_seq_ret, Nx_block, Nx_block_exit, Nx_block_ret, Rg_nil, Rg_cons, RgE, effA, calleeA, wantedA, enterN, ev, ofV, ofVn, putE, evalN, aBin, aInt_add, aInt_sub, aInt_mul, aInt_quo, aInt_rem, aInt_eql, aInt_neq, aInt_lss, aInt_leq, aInt_gtr, aInt_geq, aExtract, finQ_ret, resOf, kq_eq, thenQ_normal, thenQ_exit, thenQ_ret, hlt, hwb, hle', hres]
        · obtain rfl : k = n := by omega
          have hres : runV b p (p + k) many = (0, 5) := runV_none fun j hf => hno j (by have := hf.2.1; omega) hf
          simp [Wc_seq, Wc_block, Wc_scope, Wc_skip, Wc_label, Wc_exit, Wc_ret, Wc_loop, Wc_region, Wc_cond, Nx_nil, Nx_seq, Nx_seq_exit, Nx_seq_ret, Nx_block, Nx_block_exit, Nx_block_ret, Rg_nil, Rg_cons, RgE, effA, calleeA, wantedA, enterN, ev, ofV, ofVn, putE, evalN, aBin, aInt_add, aInt_sub, aInt_mul, aInt_quo, aInt_rem, aInt_eql, aInt_neq, aInt_lss, aInt_leq, aInt_gtr, aInt_geq, aExtract, finQ_ret, resOf, kq_eq, thenQ_normal, thenQ_exit, thenQ_ret, hres]
  · have hv : runR b x y c = (0, askedR b x y) := by simp [runR, h0]
    rw [hv]
    simp [Wc_seq, Wc_block, Wc_scope, Wc_skip, Wc_label, Wc_exit, Wc_ret, Wc_loop, Wc_region, Wc_cond, Nx_nil, Nx_seq, Nx_seq_exit, Nx_seq_ret, Nx_block, Nx_block_exit, Nx_block_ret, Rg_nil, Rg_cons, RgE, effA, calleeA, wantedA, enterN, ev, ofV, ofVn, putE, evalN, aBin, aInt_add, aInt_sub, aInt_mul, aInt_quo, aInt_rem, aInt_eql, aInt_neq, aInt_lss, aInt_leq, aInt_gtr, aInt_geq, aExtract, finQ_ret, resOf, kq_eq, thenQ_normal, thenQ_exit, thenQ_ret, h0]

set_option maxRecDepth 20000 in
theorem least_ret (W : World) (b : List UInt8) (x y : Int) : Ret (CC W) 13 [.str b, .int .i64 x, .int .i64 y] (.tup [.int .i64 (runR b x y 1).1, .int .i64 (runR b x y 1).2]) := by
  intro h
  refine acall_fin (cc_ok W) (fn13 W) (by simp only [Try.f13]; rfl) rfl rfl ?_
  simp [Wc_seq, Wc_block, Wc_scope, Wc_skip, Wc_label, Wc_exit, Wc_ret, Wc_loop, Wc_region, Wc_cond, Nx_nil, Nx_seq, Nx_seq_exit, Nx_seq_ret, Nx_block, Nx_block_exit, Nx_block_ret, Rg_nil, Rg_cons, RgE, effA, calleeA, wantedA, enterN, ev, ofV, ofVn, putE, evalN, aBin, aInt_add, aInt_sub, aInt_mul, aInt_quo, aInt_rem, aInt_eql, aInt_neq, aInt_lss, aInt_leq, aInt_gtr, aInt_geq, aExtract, finQ_ret, resOf, kq_eq, thenQ_normal, thenQ_exit, thenQ_ret]
  refine callK_Ret (by simp [fn15]) (run_ret W b x y 1) ?_
  simp [Wc_seq, Wc_block, Wc_scope, Wc_skip, Wc_label, Wc_exit, Wc_ret, Wc_loop, Wc_region, Wc_cond, Nx_nil, Nx_seq, Nx_seq_exit, Nx_seq_ret, Nx_block, Nx_block_exit, Nx_block_ret, Rg_nil, Rg_cons, RgE, effA, calleeA, wantedA, enterN, ev, ofV, ofVn, putE, evalN, aBin, aInt_add, aInt_sub, aInt_mul, aInt_quo, aInt_rem, aInt_eql, aInt_neq, aInt_lss, aInt_leq, aInt_gtr, aInt_geq, aExtract, finQ_ret, resOf, kq_eq, thenQ_normal, thenQ_exit, thenQ_ret]
end Go.Proofs.Ytoioomplhebadaa.Ax
