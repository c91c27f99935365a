/- Bitmaps: the document's bit, and what is asked. -/
import Derived.Test.YtoioomplhebadaaBits
set_option linter.unusedVariables false
set_option linter.unusedSimpArgs false
namespace Go.Proofs.Ytoioomplhebadaa.Ax
open Go.RowKit

theorem shr_half {x : UInt8} {k : Nat} : IntKind.i64.wrap (Int.tdiv (shrB x k) 2) = shrB x (k + 1) := by
  have h1 : Int.tdiv (shrB x k) 2 = shrB x (k + 1) := by
    simp only [shrB, Nat.shiftRight_succ]; rfl
  rw [h1]
  have := x.toNat_lt
  have h2 : x.toNat >>> (k + 1) ≤ x.toNat := by rw [Nat.shiftRight_eq_div_pow]; exact Nat.div_le_self _ _
  simp only [shrB]
  generalize x.toNat >>> (k + 1) = s at h2
  exact wrap64 (by omega) (by omega)
theorem shr_zero {x : UInt8} : IntKind.i64.wrap (x.toNat : Int) = shrB x 0 := by
  have := x.toNat_lt
  rw [wrap64 (by omega) (by omega)]; rfl
theorem shr_last {x : UInt8} {k : Nat} : (Int.tmod (shrB x k) 2 == 1) = bitB x k := by
  have h1 : Int.tmod (shrB x k) 2 = (((x.toNat >>> k) % 2 : Nat) : Int) := rfl
  rw [h1]
  simp only [bitB, Nat.testBit_eq_decide_div_mod_eq, Nat.shiftRight_eq_div_pow]
  rcases Nat.mod_two_eq_zero_or_one (x.toNat / 2 ^ k) with h | h <;> simp [h]

set_option maxRecDepth 20000 in
theorem Bit_ret (W : World) (b : List UInt8) (i : Nat) (hi : i / 8 < b.length) (hi2 : i < 1024) : Ret (CC W) 19 [.str b, .int .i64 i] (.bool (bit b i)) := by
  intro h
  refine acall_fin (cc_ok W) (fn19 W) (by simp only [Try.f19]; rfl) rfl rfl ?_
  have hw : IntKind.i64.wrap ((i : Int) / 8) = (i : Int) / 8 := wrap64 (by omega) (by omega)
  obtain ⟨x, hx, hb⟩ := bit_at hi
  have hcx : aConv (CC W) h 5 3 (.int .u8 x.toNat) = some (.int .i64 (shrB x 0)) := by
    simp [aConv, kind5, kind3, shr_zero]
  simp [Wc_seq, Wc_block, Wc_scope, Wc_skip, Wc_label, Wc_exit, Wc_ret, Wc_loop, Wc_region, Wc_cond, Nx_nil, Nx_seq, Nx_seq_exit, Nx_seq_ret, Nx_block, Nx_block_exit, Nx_block_ret, Rg_nil, Rg_cons, RgE, effA, calleeA, wantedA, enterN, ev, ofV, ofVn, putE, evalN, aBin, aInt_add, aInt_sub, aInt_mul, aInt_quo, aInt_rem, aInt_eql, aInt_neq, aInt_lss, aInt_leq, aInt_gtr, aInt_geq, aExtract, finQ_ret, resOf, kq_eq, thenQ_normal, thenQ_exit, thenQ_ret, aIndex, kind9, cdiv8, cmod8, hw, nn8, tn8, hx, hcx]
  refine loopN (cc_ok W) (fun m e' h' => h' = h ∧ ∃ k : Nat, k + m = i % 8 ∧ e'.length = 23 ∧ e'.take 7 = [.str b, .int .i64 i, .undef, .undef, .bool false, .int .i64 (shrB x k), .int .i64 k]) (i % 8) ⟨rfl, 0, by simp, by simp, by simp⟩ ?_
  rintro m e' h' ⟨rfl, k, hk, hl, ht⟩
  obtain ⟨ts, hts, rfl⟩ := env_cut (p := [_, _, _, _, _, _, _]) (m := 16) ht hl
  match ts, hts with
  | a0 :: a1 :: a2 :: a3 :: a4 :: a5 :: a6 :: a7 :: a8 :: a9 :: a10 :: a11 :: a12 :: a13 :: a14 :: a15 :: [], _ =>
    have hwk : IntKind.i64.wrap ((k : Int) + 1) = (k : Int) + 1 := wrap64 (by omega) (by omega)
    by_cases hlt : k < i % 8
    · have hlt' : (k : Int) < (i : Int) % 8 := by omega
      simp [Wc_seq, Wc_block, Wc_scope, Wc_skip, Wc_label, Wc_exit, Wc_ret, Wc_loop, Wc_region, Wc_cond, Nx_nil, Nx_seq, Nx_seq_exit, Nx_seq_ret, Nx_block, Nx_block_exit, Nx_block_ret, Rg_nil, Rg_cons, RgE, effA, calleeA, wantedA, enterN, ev, ofV, ofVn, putE, evalN, aBin, aInt_add, aInt_sub, aInt_mul, aInt_quo, aInt_rem, aInt_eql, aInt_neq, aInt_lss, aInt_leq, aInt_gtr, aInt_geq, aExtract, finQ_ret, resOf, kq_eq, thenQ_normal, thenQ_exit, thenQ_ret, cmod8, hlt', shr_half, hwk]
      exact ⟨m - 1, by omega, k + 1, by omega, by simp⟩
    · have hlt' : ¬ ((k : Int) < (i : Int) % 8) := by omega
      obtain rfl : k = i % 8 := by omega
      simp [Wc_seq, Wc_block, Wc_scope, Wc_skip, Wc_label, Wc_exit, Wc_ret, Wc_loop, Wc_region, Wc_cond, Nx_nil, Nx_seq, Nx_seq_exit, Nx_seq_ret, Nx_block, Nx_block_exit, Nx_block_ret, Rg_nil, Rg_cons, RgE, effA, calleeA, wantedA, enterN, ev, ofV, ofVn, putE, evalN, aBin, aInt_add, aInt_sub, aInt_mul, aInt_quo, aInt_rem, aInt_eql, aInt_neq, aInt_lss, aInt_leq, aInt_gtr, aInt_geq, aExtract, finQ_ret, resOf, kq_eq, thenQ_normal, thenQ_exit, thenQ_ret, cmod8, hlt', shr_last, hb]

def askedR (b : List UInt8) (x y : Int) : Int := if b.length = 128 then (if x < 0 ∨ y < x ∨ 1024 < y then 1 else 0) else 4

set_option maxRecDepth 20000 in
theorem Asked_ret (W : World) (b : List UInt8) (x y : Int) : Ret (CC W) 20 [.str b, .int .i64 x, .int .i64 y] (.int .i64 (askedR b x y)) := by
  intro h
  refine acall_fin (cc_ok W) (fn20 W) (by simp only [Try.f20]; rfl) rfl rfl ?_
  by_cases h0 : b.length = 128
  · have h0' : (b.length : Int) = 128 := by omega
    by_cases h1 : x < 0 <;> by_cases h2 : y < x <;> by_cases h3 : 1024 < y <;> simp [Wc_seq, Wc_block, Wc_scope, Wc_skip, Wc_label, Wc_exit, Wc_ret, Wc_loop, Wc_region, Wc_cond, Nx_nil, Nx_seq, Nx_seq_exit, Nx_seq_ret, Nx_block, Nx_block_exit, Nx_block_ret, Rg_nil, Rg_cons, RgE, effA, calleeA, wantedA, enterN, ev, ofV, ofVn, putE, evalN, aBin, aInt_add, aInt_sub, aInt_mul, aInt_quo, aInt_rem, aInt_eql, aInt_neq, aInt_lss, aInt_leq, aInt_gtr, aInt_geq, aExtract, finQ_ret, resOf, kq_eq, thenQ_normal, thenQ_exit, thenQ_ret, aLen, kind9, askedR, h0, h0', h1, h2, h3]
  · have h0' : ¬ (b.length : Int) = 128 := by omega
    simp [Wc_seq, Wc_block, Wc_scope, Wc_skip, Wc_label, Wc_exit, Wc_ret, Wc_loop, Wc_region, Wc_cond, Nx_nil, Nx_seq, Nx_seq_exit, Nx_seq_ret, Nx_block, Nx_block_exit, Nx_block_ret, Rg_nil, Rg_cons, RgE, effA, calleeA, wantedA, enterN, ev, ofV, ofVn, putE, evalN, aBin, aInt_add, aInt_sub, aInt_mul, aInt_quo, aInt_rem, aInt_eql, aInt_neq, aInt_lss, aInt_leq, aInt_gtr, aInt_geq, aExtract, finQ_ret, resOf, kq_eq, thenQ_normal, thenQ_exit, thenQ_ret, aLen, kind9, askedR, h0, h0']

set_option maxRecDepth 20000 in
theorem asked_ret (W : World) (b : List UInt8) (x y : Int) : Ret (CC W) 21 [.str b, .int .i64 x, .int .i64 y] (.int .i64 (askedR b x y)) := by
  intro h
  refine acall_fin (cc_ok W) (fn21 W) (by simp only [Try.f21]; rfl) rfl rfl ?_
  by_cases h0 : b.length = 128
  · have h0' : (b.length : Int) = 128 := by omega
    by_cases h1 : x < 0 <;> by_cases h2 : y < x <;> by_cases h3 : 1024 < y <;> simp [Wc_seq, Wc_block, Wc_scope, Wc_skip, Wc_label, Wc_exit, Wc_ret, Wc_loop, Wc_region, Wc_cond, Nx_nil, Nx_seq, Nx_seq_exit, Nx_seq_ret, Nx_block, Nx_block_exit, Nx_block_ret, Rg_nil, Rg_cons, RgE, effA, calleeA, wantedA, enterN, ev, ofV, ofVn, putE, evalN, aBin, aInt_add, aInt_sub, aInt_mul, aInt_quo, aInt_rem, aInt_eql, aInt_neq, aInt_lss, aInt_leq, aInt_gtr, aInt_geq, aExtract, finQ_ret, resOf, kq_eq, thenQ_normal, thenQ_exit, thenQ_ret, aLen, kind9, askedR, h0, h0', h1, h2, h3]
  · have h0' : ¬ (b.length : Int) = 128 := by omega
    simp [Wc_seq, Wc_block, Wc_scope, Wc_skip, Wc_label, Wc_exit, Wc_ret, Wc_loop, Wc_region, Wc_cond, Nx_nil, Nx_seq, Nx_seq_exit, Nx_seq_ret, Nx_block, Nx_block_exit, Nx_block_ret, Rg_nil, Rg_cons, RgE, effA, calleeA, wantedA, enterN, ev, ofV, ofVn, putE, evalN, aBin, aInt_add, aInt_sub, aInt_mul, aInt_quo, aInt_rem, aInt_eql, aInt_neq, aInt_lss, aInt_leq, aInt_gtr, aInt_geq, aExtract, finQ_ret, resOf, kq_eq, thenQ_normal, thenQ_exit, thenQ_ret, aLen, kind9, askedR, h0, h0']

def hasR (b : List UInt8) (i : Int) : Bool × Int := if b.length = 128 then (if i < 0 ∨ 1024 ≤ i then (false, 6) else (bit b i.toNat, 0)) else (false, 4)

set_option maxRecDepth 20000 in
theorem has_ret (W : World) (b : List UInt8) (i : Int) : Ret (CC W) 8 [.str b, .int .i64 i] (.tup [.bool (hasR b i).1, .int .i64 (hasR b i).2]) := by
  intro h
  refine acall_fin (cc_ok W) (fn8 W) (by simp only [Try.f8]; rfl) rfl rfl ?_
  by_cases h0 : b.length = 128
  · have h0' : (b.length : Int) = 128 := by omega
    by_cases h1 : i < 0
    · simp [Wc_seq, Wc_block, Wc_scope, Wc_skip, Wc_label, Wc_exit, Wc_ret, Wc_loop, Wc_region, Wc_cond, Nx_nil, Nx_seq, Nx_seq_exit, Nx_seq_ret, Nx_block, Nx_block_exit, Nx_block_ret, Rg_nil, Rg_cons, RgE, effA, calleeA, wantedA, enterN, ev, ofV, ofVn, putE, evalN, aBin, aInt_add, aInt_sub, aInt_mul, aInt_quo, aInt_rem, aInt_eql, aInt_neq, aInt_lss, aInt_leq, aInt_gtr, aInt_geq, aExtract, finQ_ret, resOf, kq_eq, thenQ_normal, thenQ_exit, thenQ_ret, aLen, kind9, hasR, h0, h0', h1]
    · by_cases h2 : 1024 ≤ i
      · simp [Wc_seq, Wc_block, Wc_scope, Wc_skip, Wc_label, Wc_exit, Wc_ret, Wc_loop, Wc_region, Wc_cond, Nx_nil, Nx_seq, Nx_seq_exit, Nx_seq_ret, Nx_block, Nx_block_exit, Nx_block_ret, Rg_nil, Rg_cons, RgE, effA, calleeA, wantedA, enterN, ev, ofV, ofVn, putE, evalN, aBin, aInt_add, aInt_sub, aInt_mul, aInt_quo, aInt_rem, aInt_eql, aInt_neq, aInt_lss, aInt_leq, aInt_gtr, aInt_geq, aExtract, finQ_ret, resOf, kq_eq, thenQ_normal, thenQ_exit, thenQ_ret, aLen, kind9, hasR, h0, h0', h1, h2]
      · obtain ⟨n, rfl⟩ : ∃ n : Nat, i = (n : Int) := ⟨i.toNat, by omega⟩
        have h2' : ¬ 1024 ≤ n := by omega
        simp [Wc_seq, Wc_block, Wc_scope, Wc_skip, Wc_label, Wc_exit, Wc_ret, Wc_loop, Wc_region, Wc_cond, Nx_nil, Nx_seq, Nx_seq_exit, Nx_seq_ret, Nx_block, Nx_block_exit, Nx_block_ret, Rg_nil, Rg_cons, RgE, effA, calleeA, wantedA, enterN, ev, ofV, ofVn, putE, evalN, aBin, aInt_add, aInt_sub, aInt_mul, aInt_quo, aInt_rem, aInt_eql, aInt_neq, aInt_lss, aInt_leq, aInt_gtr, aInt_geq, aExtract, finQ_ret, resOf, kq_eq, thenQ_normal, thenQ_exit, thenQ_ret, aLen, kind9, hasR, h0, h0', h1, h2, h2']
        refine callK_Ret (by simp [fn18]) (taken_ret W b n (by omega) (by omega)) ?_
        simp [Wc_seq, Wc_block, Wc_scope, Wc_skip, Wc_label, Wc_exit, Wc_ret, Wc_loop, Wc_region, Wc_cond, Nx_nil, Nx_seq, Nx_seq_exit, Nx_seq_ret, Nx_block, Nx_block_exit, Nx_block_ret, Rg_nil, Rg_cons, RgE, effA, calleeA, wantedA, enterN, ev, ofV, ofVn, putE, evalN, aBin, aInt_add, aInt_sub, aInt_mul, aInt_quo, aInt_rem, aInt_eql, aInt_neq, aInt_lss, aInt_leq, aInt_gtr, aInt_geq, aExtract, finQ_ret, resOf, kq_eq, thenQ_normal, thenQ_exit, thenQ_ret]
  · have h0' : ¬ (b.length : Int) = 128 := by omega
    simp [Wc_seq, Wc_block, Wc_scope, Wc_skip, Wc_label, Wc_exit, Wc_ret, Wc_loop, Wc_region, Wc_cond, Nx_nil, Nx_seq, Nx_seq_exit, Nx_seq_ret, Nx_block, Nx_block_exit, Nx_block_ret, Rg_nil, Rg_cons, RgE, effA, calleeA, wantedA, enterN, ev, ofV, ofVn, putE, evalN, aBin, aInt_add, aInt_sub, aInt_mul, aInt_quo, aInt_rem, aInt_eql, aInt_neq, aInt_lss, aInt_leq, aInt_gtr, aInt_geq, aExtract, finQ_ret, resOf, kq_eq, thenQ_normal, thenQ_exit, thenQ_ret, aLen, kind9, hasR, h0, h0']

set_option maxRecDepth 20000 in
theorem Has_ret (W : World) (b : List UInt8) (i : Int) : Ret (CC W) 9 [.str b, .int .i64 i] (.tup [.bool (hasR b i).1, .int .i64 (hasR b i).2]) := by
  intro h
  refine acall_fin (cc_ok W) (fn9 W) (by simp only [Try.f9]; rfl) rfl rfl ?_
  by_cases h0 : b.length = 128
  · have h0' : (b.length : Int) = 128 := by omega
    by_cases h1 : i < 0
    · simp [Wc_seq, Wc_block, Wc_scope, Wc_skip, Wc_label, Wc_exit, Wc_ret, Wc_loop, Wc_region, Wc_cond, Nx_nil, Nx_seq, Nx_seq_exit, Nx_seq_ret, Nx_block, Nx_block_exit, Nx_block_ret, Rg_nil, Rg_cons, RgE, effA, calleeA, wantedA, enterN, ev, ofV, ofVn, putE, evalN, aBin, aInt_add, aInt_sub, aInt_mul, aInt_quo, aInt_rem, aInt_eql, aInt_neq, aInt_lss, aInt_leq, aInt_gtr, aInt_geq, aExtract, finQ_ret, resOf, kq_eq, thenQ_normal, thenQ_exit, thenQ_ret, aLen, kind9, hasR, h0, h0', h1]
    · by_cases h2 : 1024 ≤ i
      · simp [Wc_seq, Wc_block, Wc_scope, Wc_skip, Wc_label, Wc_exit, Wc_ret, Wc_loop, Wc_region, Wc_cond, Nx_nil, Nx_seq, Nx_seq_exit, Nx_seq_ret, Nx_block, Nx_block_exit, Nx_block_ret, Rg_nil, Rg_cons, RgE, effA, calleeA, wantedA, enterN, ev, ofV, ofVn, putE, evalN, aBin, aInt_add, aInt_sub, aInt_mul, aInt_quo, aInt_rem, aInt_eql, aInt_neq, aInt_lss, aInt_leq, aInt_gtr, aInt_geq, aExtract, finQ_ret, resOf, kq_eq, thenQ_normal, thenQ_exit, thenQ_ret, aLen, kind9, hasR, h0, h0', h1, h2]
      · obtain ⟨n, rfl⟩ : ∃ n : Nat, i = (n : Int) := ⟨i.toNat, by omega⟩
        have h2' : ¬ 1024 ≤ n := by omega
        simp [Wc_seq, Wc_block, Wc_scope, Wc_skip, Wc_label, Wc_exit, Wc_ret, Wc_loop, Wc_region, Wc_cond, Nx_nil, Nx_seq, Nx_seq_exit, Nx_seq_ret, Nx_block, Nx_block_exit, Nx_block_ret, Rg_nil, Rg_cons, RgE, effA, calleeA, wantedA, enterN, ev, ofV, ofVn, putE, evalN, aBin, aInt_add, aInt_sub, aInt_mul, aInt_quo, aInt_rem, aInt_eql, aInt_neq, aInt_lss, aInt_leq, aInt_gtr, aInt_geq, aExtract, finQ_ret, resOf, kq_eq, thenQ_normal, thenQ_exit, thenQ_ret, aLen, kind9, hasR, h0, h0', h1, h2, h2']
        refine callK_Ret (by simp [fn19]) (Bit_ret W b n (by omega) (by omega)) ?_
        simp [Wc_seq, Wc_block, Wc_scope, Wc_skip, Wc_label, Wc_exit, Wc_ret, Wc_loop, Wc_region, Wc_cond, Nx_nil, Nx_seq, Nx_seq_exit, Nx_seq_ret, Nx_block, Nx_block_exit, Nx_block_ret, Rg_nil, Rg_cons, RgE, effA, calleeA, wantedA, enterN, ev, ofV, ofVn, putE, evalN, aBin, aInt_add, aInt_sub, aInt_mul, aInt_quo, aInt_rem, aInt_eql, aInt_neq, aInt_lss, aInt_leq, aInt_gtr, aInt_geq, aExtract, finQ_ret, resOf, kq_eq, thenQ_normal, thenQ_exit, thenQ_ret]
  · have h0' : ¬ (b.length : Int) = 128 := by omega
    simp [Wc_seq, Wc_block, Wc_scope, Wc_skip, Wc_label, Wc_exit, Wc_ret, Wc_loop, Wc_region, Wc_cond, Nx_nil, Nx_seq, Nx_seq_exit, Nx_seq_ret, Nx_block, Nx_block_exit, Nx_block_ret, Rg_nil, Rg_cons, RgE, effA, calleeA, wantedA, enterN, ev, ofV, ofVn, putE, evalN, aBin, aInt_add, aInt_sub, aInt_mul, aInt_quo, aInt_rem, aInt_eql, aInt_neq, aInt_lss, aInt_leq, aInt_gtr, aInt_geq, aExtract, finQ_ret, resOf, kq_eq, thenQ_normal, thenQ_exit, thenQ_ret, aLen, kind9, hasR, h0, h0']
end Go.Proofs.Ytoioomplhebadaa.Ax
