/- Bitmaps: how many bits are taken. -/
import Derived.Test.YtoioomplhebadaaBit
set_option linter.unusedVariables false
set_option linter.unusedSimpArgs false
namespace Go.Proofs.Ytoioomplhebadaa.Ax
open Go.RowKit

def cnt (b : List UInt8) (x : Nat) : Nat → Nat
  | 0 => 0
  | k + 1 => cnt b x k + if bit b (x + k) then 1 else 0

theorem cnt_le (b : List UInt8) (x k : Nat) : cnt b x k ≤ k := by
  induction k with
  | zero => simp [cnt]
  | succ k ih => simp only [cnt]; split <;> omega

def countR (b : List UInt8) (x y : Int) : Int × Int := if askedR b x y = 0 then ((cnt b x.toNat (y - x).toNat : Nat), 0) else (0, askedR b x y)

theorem asked_zero {b : List UInt8} {x y : Int} (h : askedR b x y = 0) : b.length = 128 ∧ ∃ p n : Nat, x = (p : Int) ∧ y = (p : Int) + (n : Int) ∧ p + n ≤ 1024 := by
  unfold askedR at h
  split at h
  · rename_i hl
    split at h
    · omega
    · exact ⟨hl, x.toNat, (y - x).toNat, by omega, by omega, by omega⟩
  · omega

set_option maxRecDepth 20000 in
theorem count_ret (W : World) (b : List UInt8) (x y : Int) : Ret (CC W) 16 [.str b, .int .i64 x, .int .i64 y] (.tup [.int .i64 (countR b x y).1, .int .i64 (countR b x y).2]) := by
  intro h
  refine acall_fin (cc_ok W) (fn16 W) (by simp only [Try.f16]; rfl) rfl rfl ?_
  simp [Wc_seq, Wc_block, Wc_scope, Wc_skip, Wc_label, Wc_exit, Wc_ret, Wc_loop, Wc_region, Wc_cond, Nx_nil, Nx_seq, Nx_seq_exit, Nx_seq_ret, Nx_block, Nx_block_exit, Nx_block_ret, Rg_nil, Rg_cons, RgE, effA, calleeA, wantedA, enterN, ev, ofV, ofVn, putE, evalN, aBin, aInt_add, aInt_sub, aInt_mul, aInt_quo, aInt_rem, aInt_eql, aInt_neq, aInt_lss, aInt_leq, aInt_gtr, aInt_geq, aExtract, finQ_ret, resOf, kq_eq, thenQ_normal, thenQ_exit, thenQ_ret]
  refine callK_Ret (by simp [fn21]) (asked_ret W b x y) ?_
  by_cases h0 : askedR b x y = 0
  · have hv : countR b x y = (((cnt b x.toNat (y - x).toNat : Nat) : Int), 0) := by simp [countR, h0]
    rw [hv]
    obtain ⟨hlen, p, n, rfl, rfl, hpn⟩ := asked_zero h0
    have hwn : IntKind.i64.wrap (n : Int) = (n : Int) := wrap64 (by omega) (by omega)
    have hn : ((p : Int) + (n : Int) - (p : Int)).toNat = n := by omega
    have hwn' : IntKind.i64.wrap ((p : Int) + (n : Int) - (p : Int)) = (n : Int) := by rw [show (p : Int) + (n : Int) - (p : Int) = (n : Int) from by omega]; exact hwn
    simp [Wc_seq, Wc_block, Wc_scope, Wc_skip, Wc_label, Wc_exit, Wc_ret, Wc_loop, Wc_region, Wc_cond, Nx_nil, Nx_seq, Nx_seq_exit, Nx_seq_ret, Nx_block, Nx_block_exit, Nx_block_ret, Rg_nil, Rg_cons, RgE, effA, calleeA, wantedA, enterN, ev, ofV, ofVn, putE, evalN, aBin, aInt_add, aInt_sub, aInt_mul, aInt_quo, aInt_rem, aInt_eql, aInt_neq, aInt_lss, aInt_leq, aInt_gtr, aInt_geq, aExtract, finQ_ret, resOf, kq_eq, thenQ_normal, thenQ_exit, thenQ_ret, h0, hwn']
    refine loopN (cc_ok W) (fun m e' h' => h' = h ∧ e'.length = 33 ∧ ∃ k : Nat, k + m = n ∧ (e'.getD 0 .undef = .str b ∧ e'.getD 1 .undef = .int .i64 p ∧ e'.getD 9 .undef = .int .i64 (cnt b p k) ∧ e'.getD 20 .undef = .int .i64 n ∧ e'.getD 21 .undef = .int .i64 k)) n ⟨rfl, by simp, 0, by simp, by simp [cnt]⟩ ?_
    rintro m e' h' ⟨rfl, hl, k, hk, hh⟩
    match e', hl with
    | a0 :: a1 :: a2 :: a3 :: a4 :: a5 :: a6 :: a7 :: a8 :: a9 :: a10 :: a11 :: a12 :: a13 :: a14 :: a15 :: a16 :: a17 :: a18 :: a19 :: a20 :: a21 :: a22 :: a23 :: a24 :: a25 :: a26 :: a27 :: a28 :: a29 :: a30 :: a31 :: a32 :: [], _ =>
      simp at hh
      obtain ⟨rfl, rfl, rfl, rfl, rfl⟩ := hh
      have hck := cnt_le b p k
      have hwk : IntKind.i64.wrap ((k : Int) + 1) = (k : Int) + 1 := wrap64 (by omega) (by omega)
      have hwc : IntKind.i64.wrap ((cnt b p k : Int) + 1) = (cnt b p k : Int) + 1 := wrap64 (by omega) (by omega)
      have hwp : IntKind.i64.wrap ((p : Int) + (k : Int)) = (p : Int) + (k : Int) := wrap64 (by omega) (by omega)
      by_cases hlt : k < n
      · simp [Wc_seq, Wc_block, Wc_scope, Wc_skip, Wc_label, Wc_exit, Wc_ret, Wc_loop, Wc_region, Wc_cond, Nx_nil, Nx_seq, Nx_seq_exit, Nx_seq_ret, Nx_block, Nx_block_exit, Nx_block_ret, Rg_nil, Rg_cons, RgE, effA, calleeA, wantedA, enterN, ev, ofV, ofVn, putE, evalN, aBin, aInt_add, aInt_sub, aInt_mul, aInt_quo, aInt_rem, aInt_eql, aInt_neq, aInt_lss, aInt_leq, aInt_gtr, aInt_geq, aExtract, finQ_ret, resOf, kq_eq, thenQ_normal, thenQ_exit, thenQ_ret, hlt, hwp]
        have ht := taken_ret W b (p + k) (by omega) (by omega)
        rw [Int.natCast_add] at ht
        refine callK_Ret (by simp [fn18]) ht ?_
        cases hbit : bit b (p + k)
        · simp [Wc_seq, Wc_block, Wc_scope, Wc_skip, Wc_label, Wc_exit, Wc_ret, Wc_loop, Wc_region, Wc_cond, Nx_nil, Nx_seq, Nx_seq_exit, Nx_seq_ret, Nx_block, Nx_block_exit, Nx_block_ret, Rg_nil, Rg_cons, RgE, effA, calleeA, wantedA, enterN, ev, ofV, ofVn, putE, evalN, aBin, aInt_add, aInt_sub, aInt_mul, aInt_quo, aInt_rem, aInt_eql, aInt_neq, aInt_lss, aInt_leq, aInt_gtr, aInt_geq, aExtract, finQ_ret, resOf, kq_eq, thenQ_normal, thenQ_exit, thenQ_ret, hwk]
          exact ⟨m - 1, by omega, k + 1, by omega, by simp [cnt, hbit], by simp⟩
        · simp [Wc_seq, Wc_block, Wc_scope, Wc_skip, Wc_label, Wc_exit, Wc_ret, Wc_loop, Wc_region, Wc_cond, Nx_nil, Nx_seq, Nx_seq_exit, Nx_seq_ret, Nx_block, Nx_block_exit, Nx_block_ret, Rg_nil, Rg_cons, RgE, effA, calleeA, wantedA, enterN, ev, ofV, ofVn, putE, evalN, aBin, aInt_add, aInt_sub, aInt_mul, aInt_quo, aInt_rem, aInt_eql, aInt_neq, aInt_lss, aInt_leq, aInt_gtr, aInt_geq, aExtract, finQ_ret, resOf, kq_eq, thenQ_normal, thenQ_exit, thenQ_ret, hwk, hwc]
          exact ⟨m - 1, by omega, k + 1, by omega, by simp [cnt, hbit], by simp⟩
      · obtain rfl : k = n := by omega
        have hn' : ((p : Int) + (k : Int)).toNat - p = k := by omega
        simp [Wc_seq, Wc_block, Wc_scope, Wc_skip, Wc_label, Wc_exit, Wc_ret, Wc_loop, Wc_region, Wc_cond, Nx_nil, Nx_seq, Nx_seq_exit, Nx_seq_ret, Nx_block, Nx_block_exit, Nx_block_ret, Rg_nil, Rg_cons, RgE, effA, calleeA, wantedA, enterN, ev, ofV, ofVn, putE, evalN, aBin, aInt_add, aInt_sub, aInt_mul, aInt_quo, aInt_rem, aInt_eql, aInt_neq, aInt_lss, aInt_leq, aInt_gtr, aInt_geq, aExtract, finQ_ret, resOf, kq_eq, thenQ_normal, thenQ_exit, thenQ_ret, hn']
  · have hv : countR b x y = (0, askedR b x y) := by simp [countR, h0]
    rw [hv]
    simp [Wc_seq, Wc_block, Wc_scope, Wc_skip, Wc_label, Wc_exit, Wc_ret, Wc_loop, Wc_region, Wc_cond, Nx_nil, Nx_seq, Nx_seq_exit, Nx_seq_ret, Nx_block, Nx_block_exit, Nx_block_ret, Rg_nil, Rg_cons, RgE, effA, calleeA, wantedA, enterN, ev, ofV, ofVn, putE, evalN, aBin, aInt_add, aInt_sub, aInt_mul, aInt_quo, aInt_rem, aInt_eql, aInt_neq, aInt_lss, aInt_leq, aInt_gtr, aInt_geq, aExtract, finQ_ret, resOf, kq_eq, thenQ_normal, thenQ_exit, thenQ_ret, h0]

set_option maxRecDepth 20000 in
theorem Count_ret (W : World) (b : List UInt8) (x y : Int) : Ret (CC W) 17 [.str b, .int .i64 x, .int .i64 y] (.tup [.int .i64 (countR b x y).1, .int .i64 (countR b x y).2]) := by
  intro h
  refine acall_fin (cc_ok W) (fn17 W) (by simp only [Try.f17]; rfl) rfl rfl ?_
  simp [Wc_seq, Wc_block, Wc_scope, Wc_skip, Wc_label, Wc_exit, Wc_ret, Wc_loop, Wc_region, Wc_cond, Nx_nil, Nx_seq, Nx_seq_exit, Nx_seq_ret, Nx_block, Nx_block_exit, Nx_block_ret, Rg_nil, Rg_cons, RgE, effA, calleeA, wantedA, enterN, ev, ofV, ofVn, putE, evalN, aBin, aInt_add, aInt_sub, aInt_mul, aInt_quo, aInt_rem, aInt_eql, aInt_neq, aInt_lss, aInt_leq, aInt_gtr, aInt_geq, aExtract, finQ_ret, resOf, kq_eq, thenQ_normal, thenQ_exit, thenQ_ret]
  refine callK_Ret (by simp [fn20]) (Asked_ret W b x y) ?_
  by_cases h0 : askedR b x y = 0
  · have hv : countR b x y = (((cnt b x.toNat (y - x).toNat : Nat) : Int), 0) := by simp [countR, h0]
    rw [hv]
    obtain ⟨hlen, p, n, rfl, rfl, hpn⟩ := asked_zero h0
    have hn : ((p : Int) + (n : Int) - (p : Int)).toNat = n := by omega
    simp [Wc_seq, Wc_block, Wc_scope, Wc_skip, Wc_label, Wc_exit, Wc_ret, Wc_loop, Wc_region, Wc_cond, Nx_nil, Nx_seq, Nx_seq_exit, Nx_seq_ret, Nx_block, Nx_block_exit, Nx_block_ret, Rg_nil, Rg_cons, RgE, effA, calleeA, wantedA, enterN, ev, ofV, ofVn, putE, evalN, aBin, aInt_add, aInt_sub, aInt_mul, aInt_quo, aInt_rem, aInt_eql, aInt_neq, aInt_lss, aInt_leq, aInt_gtr, aInt_geq, aExtract, finQ_ret, resOf, kq_eq, thenQ_normal, thenQ_exit, thenQ_ret, h0]
    refine loopN (cc_ok W) (fun m e' h' => h' = h ∧ e'.length = 30 ∧ ∃ k : Nat, k + m = n ∧ (e'.getD 0 .undef = .str b ∧ e'.getD 2 .undef = .int .i64 ((p : Int) + (n : Int)) ∧ e'.getD 9 .undef = .int .i64 (cnt b p k) ∧ e'.getD 10 .undef = .int .i64 ((p : Int) + (k : Int)))) n ⟨rfl, by simp, 0, by simp, by simp [cnt]⟩ ?_
    rintro m e' h' ⟨rfl, hl, k, hk, hh⟩
    match e', hl with
    | a0 :: a1 :: a2 :: a3 :: a4 :: a5 :: a6 :: a7 :: a8 :: a9 :: a10 :: a11 :: a12 :: a13 :: a14 :: a15 :: a16 :: a17 :: a18 :: a19 :: a20 :: a21 :: a22 :: a23 :: a24 :: a25 :: a26 :: a27 :: a28 :: a29 :: [], _ =>
      simp at hh
      obtain ⟨rfl, rfl, rfl, rfl⟩ := hh
      have hck := cnt_le b p k
      have hwk : IntKind.i64.wrap ((p : Int) + (k : Int) + 1) = (p : Int) + (k : Int) + 1 := wrap64 (by omega) (by omega)
      have hwc : IntKind.i64.wrap ((cnt b p k : Int) + 1) = (cnt b p k : Int) + 1 := wrap64 (by omega) (by omega)
      by_cases hlt : k < n
      · simp [Wc_seq, Wc_block, Wc_scope, Wc_skip, Wc_label, Wc_exit, Wc_ret, Wc_loop, Wc_region, Wc_cond, Nx_nil, Nx_seq, Nx_seq_exit, Nx_seq_ret, Nx_block, Nx_block_exit, Nx_block_ret, Rg_nil, Rg_cons, RgE, effA, calleeA, wantedA, enterN, ev, ofV, ofVn, putE, evalN, aBin, aInt_add, aInt_sub, aInt_mul, aInt_quo, aInt_rem, aInt_eql, aInt_neq, aInt_lss, aInt_leq, aInt_gtr, aInt_geq, aExtract, finQ_ret, resOf, kq_eq, thenQ_normal, thenQ_exit, thenQ_ret, hlt]
        have ht := Bit_ret W b (p + k) (by omega) (by omega)
        rw [Int.natCast_add] at ht
        refine callK_Ret (by simp [fn19]) ht ?_
        cases hbit : bit b (p + k)
        · simp [Wc_seq, Wc_block, Wc_scope, Wc_skip, Wc_label, Wc_exit, Wc_ret, Wc_loop, Wc_region, Wc_cond, Nx_nil, Nx_seq, Nx_seq_exit, Nx_seq_ret, Nx_block, Nx_block_exit, Nx_block_ret, Rg_nil, Rg_cons, RgE, effA, calleeA, wantedA, enterN, ev, ofV, ofVn, putE, evalN, aBin, aInt_add, aInt_sub, aInt_mul, aInt_quo, aInt_rem, aInt_eql, aInt_neq, aInt_lss, aInt_leq, aInt_gtr, aInt_geq, aExtract, finQ_ret, resOf, kq_eq, thenQ_normal, thenQ_exit, thenQ_ret, hwk]
          exact ⟨m - 1, by omega, k + 1, by omega, by simp [cnt, hbit], by simp; omega⟩
        · simp [Wc_seq, Wc_block, Wc_scope, Wc_skip, Wc_label, Wc_exit, Wc_ret, Wc_loop, Wc_region, Wc_cond, Nx_nil, Nx_seq, Nx_seq_exit, Nx_seq_ret, Nx_block, Nx_block_exit, Nx_block_ret, Rg_nil, Rg_cons, RgE, effA, calleeA, wantedA, enterN, ev, ofV, ofVn, putE, evalN, aBin, aInt_add, aInt_sub, aInt_mul, aInt_quo, aInt_rem, aInt_eql, aInt_neq, aInt_lss, aInt_leq, aInt_gtr, aInt_geq, aExtract, finQ_ret, resOf, kq_eq, thenQ_normal, thenQ_exit, thenQ_ret, hwk, hwc]
          exact ⟨m - 1, by omega, k + 1, by omega, by simp [cnt, hbit], by simp; omega⟩
      · obtain rfl : k = n := by omega
        have hn' : ((p : Int) + (k : Int)).toNat - p = k := by omega
        simp [Wc_seq, Wc_block, Wc_scope, Wc_skip, Wc_label, Wc_exit, Wc_ret, Wc_loop, Wc_region, Wc_cond, Nx_nil, Nx_seq, Nx_seq_exit, Nx_seq_ret, Nx_block, Nx_block_exit, Nx_block_ret, Rg_nil, Rg_cons, RgE, effA, calleeA, wantedA, enterN, ev, ofV, ofVn, putE, evalN, aBin, aInt_add, aInt_sub, aInt_mul, aInt_quo, aInt_rem, aInt_eql, aInt_neq, aInt_lss, aInt_leq, aInt_gtr, aInt_geq, aExtract, finQ_ret, resOf, kq_eq, thenQ_normal, thenQ_exit, thenQ_ret, hn']
  · have hv : countR b x y = (0, askedR b x y) := by simp [countR, h0]
    rw [hv]
    simp [Wc_seq, Wc_block, Wc_scope, Wc_skip, Wc_label, Wc_exit, Wc_ret, Wc_loop, Wc_region, Wc_cond, Nx_nil, Nx_seq, Nx_seq_exit, Nx_seq_ret, Nx_block, Nx_block_exit, Nx_block_ret, Rg_nil, Rg_cons, RgE, effA, calleeA, wantedA, enterN, ev, ofV, ofVn, putE, evalN, aBin, aInt_add, aInt_sub, aInt_mul, aInt_quo, aInt_rem, aInt_eql, aInt_neq, aInt_lss, aInt_leq, aInt_gtr, aInt_geq, aExtract, finQ_ret, resOf, kq_eq, thenQ_normal, thenQ_exit, thenQ_ret, h0]
end Go.Proofs.Ytoioomplhebadaa.Ax
