/- Bitmaps: so many in a row. -/
import Derived.Test.YtoioomplhebadaaCount
set_option linter.unusedVariables false
set_option linter.unusedSimpArgs false
namespace Go.Proofs.Ytoioomplhebadaa.Ax
open Go.RowKit

/-- So many are free there, within the range. -/
def FreeAt (b : List UInt8) (p q m i : Nat) : Prop := p ≤ i ∧ i + m ≤ q ∧ ∀ k, k < m → bit b (i + k) = false

open Classical in
noncomputable def runV (b : List UInt8) (p q m : Nat) : Int × Int :=
  if hx : ∃ i, FreeAt b p q m i then (((Classical.choose (least _ hx) : Nat) : Int), 0) else (0, 5)

theorem runV_some {b : List UInt8} {p q m i : Nat} (h1 : FreeAt b p q m i) (h2 : ∀ j, j < i → ¬ FreeAt b p q m j) : runV b p q m = ((i : Int), 0) := by
  have hx : ∃ i, FreeAt b p q m i := ⟨i, h1⟩
  have hs := Classical.choose_spec (least _ hx)
  unfold runV
  rw [dif_pos hx]
  have : Classical.choose (least _ hx) = i := by
    rcases Nat.lt_trichotomy (Classical.choose (least _ hx)) i with h | h | h
    · exact absurd hs.1 (h2 _ h)
    · exact h
    · have := hs.2 i h1; omega
  rw [this]

theorem runV_none {b : List UInt8} {p q m : Nat} (h : ∀ j, ¬ FreeAt b p q m j) : runV b p q m = (0, 5) := by
  unfold runV
  rw [dif_neg]
  rintro ⟨i, hi⟩
  exact h i hi

noncomputable def runR (b : List UInt8) (x y m : Int) : Int × Int := if askedR b x y = 0 then (if m < 1 then (0, 1) else runV b x.toNat y.toNat m.toNat) else (0, askedR b x y)

theorem not_free_of {b : List UInt8} {p q m i j : Nat} (hj : bit b j = true) (h1 : i ≤ j) (h2 : j < i + m) : ¬ FreeAt b p q m i := by
  rintro ⟨_, _, hf⟩
  have := hf (j - i) (by omega)
  rw [show i + (j - i) = j from by omega, hj] at this
  simp at this

def RunI (b : List UInt8) (p n many : Nat) (h : AH) (m : Nat) (e' : Env) (h' : AH) : Prop :=
  h' = h ∧ e'.length = 42 ∧ ∃ k r : Nat, k + m = n ∧ r < many ∧ r ≤ k ∧ (∀ j, j < r → bit b (p + k - r + j) = false) ∧ (r = k ∨ bit b (p + k - r - 1) = true) ∧ (∀ j, j + many ≤ p + k → ¬ FreeAt b p (p + n) many j) ∧
        (e'.getD 0 .undef = .str b ∧ e'.getD 2 .undef = .int .i64 ((p : Int) + (n : Int)) ∧ e'.getD 3 .undef = .int .i64 many ∧ e'.getD 11 .undef = .int .i64 r ∧ e'.getD 12 .undef = .int .i64 ((p : Int) + (k : Int)))

set_option maxRecDepth 20000 in
theorem run_ret (W : World) (b : List UInt8) (x y c : Int) : Ret (CC W) 15 [.str b, .int .i64 x, .int .i64 y, .int .i64 c] (.tup [.int .i64 (runR b x y c).1, .int .i64 (runR b x y c).2]) := by
  intro h
  refine acall_fin (cc_ok W) (fn15 W) (by simp only [Try.f15]; rfl) rfl rfl ?_
  simp [Wc_seq, Wc_block, Wc_scope, Wc_skip, Wc_label, Wc_exit, Wc_ret, Wc_loop, Wc_region, Wc_cond, Nx_nil, Nx_seq, Nx_seq_exit, Nx_seq_ret, Nx_block, Nx_block_exit, Nx_block_ret, Rg_nil, Rg_cons, RgE, effA, calleeA, wantedA, enterN, ev, ofV, ofVn, putE, evalN, aBin, aInt_add, aInt_sub, aInt_mul, aInt_quo, aInt_rem, aInt_eql, aInt_neq, aInt_lss, aInt_leq, aInt_gtr, aInt_geq, aExtract, finQ_ret, resOf, kq_eq, thenQ_normal, thenQ_exit, thenQ_ret]
  refine callK_Ret (by simp [fn21]) (asked_ret W b x y) ?_
  by_cases h0 : askedR b x y = 0
  · by_cases h1 : c < 1
    · have hv : runR b x y c = (0, 1) := by simp [runR, h0, h1]
      rw [hv]
      simp [Wc_seq, Wc_block, Wc_scope, Wc_skip, Wc_label, Wc_exit, Wc_ret, Wc_loop, Wc_region, Wc_cond, Nx_nil, Nx_seq, Nx_seq_exit, Nx_seq_ret, Nx_block, Nx_block_exit, Nx_block_ret, Rg_nil, Rg_cons, RgE, effA, calleeA, wantedA, enterN, ev, ofV, ofVn, putE, evalN, aBin, aInt_add, aInt_sub, aInt_mul, aInt_quo, aInt_rem, aInt_eql, aInt_neq, aInt_lss, aInt_leq, aInt_gtr, aInt_geq, aExtract, finQ_ret, resOf, kq_eq, thenQ_normal, thenQ_exit, thenQ_ret, h0, h1]
    · have hv : runR b x y c = runV b x.toNat y.toNat c.toNat := by simp [runR, h0, h1]
      obtain ⟨hlen, p, n, rfl, rfl, hpn⟩ := asked_zero h0
      obtain ⟨many, rfl⟩ : ∃ k : Nat, c = (k : Int) := ⟨c.toNat, by omega⟩
      have hm1 : ¬ many < 1 := by omega
      have hv' : runR b (p : Int) ((p : Int) + (n : Int)) (many : Int) = runV b p (p + n) many := by
        rw [hv, show ((p : Int) + (n : Int)).toNat = p + n from by omega]; simp
      rw [hv']
      simp [Wc_seq, Wc_block, Wc_scope, Wc_skip, Wc_label, Wc_exit, Wc_ret, Wc_loop, Wc_region, Wc_cond, Nx_nil, Nx_seq, Nx_seq_exit, Nx_seq_ret, Nx_block, Nx_block_exit, Nx_block_ret, Rg_nil, Rg_cons, RgE, effA, calleeA, wantedA, enterN, ev, ofV, ofVn, putE, evalN, aBin, aInt_add, aInt_sub, aInt_mul, aInt_quo, aInt_rem, aInt_eql, aInt_neq, aInt_lss, aInt_leq, aInt_gtr, aInt_geq, aExtract, finQ_ret, resOf, kq_eq, thenQ_normal, thenQ_exit, thenQ_ret, h0, h1, hm1]
      refine loopN (cc_ok W) (RunI b p n many h) n ⟨rfl, by simp, 0, 0, by simp, by omega, by simp, by simp, by simp, fun j hj hf => by have := hf.1; omega, by simp⟩ ?_
      rintro m e' h' ⟨rfl, hl, k, r, hk, hr, hrk, hfr, hst, hno, hh⟩
      match e', hl with
      | a0 :: a1 :: a2 :: a3 :: a4 :: a5 :: a6 :: a7 :: a8 :: a9 :: a10 :: a11 :: a12 :: a13 :: a14 :: a15 :: a16 :: a17 :: a18 :: a19 :: a20 :: a21 :: a22 :: a23 :: a24 :: a25 :: a26 :: a27 :: a28 :: a29 :: a30 :: a31 :: a32 :: a33 :: a34 :: a35 :: a36 :: a37 :: a38 :: a39 :: a40 :: a41 :: [], _ =>
        simp at hh
        obtain ⟨rfl, rfl, rfl, rfl, rfl⟩ := hh
        have hwk : IntKind.i64.wrap ((p : Int) + (k : Int) + 1) = (p : Int) + (k : Int) + 1 := wrap64 (by omega) (by omega)
        have hwr : IntKind.i64.wrap ((r : Int) + 1) = (r : Int) + 1 := wrap64 (by omega) (by omega)
        by_cases hlt : k < n
        · simp [Wc_seq, Wc_block, Wc_scope, Wc_skip, Wc_label, Wc_exit, Wc_ret, Wc_loop, Wc_region, Wc_cond, Nx_nil, Nx_seq, Nx_seq_exit, Nx_seq_ret, Nx_block, Nx_block_exit, Nx_block_ret, Rg_nil, Rg_cons, RgE, effA, calleeA, wantedA, enterN, ev, ofV, ofVn, putE, evalN, aBin, aInt_add, aInt_sub, aInt_mul, aInt_quo, aInt_rem, aInt_eql, aInt_neq, aInt_lss, aInt_leq, aInt_gtr, aInt_geq, aExtract, finQ_ret, resOf, kq_eq, thenQ_normal, thenQ_exit, thenQ_ret, hlt, hwr]
          have ht := taken_ret W b (p + k) (by omega) (by omega)
          rw [Int.natCast_add] at ht
          refine callK_Ret (by simp [fn18]) ht ?_
          cases hbit : bit b (p + k)
          · by_cases hrm : r + 1 = many
            · have hrm' : (r : Int) + 1 = (many : Int) := by omega
              have hw1 : IntKind.i64.wrap ((p : Int) + (k : Int) - (many : Int)) = (p : Int) + (k : Int) - (many : Int) := wrap64 (by omega) (by omega)
              have hw2 : IntKind.i64.wrap ((p : Int) + (k : Int) - (many : Int) + 1) = (p : Int) + (k : Int) - (many : Int) + 1 := wrap64 (by omega) (by omega)
              have hfree : FreeAt b p (p + n) many (p + k - r) := ⟨by omega, by omega, fun j hj => by
                rcases Nat.lt_or_ge j r with h | h
                · exact hfr j h
                · rw [show p + k - r + j = p + k from by omega]; exact hbit⟩
              have hres := runV_some hfree fun j hj => hno j (by omega)
              simp [Wc_seq, Wc_block, Wc_scope, Wc_skip, Wc_label, Wc_exit, Wc_ret, Wc_loop, Wc_region, Wc_cond, Nx_nil, Nx_seq, Nx_seq_exit, Nx_seq_ret, Nx_block, Nx_block_exit, Nx_block_ret, Rg_nil, Rg_cons, RgE, effA, calleeA, wantedA, enterN, ev, ofV, ofVn, putE, evalN, aBin, aInt_add, aInt_sub, aInt_mul, aInt_quo, aInt_rem, aInt_eql, aInt_neq, aInt_lss, aInt_leq, aInt_gtr, aInt_geq, aExtract, finQ_ret, resOf, kq_eq, thenQ_normal, thenQ_exit, thenQ_ret, hrm', hw1, hw2, hres]
              omega
            · have hrm' : ¬ (r : Int) + 1 = (many : Int) := by omega
              simp [Wc_seq, Wc_block, Wc_scope, Wc_skip, Wc_label, Wc_exit, Wc_ret, Wc_loop, Wc_region, Wc_cond, Nx_nil, Nx_seq, Nx_seq_exit, Nx_seq_ret, Nx_block, Nx_block_exit, Nx_block_ret, Rg_nil, Rg_cons, RgE, effA, calleeA, wantedA, enterN, ev, ofV, ofVn, putE, evalN, aBin, aInt_add, aInt_sub, aInt_mul, aInt_quo, aInt_rem, aInt_eql, aInt_neq, aInt_lss, aInt_leq, aInt_gtr, aInt_geq, aExtract, finQ_ret, resOf, kq_eq, thenQ_normal, thenQ_exit, thenQ_ret, hrm', hwk]
              refine ⟨m - 1, by omega, rfl, by simp, k + 1, r + 1, by omega, by omega, by omega, ?_, ?_, ?_, by simp; omega⟩
              · intro j hj
                rcases Nat.lt_or_ge j r with h | h
                · rw [show p + (k + 1) - (r + 1) + j = p + k - r + j from by omega]; exact hfr j h
                · rw [show p + (k + 1) - (r + 1) + j = p + k from by omega]; exact hbit
              · rcases hst with h | h
                · left; omega
                · right; rw [show p + (k + 1) - (r + 1) - 1 = p + k - r - 1 from by omega]; exact h
              · intro j hj
                rcases Nat.lt_or_ge (p + k) (j + many) with h | h
                · rcases hst with h2 | h2
                  · intro hf; have := hf.1; omega
                  · exact not_free_of h2 (by omega) (by omega)
                · exact hno j h
          · have hz : ¬ (0 : Int) = (many : Int) := by omega
            have hz' : ¬ 0 = many := by omega
            simp [Wc_seq, Wc_block, Wc_scope, Wc_skip, Wc_label, Wc_exit, Wc_ret, Wc_loop, Wc_region, Wc_cond, Nx_nil, Nx_seq, Nx_seq_exit, Nx_seq_ret, Nx_block, Nx_block_exit, Nx_block_ret, Rg_nil, Rg_cons, RgE, effA, calleeA, wantedA, enterN, ev, ofV, ofVn, putE, evalN, aBin, aInt_add, aInt_sub, aInt_mul, aInt_quo, aInt_rem, aInt_eql, aInt_neq, aInt_lss, aInt_leq, aInt_gtr, aInt_geq, aExtract, finQ_ret, resOf, kq_eq, thenQ_normal, thenQ_exit, thenQ_ret, hz, hz', hwk]
            refine ⟨m - 1, by omega, rfl, by simp, k + 1, 0, by omega, by omega, by omega, ?_, ?_, ?_, by simp; omega⟩
            · intro j hj; omega
            · right; rw [show p + (k + 1) - 0 - 1 = p + k from by omega]; exact hbit
            · intro j hj
              rcases Nat.lt_or_ge (p + k) (j + many) with h | h
              · exact not_free_of hbit (by omega) (by omega)
              · exact hno j h
        · obtain rfl : k = n := by omega
          have hres : runV b p (p + k) many = (0, 5) := runV_none fun j hf => hno j hf.2.1 hf
          simp [Wc_seq, Wc_block, Wc_scope, Wc_skip, Wc_label, Wc_exit, Wc_ret, Wc_loop, Wc_region, Wc_cond, Nx_nil, Nx_seq, Nx_seq_exit, Nx_seq_ret, Nx_block, Nx_block_exit, Nx_block_ret, Rg_nil, Rg_cons, RgE, effA, calleeA, wantedA, enterN, ev, ofV, ofVn, putE, evalN, aBin, aInt_add, aInt_sub, aInt_mul, aInt_quo, aInt_rem, aInt_eql, aInt_neq, aInt_lss, aInt_leq, aInt_gtr, aInt_geq, aExtract, finQ_ret, resOf, kq_eq, thenQ_normal, thenQ_exit, thenQ_ret, hres]
  · have hv : runR b x y c = (0, askedR b x y) := by simp [runR, h0]
    rw [hv]
    simp [Wc_seq, Wc_block, Wc_scope, Wc_skip, Wc_label, Wc_exit, Wc_ret, Wc_loop, Wc_region, Wc_cond, Nx_nil, Nx_seq, Nx_seq_exit, Nx_seq_ret, Nx_block, Nx_block_exit, Nx_block_ret, Rg_nil, Rg_cons, RgE, effA, calleeA, wantedA, enterN, ev, ofV, ofVn, putE, evalN, aBin, aInt_add, aInt_sub, aInt_mul, aInt_quo, aInt_rem, aInt_eql, aInt_neq, aInt_lss, aInt_leq, aInt_gtr, aInt_geq, aExtract, finQ_ret, resOf, kq_eq, thenQ_normal, thenQ_exit, thenQ_ret, h0]
end Go.Proofs.Ytoioomplhebadaa.Ax
