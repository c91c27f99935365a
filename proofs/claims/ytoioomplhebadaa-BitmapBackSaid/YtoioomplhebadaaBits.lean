/- Bitmaps: what the functions of the bitmap, and those of the document, answer: bits. -/
import Derived.Test.YtoioomplhebadaaTab
set_option linter.unusedVariables false
set_option linter.unusedSimpArgs false
namespace Go.Proofs.Ytoioomplhebadaa.Ax
open Go.RowKit

def bitB (x : UInt8) (j : Nat) : Bool := x.toNat.testBit j
def bit (b : List UInt8) (i : Nat) : Bool := bitB (b.getD (i / 8) 0) (i % 8)
def shrB (x : UInt8) (j : Nat) : Int := ((x.toNat >>> j : Nat) : Int)

theorem shr8 {x : UInt8} {i : Nat} : aShift .shr .u8 (x.toNat : Int) ((i : Int) % 8) = some (.int .u8 (shrB x (i % 8))) := by
  have h1 : ¬ ((i : Int) % 8 < 0) := by omega
  have h2 : min (i % 8) IntKind.u8.bits = i % 8 := by simp only [IntKind.bits]; omega
  have h3 : ((i : Int) % 8).toNat = i % 8 := by omega
  simp only [aShift, h1, if_false, h3, h2, shrB]
  congr 2
  rw [Nat.shiftRight_eq_div_pow, show ((2 : Int) ^ (i % 8)) = ((2 ^ (i % 8) : Nat) : Int) from by simp, Int.fdiv_eq_ediv_of_nonneg _ (Int.natCast_nonneg _)]
  rfl

theorem and1 {x : UInt8} {j : Nat} : aInt .and .u8 (shrB x j) 1 = some (.int .u8 (if bitB x j then 1 else 0)) := by
  have : ∀ m : Fin 256, IntKind.u8.wrap ((BitVec.ofInt IntKind.u8.bits ((m.val : Nat) : Int) &&& BitVec.ofInt IntKind.u8.bits 1).toNat : Int) = ((m.val % 2 : Nat) : Int) := by decide +kernel
  have hlt : x.toNat >>> j < 256 := by
    have := x.toNat_lt
    rw [Nat.shiftRight_eq_div_pow]
    exact Nat.lt_of_le_of_lt (Nat.div_le_self _ _) this
  simp only [aInt, shrB]
  rw [this ⟨_, hlt⟩]
  simp only [bitB, Nat.testBit_eq_decide_div_mod_eq, Nat.shiftRight_eq_div_pow, decide_eq_true_eq]
  congr 2
  split <;> omega

theorem getD_some {b : List UInt8} {k : Nat} (hk : k < b.length) : b[k]? = some (b.getD k 0) := by
  simp [List.getD_eq_getElem?_getD, hk]

theorem cdiv8 (i : Nat) : Int.tdiv (i : Int) 8 = (i : Int) / 8 := _root_.id rfl
theorem cmod8 (i : Nat) : Int.tmod (i : Int) 8 = (i : Int) % 8 := _root_.id rfl
theorem nn8 (i : Nat) : 0 ≤ (i : Int) / 8 := by omega
theorem tn8 (i : Nat) : ((i : Int) / 8).toNat = i / 8 := by omega

theorem bit_at {b : List UInt8} {i : Nat} (hi : i / 8 < b.length) : ∃ x, b[i / 8]? = some x ∧ bit b i = bitB x (i % 8) := by
  refine ⟨b[i / 8], by simp [hi], by simp [bit, hi]⟩

theorem taken_ret (W : World) (b : List UInt8) (i : Nat) (hi : i / 8 < b.length) (hi2 : i < 1024) : Ret (CC W) 18 [.str b, .int .i64 i] (.bool (bit b i)) := by
  intro h
  refine acall_fin (cc_ok W) (fn18 W) (by simp only [Try.f18]; rfl) rfl rfl ?_
  have h8 : i % 8 < 8 := Nat.mod_lt _ (by decide)
  have hw : IntKind.i64.wrap ((i : Int) / 8) = (i : Int) / 8 := wrap64 (by omega) (by omega)
  obtain ⟨x, hx, hb⟩ := bit_at hi
  simp [Wc_seq, Wc_block, Wc_scope, Wc_skip, Wc_label, Wc_exit, Wc_ret, Wc_loop, Wc_region, Wc_cond, Nx_nil, Nx_seq, Nx_seq_exit, Nx_seq_ret, Nx_block, Nx_block_exit, Nx_block_ret, Rg_nil, Rg_cons, RgE, effA, calleeA, wantedA, enterN, ev, ofV, ofVn, putE, evalN, aBin, aInt_add, aInt_sub, aInt_mul, aInt_quo, aInt_rem, aInt_eql, aInt_neq, aInt_lss, aInt_leq, aInt_gtr, aInt_geq, aExtract, finQ_ret, resOf, kq_eq, thenQ_normal, thenQ_exit, thenQ_ret, aIndex, kind9, cdiv8, cmod8, hw, nn8, tn8, hx, shr8, and1, hb]
  cases bitB x (i % 8) <;> rfl
end Go.Proofs.Ytoioomplhebadaa.Ax
