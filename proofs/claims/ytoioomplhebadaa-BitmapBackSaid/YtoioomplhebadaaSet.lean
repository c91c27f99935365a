/- Bitmaps: a bitmap with a bit so. -/
import Derived.Test.YtoioomplhebadaaRefRun

import Derived.KernelRfl
set_option linter.unusedVariables false
set_option linter.unusedSimpArgs false
namespace Go.Proofs.Ytoioomplhebadaa.Ax
open Go.RowKit

def clrN (x j : Nat) : Nat := if x.testBit j then x - 2 ^ j else x
def setN (x j : Nat) : Nat := if x.testBit j then x else x + 2 ^ j
def one8 (j : Nat) : Int := ((2 ^ j : Nat) : Int)

theorem clr_lt : ∀ (x : Fin 256) (j : Fin 8), clrN x.val j.val < 256 := by decide +kernel
theorem set_lt : ∀ (x : Fin 256) (j : Fin 8), setN x.val j.val < 256 := by decide +kernel
theorem andNotF : ∀ (x : Fin 256) (j : Fin 8), IntKind.u8.wrap (BitVec.ofInt IntKind.u8.bits ((x.val : Nat) : Int) &&& ~~~ BitVec.ofInt IntKind.u8.bits (one8 j.val)).toNat = ((clrN x.val j.val : Nat) : Int) := by decide +kernel
theorem orF : ∀ (x : Fin 256) (j : Fin 8), IntKind.u8.wrap (BitVec.ofInt IntKind.u8.bits ((clrN x.val j.val : Nat) : Int) ||| BitVec.ofInt IntKind.u8.bits (one8 j.val)).toNat = ((setN x.val j.val : Nat) : Int) := by decide +kernel
theorem addF : ∀ (x : Fin 256) (j : Fin 8), x.val.testBit j.val = false → IntKind.u8.wrap (((x.val : Nat) : Int) + one8 j.val) = ((setN x.val j.val : Nat) : Int) := by decide +kernel
theorem subF : ∀ (x : Fin 256) (j : Fin 8), x.val.testBit j.val = true → IntKind.u8.wrap (((x.val : Nat) : Int) - one8 j.val) = ((clrN x.val j.val : Nat) : Int) := by decide +kernel
theorem oneF : ∀ (j : Fin 8), IntKind.u8.wrap (1 * 2 ^ j.val) = one8 j.val := by decide +kernel

theorem shl8 {i : Nat} : aShift .shl .u8 1 ((i : Int) % 8) = some (.int .u8 (one8 (i % 8))) := by
  have h1 : ¬ ((i : Int) % 8 < 0) := by omega
  have h2 : min (i % 8) IntKind.u8.bits = i % 8 := by simp only [IntKind.bits]; omega
  have h3 : ((i : Int) % 8).toNat = i % 8 := by omega
  simp only [aShift, h1, if_false, h3, h2]
  rw [oneF ⟨i % 8, Nat.mod_lt _ (by decide)⟩]

theorem andNot8 {x : Nat} {i : Nat} (hx : x < 256) : aInt .andNot .u8 (x : Int) (one8 (i % 8)) = some (.int .u8 (clrN x (i % 8) : Nat)) := by
  simp only [aInt]
  rw [andNotF ⟨x, hx⟩ ⟨i % 8, Nat.mod_lt _ (by decide)⟩]
theorem or8 {x : Nat} {i : Nat} (hx : x < 256) : aInt .or .u8 (clrN x (i % 8) : Nat) (one8 (i % 8)) = some (.int .u8 (setN x (i % 8) : Nat)) := by
  simp only [aInt]
  rw [orF ⟨x, hx⟩ ⟨i % 8, Nat.mod_lt _ (by decide)⟩]

def putB (x : UInt8) (j : Nat) (on : Bool) : UInt8 := UInt8.ofNat (if on then setN x.toNat j else clrN x.toNat j)
def setL (b : List UInt8) (i : Nat) (on : Bool) : List UInt8 := b.set (i / 8) (putB (b.getD (i / 8) 0) (i % 8) on)
def setR (b : List UInt8) (i : Int) (on : Bool) : List UInt8 × Int := if (hasR b i).2 = 0 then (setL b i.toNat on, 0) else ([], (hasR b i).2)

theorem has_zero {b : List UInt8} {i : Int} (h : (hasR b i).2 = 0) : b.length = 128 ∧ ∃ n : Nat, i = (n : Int) ∧ n < 1024 ∧ (hasR b i).1 = bit b n := by
  unfold hasR at h ⊢
  split at h
  · rename_i hl
    split at h
    · simp at h
    · rename_i hi
      refine ⟨hl, i.toNat, by omega, by omega, ?_⟩
      rw [if_pos hl, if_neg hi]
  · simp at h

theorem aLoad_bytes {W : World} {h : AH} {k o : Nat} {l : List UInt8} {t : TypeId} {x : UInt8} (hk : h.get k = some (.cells (bcells l) t)) (hx : l[o]? = some x) : aLoad (CC W) h 5 (.new k o) = some (.int .u8 x.toNat) := by
  have : aLoad (CC W) h 5 (.new k o) = aCell (CC W) h (.new k o) := by
    unfold aLoad; rw [ty5]; rfl
  rw [this]
  simp only [aCell, hk]
  exact bcells_get hx

theorem aStore_bytes {W : World} {h : AH} {k o n : Nat} {l : List UInt8} {t : TypeId} (hk : h.get k = some (.cells (bcells l) t)) (ho : o < l.length) (hn : n < 256) :
    aStoreOp (CC W) h 5 (.ptr (some (.new k o))) (.int .u8 (n : Int)) = some (h.set k (.cells (bcells (l.set o (UInt8.ofNat n))) t)) := by
  simp only [aStoreOp, aCellsOf, size5, List.length_singleton, if_true, aStore, hk, bcells_length]
  rw [if_pos ⟨by omega, by simp [aOne]⟩, bcells_put ho hn]

theorem conv_bytes {W : World} {h : AH} {k : Nat} {l : List UInt8} {t : TypeId} {gr : Option Nat} (hk : h.get k = some (.cells (bcells l) t)) (hl : l.length = 128) :
    aConv (CC W) h 45 9 (.sl (some (.new k 0)) 128 128 gr) = some (.str l) := by
  simp only [aConv, kind45, kind9, kind5]
  have h2 : (bcells l).take 128 = bcells l := List.take_of_length_le (by rw [bcells_length]; omega)
  simp [aCells, hk, bcells_length, hl, h2, bcells_read]

theorem mk_bytes {W : World} {h : AH} {b : List UInt8} : aConvE (CC W) h 9 45 (.str b) = some (.sl (some (.new h.next 0)) b.length b.length (some 1), h.push (.cells (bcells b) 5)) := by
  simp only [aConvE, kind45, kind9, kind5]; rfl
theorem mk_none {W : World} {h : AH} {b : List UInt8} : aConv (CC W) h 9 45 (.str b) = none := by
  simp only [aConv, kind45, kind9]
theorem idx_bytes {W : World} {k : Nat} {i : Nat} {gr : Option Nat} (hi : i < 1024) : aIndexAddr (CC W) 45 (.sl (some (.new k 0)) 128 128 gr) (.int .i64 ((i : Int) / 8)) = some (.ptr (some (.new k (i / 8)))) := by
  simp only [aIndexAddr, kind45, size5]
  rw [if_pos (by omega), tn8]
  simp [AA.add]

set_option maxRecDepth 20000 in
theorem set_ret (W : World) (b : List UInt8) (i : Int) (on : Bool) : RetA (CC W) 10 [.str b, .int .i64 i, .bool on] (.tup [.str (setR b i on).1, .int .i64 (setR b i on).2]) := by
  intro h
  refine acall_fin (cc_ok W) (fn10 W) (by simp only [Try.f10]; rfl) rfl rfl ?_
  simp [Wc_seq, Wc_block, Wc_scope, Wc_skip, Wc_label, Wc_exit, Wc_ret, Wc_loop, Wc_region, Wc_cond, Nx_nil, Nx_seq, Nx_seq_exit, Nx_seq_ret, Nx_block, Nx_block_exit, Nx_block_ret, Rg_nil, Rg_cons, RgE, effA, calleeA, wantedA, enterN, ev, ofV, ofVn, putE, evalN, aBin, aInt_add, aInt_sub, aInt_mul, aInt_quo, aInt_rem, aInt_eql, aInt_neq, aInt_lss, aInt_leq, aInt_gtr, aInt_geq, aExtract, finQ_ret, resOf, kq_eq, thenQ_normal, thenQ_exit, thenQ_ret]
  refine callK_Ret (by simp [fn8]) (has_ret W b i) ?_
  by_cases h0 : (hasR b i).2 = 0
  · have hv : setR b i on = (setL b i.toNat on, 0) := by simp [setR, h0]
    rw [hv]
    obtain ⟨hlen, n, rfl, hn, _⟩ := has_zero h0
    have hw : IntKind.i64.wrap ((n : Int) / 8) = (n : Int) / 8 := wrap64 (by omega) (by omega)
    obtain ⟨x, hx, hb⟩ := bit_at (b := b) (i := n) (by omega)
    have hlx : b.getD (n / 8) 0 = x := by simp [hx]
    have hj : n % 8 < 8 := Nat.mod_lt _ (by decide)
    have hx2 := x.toNat_lt
    have hclr := clr_lt ⟨x.toNat, hx2⟩ ⟨n % 8, hj⟩
    have hset := set_lt ⟨x.toNat, hx2⟩ ⟨n % 8, hj⟩
    simp only at hclr hset
    simp [Wc_seq, Wc_block, Wc_scope, Wc_skip, Wc_label, Wc_exit, Wc_ret, Wc_loop, Wc_region, Wc_cond, Nx_nil, Nx_seq, Nx_seq_exit, Nx_seq_ret, Nx_block, Nx_block_exit, Nx_block_ret, Rg_nil, Rg_cons, RgE, effA, calleeA, wantedA, enterN, ev, ofV, ofVn, putE, evalN, aBin, aInt_add, aInt_sub, aInt_mul, aInt_quo, aInt_rem, aInt_eql, aInt_neq, aInt_lss, aInt_leq, aInt_gtr, aInt_geq, aExtract, finQ_ret, resOf, kq_eq, thenQ_normal, thenQ_exit, thenQ_ret, h0, mk_none, mk_bytes, hlen]
    refine draw1 (cc_ok W) [0, 1, 2, 3, 4, 5, 6, 7, 8, 9, 10] (by kernel_rfl) (by kernel_rfl) (by kernel_rfl) rfl ?_
    have hg : (h.push (.cells (bcells b) 5)).get h.next = some (.cells (bcells b) 5) := by simp
    simp [Wc_seq, Wc_block, Wc_scope, Wc_skip, Wc_label, Wc_exit, Wc_ret, Wc_loop, Wc_region, Wc_cond, Nx_nil, Nx_seq, Nx_seq_exit, Nx_seq_ret, Nx_block, Nx_block_exit, Nx_block_ret, Rg_nil, Rg_cons, RgE, effA, calleeA, wantedA, enterN, ev, ofV, ofVn, putE, evalN, aBin, aInt_add, aInt_sub, aInt_mul, aInt_quo, aInt_rem, aInt_eql, aInt_neq, aInt_lss, aInt_leq, aInt_gtr, aInt_geq, aExtract, finQ_ret, resOf, kq_eq, thenQ_normal, thenQ_exit, thenQ_ret, cdiv8, cmod8, hw, idx_bytes hn, aLoad_bytes hg hx, shl8, andNot8 hx2, aStore_bytes hg (show n / 8 < b.length by omega) hclr]
    have hl1 : (b.set (n / 8) (UInt8.ofNat (clrN x.toNat (n % 8)))).length = 128 := by simp [hlen]
    have hg2 : ((h.push (.cells (bcells b) 5)).set h.next (.cells (bcells (b.set (n / 8) (UInt8.ofNat (clrN x.toNat (n % 8))))) 5)).get h.next = some (.cells (bcells (b.set (n / 8) (UInt8.ofNat (clrN x.toNat (n % 8))))) 5) := by simp
    have hset1 : setL b n on = b.set (n / 8) (putB x (n % 8) on) := by simp only [setL, hlx]
    rw [hset1]
    cases on with
    | false =>
      simp [Wc_seq, Wc_block, Wc_scope, Wc_skip, Wc_label, Wc_exit, Wc_ret, Wc_loop, Wc_region, Wc_cond, Nx_nil, Nx_seq, Nx_seq_exit, Nx_seq_ret, Nx_block, Nx_block_exit, Nx_block_ret, Rg_nil, Rg_cons, RgE, effA, calleeA, wantedA, enterN, ev, ofV, ofVn, putE, evalN, aBin, aInt_add, aInt_sub, aInt_mul, aInt_quo, aInt_rem, aInt_eql, aInt_neq, aInt_lss, aInt_leq, aInt_gtr, aInt_geq, aExtract, finQ_ret, resOf, kq_eq, thenQ_normal, thenQ_exit, thenQ_ret, conv_bytes hg2 hl1, putB]
    | true =>
      have hx1 : (b.set (n / 8) (UInt8.ofNat (clrN x.toNat (n % 8))))[n / 8]? = some (UInt8.ofNat (clrN x.toNat (n % 8))) := by
        rw [List.getElem?_set]; simp; omega
      have hld : aLoad (CC W) ((h.push (.cells (bcells b) 5)).set h.next (.cells (bcells (b.set (n / 8) (UInt8.ofNat (clrN x.toNat (n % 8))))) 5)) 5 (.new h.next (n / 8)) = some (.int .u8 (clrN x.toNat (n % 8) : Nat)) := by
        rw [aLoad_bytes hg2 hx1]
        simp [Nat.mod_eq_of_lt hclr]
      have hst := aStore_bytes (W := W) (n := setN x.toNat (n % 8)) hg2 (show n / 8 < (b.set (n / 8) (UInt8.ofNat (clrN x.toNat (n % 8)))).length by omega) hset
      rw [if_pos rfl]
      refine draw1 (cc_ok W) [0, 1, 2, 3, 4, 5, 6, 7, 8, 9, 10] (by kernel_rfl) (by kernel_rfl) (by kernel_rfl) rfl ?_
      simp [Wc_seq, Wc_block, Wc_scope, Wc_skip, Wc_label, Wc_exit, Wc_ret, Wc_loop, Wc_region, Wc_cond, Nx_nil, Nx_seq, Nx_seq_exit, Nx_seq_ret, Nx_block, Nx_block_exit, Nx_block_ret, Rg_nil, Rg_cons, RgE, effA, calleeA, wantedA, enterN, ev, ofV, ofVn, putE, evalN, aBin, aInt_add, aInt_sub, aInt_mul, aInt_quo, aInt_rem, aInt_eql, aInt_neq, aInt_lss, aInt_leq, aInt_gtr, aInt_geq, aExtract, finQ_ret, resOf, kq_eq, thenQ_normal, thenQ_exit, thenQ_ret, cdiv8, cmod8, hw, idx_bytes hn, hld, shl8, or8 hx2, hst]
      have hg3 : (((h.push (.cells (bcells b) 5)).set h.next (.cells (bcells (b.set (n / 8) (UInt8.ofNat (clrN x.toNat (n % 8))))) 5)).set h.next (.cells (bcells (b.set (n / 8) (UInt8.ofNat (setN x.toNat (n % 8))))) 5)).get h.next = some (.cells (bcells (b.set (n / 8) (UInt8.ofNat (setN x.toNat (n % 8))))) 5) := by simp
      simp [Wc_seq, Wc_block, Wc_scope, Wc_skip, Wc_label, Wc_exit, Wc_ret, Wc_loop, Wc_region, Wc_cond, Nx_nil, Nx_seq, Nx_seq_exit, Nx_seq_ret, Nx_block, Nx_block_exit, Nx_block_ret, Rg_nil, Rg_cons, RgE, effA, calleeA, wantedA, enterN, ev, ofV, ofVn, putE, evalN, aBin, aInt_add, aInt_sub, aInt_mul, aInt_quo, aInt_rem, aInt_eql, aInt_neq, aInt_lss, aInt_leq, aInt_gtr, aInt_geq, aExtract, finQ_ret, resOf, kq_eq, thenQ_normal, thenQ_exit, thenQ_ret, conv_bytes hg3 (show (b.set (n / 8) (UInt8.ofNat (setN x.toNat (n % 8)))).length = 128 by simp [hlen]), putB]
  · have hv : setR b i on = ([], (hasR b i).2) := by simp [setR, h0]
    rw [hv]
    simp [Wc_seq, Wc_block, Wc_scope, Wc_skip, Wc_label, Wc_exit, Wc_ret, Wc_loop, Wc_region, Wc_cond, Nx_nil, Nx_seq, Nx_seq_exit, Nx_seq_ret, Nx_block, Nx_block_exit, Nx_block_ret, Rg_nil, Rg_cons, RgE, effA, calleeA, wantedA, enterN, ev, ofV, ofVn, putE, evalN, aBin, aInt_add, aInt_sub, aInt_mul, aInt_quo, aInt_rem, aInt_eql, aInt_neq, aInt_lss, aInt_leq, aInt_gtr, aInt_geq, aExtract, finQ_ret, resOf, kq_eq, thenQ_normal, thenQ_exit, thenQ_ret, h0]

set_option maxRecDepth 20000 in
theorem Set_ret (W : World) (b : List UInt8) (i : Int) (on : Bool) : RetA (CC W) 11 [.str b, .int .i64 i, .bool on] (.tup [.str (setR b i on).1, .int .i64 (setR b i on).2]) := by
  intro h
  refine acall_fin (cc_ok W) (fn11 W) (by simp only [Try.f11]; rfl) rfl rfl ?_
  simp [Wc_seq, Wc_block, Wc_scope, Wc_skip, Wc_label, Wc_exit, Wc_ret, Wc_loop, Wc_region, Wc_cond, Nx_nil, Nx_seq, Nx_seq_exit, Nx_seq_ret, Nx_block, Nx_block_exit, Nx_block_ret, Rg_nil, Rg_cons, RgE, effA, calleeA, wantedA, enterN, ev, ofV, ofVn, putE, evalN, aBin, aInt_add, aInt_sub, aInt_mul, aInt_quo, aInt_rem, aInt_eql, aInt_neq, aInt_lss, aInt_leq, aInt_gtr, aInt_geq, aExtract, finQ_ret, resOf, kq_eq, thenQ_normal, thenQ_exit, thenQ_ret]
  refine callK_Ret (by simp [fn9]) (Has_ret W b i) ?_
  by_cases h0 : (hasR b i).2 = 0
  · have hv : setR b i on = (setL b i.toNat on, 0) := by simp [setR, h0]
    rw [hv]
    obtain ⟨hlen, n, rfl, hn, hbit⟩ := has_zero h0
    have hw : IntKind.i64.wrap ((n : Int) / 8) = (n : Int) / 8 := wrap64 (by omega) (by omega)
    have hwm : aConv (CC W) (h.push (.cells (bcells b) 5)) 3 46 (.int .i64 ((n : Int) % 8)) = some (.int .u64 ((n : Int) % 8)) := by
      simp only [aConv, kind3, kind46]
      have : IntKind.u64.wrap ((n : Int) % 8) = (n : Int) % 8 := by
        have : ∀ j : Fin 8, IntKind.u64.wrap ((j.val : Nat) : Int) = ((j.val : Nat) : Int) := by decide +kernel
        exact this ⟨n % 8, Nat.mod_lt _ (by decide)⟩
      rw [this]
    obtain ⟨x, hx, hb⟩ := bit_at (b := b) (i := n) (by omega)
    have hlx : b.getD (n / 8) 0 = x := by simp [hx]
    have hj : n % 8 < 8 := Nat.mod_lt _ (by decide)
    have hx2 := x.toNat_lt
    have hclr := clr_lt ⟨x.toNat, hx2⟩ ⟨n % 8, hj⟩
    have hset := set_lt ⟨x.toNat, hx2⟩ ⟨n % 8, hj⟩
    have hadd := addF ⟨x.toNat, hx2⟩ ⟨n % 8, hj⟩
    have hsub := subF ⟨x.toNat, hx2⟩ ⟨n % 8, hj⟩
    simp only at hclr hset hadd hsub
    have hg : (h.push (.cells (bcells b) 5)).get h.next = some (.cells (bcells b) 5) := by simp
    have hset1 : setL b n on = b.set (n / 8) (putB x (n % 8) on) := by simp only [setL, hlx]
    have hself : b.set (n / 8) x = b := by
      apply List.ext_getElem? ; intro k
      rw [List.getElem?_set]
      split
      · rename_i hk; subst hk; rw [if_pos (by omega), hx]
      · rfl
    have hxx : x.toNat.testBit (n % 8) = bit b n := by rw [hb]; rfl
    have hlt8 : n / 8 < b.length := by omega
    have hst1 := aStore_bytes (W := W) (n := setN x.toNat (n % 8)) hg hlt8 hset
    have hst2 := aStore_bytes (W := W) (n := clrN x.toNat (n % 8)) hg hlt8 hclr
    have hg1 : ((h.push (.cells (bcells b) 5)).set h.next (.cells (bcells (b.set (n / 8) (UInt8.ofNat (setN x.toNat (n % 8))))) 5)).get h.next = some (.cells (bcells (b.set (n / 8) (UInt8.ofNat (setN x.toNat (n % 8))))) 5) := by simp
    have hg2 : ((h.push (.cells (bcells b) 5)).set h.next (.cells (bcells (b.set (n / 8) (UInt8.ofNat (clrN x.toNat (n % 8))))) 5)).get h.next = some (.cells (bcells (b.set (n / 8) (UInt8.ofNat (clrN x.toNat (n % 8))))) 5) := by simp
    have hc0 := conv_bytes (W := W) (gr := some 1) hg hlen
    have hc1 := conv_bytes (W := W) (gr := some 1) hg1 (by simp [hlen])
    have hc2 := conv_bytes (W := W) (gr := some 1) hg2 (by simp [hlen])
    rw [show ((n : Int).toNat) = n from by omega, hset1]
    cases hbv : bit b n <;> cases on
    · have hcl : clrN x.toNat (n % 8) = x.toNat := by simp [clrN, hxx, hbv]
      simp [Wc_seq, Wc_block, Wc_scope, Wc_skip, Wc_label, Wc_exit, Wc_ret, Wc_loop, Wc_region, Wc_cond, Nx_nil, Nx_seq, Nx_seq_exit, Nx_seq_ret, Nx_block, Nx_block_exit, Nx_block_ret, Rg_nil, Rg_cons, RgE, effA, calleeA, wantedA, enterN, ev, ofV, ofVn, putE, evalN, aBin, aInt_add, aInt_sub, aInt_mul, aInt_quo, aInt_rem, aInt_eql, aInt_neq, aInt_lss, aInt_leq, aInt_gtr, aInt_geq, aExtract, finQ_ret, resOf, kq_eq, thenQ_normal, thenQ_exit, thenQ_ret, h0, mk_none, mk_bytes, hlen, cmod8, hwm, shl8, hbit, hbv, hc0, putB, hcl, hself, aUn]
    · simp [Wc_seq, Wc_block, Wc_scope, Wc_skip, Wc_label, Wc_exit, Wc_ret, Wc_loop, Wc_region, Wc_cond, Nx_nil, Nx_seq, Nx_seq_exit, Nx_seq_ret, Nx_block, Nx_block_exit, Nx_block_ret, Rg_nil, Rg_cons, RgE, effA, calleeA, wantedA, enterN, ev, ofV, ofVn, putE, evalN, aBin, aInt_add, aInt_sub, aInt_mul, aInt_quo, aInt_rem, aInt_eql, aInt_neq, aInt_lss, aInt_leq, aInt_gtr, aInt_geq, aExtract, finQ_ret, resOf, kq_eq, thenQ_normal, thenQ_exit, thenQ_ret, h0, mk_none, mk_bytes, hlen, cmod8, cdiv8, hw, hwm, shl8, hbit, hbv, idx_bytes hn, aLoad_bytes hg hx, hadd (by rw [hxx, hbv]), hst1, hc1, putB, aUn]
    · simp [Wc_seq, Wc_block, Wc_scope, Wc_skip, Wc_label, Wc_exit, Wc_ret, Wc_loop, Wc_region, Wc_cond, Nx_nil, Nx_seq, Nx_seq_exit, Nx_seq_ret, Nx_block, Nx_block_exit, Nx_block_ret, Rg_nil, Rg_cons, RgE, effA, calleeA, wantedA, enterN, ev, ofV, ofVn, putE, evalN, aBin, aInt_add, aInt_sub, aInt_mul, aInt_quo, aInt_rem, aInt_eql, aInt_neq, aInt_lss, aInt_leq, aInt_gtr, aInt_geq, aExtract, finQ_ret, resOf, kq_eq, thenQ_normal, thenQ_exit, thenQ_ret, h0, mk_none, mk_bytes, hlen, cmod8, cdiv8, hw, hwm, shl8, hbit, hbv, idx_bytes hn, aLoad_bytes hg hx, hsub (by rw [hxx, hbv]), hst2, hc2, putB, aUn]
    · have hcl : setN x.toNat (n % 8) = x.toNat := by simp [setN, hxx, hbv]
      simp [Wc_seq, Wc_block, Wc_scope, Wc_skip, Wc_label, Wc_exit, Wc_ret, Wc_loop, Wc_region, Wc_cond, Nx_nil, Nx_seq, Nx_seq_exit, Nx_seq_ret, Nx_block, Nx_block_exit, Nx_block_ret, Rg_nil, Rg_cons, RgE, effA, calleeA, wantedA, enterN, ev, ofV, ofVn, putE, evalN, aBin, aInt_add, aInt_sub, aInt_mul, aInt_quo, aInt_rem, aInt_eql, aInt_neq, aInt_lss, aInt_leq, aInt_gtr, aInt_geq, aExtract, finQ_ret, resOf, kq_eq, thenQ_normal, thenQ_exit, thenQ_ret, h0, mk_none, mk_bytes, hlen, cmod8, hwm, shl8, hbit, hbv, hc0, putB, hcl, hself, aUn]
  · have hv : setR b i on = ([], (hasR b i).2) := by simp [setR, h0]
    rw [hv]
    simp [Wc_seq, Wc_block, Wc_scope, Wc_skip, Wc_label, Wc_exit, Wc_ret, Wc_loop, Wc_region, Wc_cond, Nx_nil, Nx_seq, Nx_seq_exit, Nx_seq_ret, Nx_block, Nx_block_exit, Nx_block_ret, Rg_nil, Rg_cons, RgE, effA, calleeA, wantedA, enterN, ev, ofV, ofVn, putE, evalN, aBin, aInt_add, aInt_sub, aInt_mul, aInt_quo, aInt_rem, aInt_eql, aInt_neq, aInt_lss, aInt_leq, aInt_gtr, aInt_geq, aExtract, finQ_ret, resOf, kq_eq, thenQ_normal, thenQ_exit, thenQ_ret, h0]
end Go.Proofs.Ytoioomplhebadaa.Ax
