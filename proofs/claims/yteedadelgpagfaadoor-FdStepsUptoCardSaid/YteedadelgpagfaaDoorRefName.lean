/- Names: what the document's Name tells. -/
import Derived.Test.YteedadelgpagfaaDoorTab
set_option linter.unusedVariables false
set_option linter.unusedSimpArgs false
namespace Go.Proofs.YteedadelgpagfaaDoor.Ax
open Go.RowKit

def badByte (b : UInt8) : Bool := b == 47 || b == 0
def nameR (s : List UInt8) : Int := if s = [] ∨ s = [46] ∨ s = [46, 46] then 309 else if s.any badByte then 309 else if 24 < s.length then 308 else 0

def NameI (s : List UInt8) (h : AH) (m : Nat) (e' : Env) (h' : AH) : Prop :=
  h' = h ∧ e'.length = 33 ∧ ∃ k : Nat, k + m = s.length ∧ (∀ j x, j < k → s[j]? = some x → badByte x = false) ∧ (e'.getD 0 .undef = .str s ∧ e'.getD 3 .undef = .int .i64 k)

theorem byte_eq (x y : UInt8) : ((x.toNat : Int) == (y.toNat : Int)) = (x == y) := by
  rw [Bool.eq_iff_iff, beq_iff_eq, beq_iff_eq, ← UInt8.toNat_inj]
  omega

set_option maxHeartbeats 2000000 in
set_option maxRecDepth 20000 in
theorem refName_ret (W : World) (s : List UInt8) (hs : s.length < 9223372036854775808) : Ret (CC W) 22 [.str s] (.int .i64 (nameR s)) := by
  intro h
  refine acall_fin (cc_ok W) (fn22 W) (by simp only [Tryd.f22]; rfl) rfl rfl ?_
  by_cases h1 : s = []
  · simp [Wc_seq, Wc_block, Wc_scope, Wc_skip, Wc_label, Wc_exit, Wc_ret, Wc_loop, Wc_region, Wc_cond, Nx_nil, Nx_seq, Nx_seq_exit, Nx_seq_ret, Nx_block, Nx_block_exit, Nx_block_ret, Rg_nil, Rg_cons, RgE, effA, calleeA, wantedA, enterN, ev, ofV, ofVn, putE, evalN, aBin, aInt_add, aInt_sub, aInt_mul, aInt_quo, aInt_rem, aInt_eql, aInt_neq, aInt_lss, aInt_leq, aInt_gtr, aInt_geq, aExtract, finQ_ret, resOf, extU, kq_eq, thenQ_normal, thenQ_exit, thenQ_ret, aStr, h1, nameR]
  · by_cases h2 : s = [46]
    · simp [Wc_seq, Wc_block, Wc_scope, Wc_skip, Wc_label, Wc_exit, Wc_ret, Wc_loop, Wc_region, Wc_cond, Nx_nil, Nx_seq, Nx_seq_exit, Nx_seq_ret, Nx_block, Nx_block_exit, Nx_block_ret, Rg_nil, Rg_cons, RgE, effA, calleeA, wantedA, enterN, ev, ofV, ofVn, putE, evalN, aBin, aInt_add, aInt_sub, aInt_mul, aInt_quo, aInt_rem, aInt_eql, aInt_neq, aInt_lss, aInt_leq, aInt_gtr, aInt_geq, aExtract, finQ_ret, resOf, extU, kq_eq, thenQ_normal, thenQ_exit, thenQ_ret, aStr, h2, nameR]
    · by_cases h3 : s = [46, 46]
      · simp [Wc_seq, Wc_block, Wc_scope, Wc_skip, Wc_label, Wc_exit, Wc_ret, Wc_loop, Wc_region, Wc_cond, Nx_nil, Nx_seq, Nx_seq_exit, Nx_seq_ret, Nx_block, Nx_block_exit, Nx_block_ret, Rg_nil, Rg_cons, RgE, effA, calleeA, wantedA, enterN, ev, ofV, ofVn, putE, evalN, aBin, aInt_add, aInt_sub, aInt_mul, aInt_quo, aInt_rem, aInt_eql, aInt_neq, aInt_lss, aInt_leq, aInt_gtr, aInt_geq, aExtract, finQ_ret, resOf, extU, kq_eq, thenQ_normal, thenQ_exit, thenQ_ret, aStr, h3, nameR]
      · have b1 : (s == []) = false := by rw [beq_eq_false_iff_ne]; exact h1
        have b2 : (s == [46]) = false := by rw [beq_eq_false_iff_ne]; exact h2
        have b3 : (s == [46, 46]) = false := by rw [beq_eq_false_iff_ne]; exact h3
        simp [Wc_seq, Wc_block, Wc_scope, Wc_skip, Wc_label, Wc_exit, Wc_ret, Wc_loop, Wc_region, Wc_cond, Nx_nil, Nx_seq, Nx_seq_exit, Nx_seq_ret, Nx_block, Nx_block_exit, Nx_block_ret, Rg_nil, Rg_cons, RgE, effA, calleeA, wantedA, enterN, ev, ofV, ofVn, putE, evalN, aBin, aInt_add, aInt_sub, aInt_mul, aInt_quo, aInt_rem, aInt_eql, aInt_neq, aInt_lss, aInt_leq, aInt_gtr, aInt_geq, aExtract, finQ_ret, resOf, extU, kq_eq, thenQ_normal, thenQ_exit, thenQ_ret, aStr, b1, b2, b3, h1, h2, h3]
        refine loopN (cc_ok W) (NameI s h) s.length ⟨rfl, by simp, 0, by simp, fun j x hj => by omega, by simp⟩ ?_
        rintro m e' h' ⟨rfl, hl, k, hk, hno, hh⟩
        match e', hl with
        | a0 :: a1 :: a2 :: a3 :: a4 :: a5 :: a6 :: a7 :: a8 :: a9 :: a10 :: a11 :: a12 :: a13 :: a14 :: a15 :: a16 :: a17 :: a18 :: a19 :: a20 :: a21 :: a22 :: a23 :: a24 :: a25 :: a26 :: a27 :: a28 :: a29 :: a30 :: a31 :: a32 :: [], _ =>
          simp at hh
          obtain ⟨rfl, rfl⟩ := hh
          by_cases hlt : k < s.length
          · have hwk : IntKind.i64.wrap ((k : Int) + 1) = (k : Int) + 1 := wrap64 (by omega) (by omega)
            have hx : s[k]? = some s[k] := by simp [hlt]
            have c1 : ((s[k].toNat : Int) == 47) = (s[k] == 47) := byte_eq s[k] 47
            have c2 : ((s[k].toNat : Int) == 0) = (s[k] == 0) := byte_eq s[k] 0
            cases hb : badByte s[k] with
            | true =>
              have hany : s.any badByte = true := by
                rw [List.any_eq_true]; exact ⟨s[k], List.mem_of_getElem? hx, hb⟩
              have hres : nameR s = 309 := by simp [nameR, h1, h2, h3, hany]
              unfold badByte at hb
              cases d1 : (s[k] == 47) <;> cases d2 : (s[k] == 0) <;> simp [d1, d2] at hb <;> simp [Wc_seq, Wc_block, Wc_scope, Wc_skip, Wc_label, Wc_exit, Wc_ret, Wc_loop, Wc_region, Wc_cond, Nx_nil, Nx_seq, Nx_seq_exit, Nx_seq_ret, Nx_block, Nx_block_exit, Nx_block_ret, Rg_nil, Rg_cons, RgE, effA, calleeA, wantedA, enterN, ev, ofV, ofVn, putE, evalN, aBin, aInt_add, aInt_sub, aInt_mul, aInt_quo, aInt_rem, aInt_eql, aInt_neq, aInt_lss, aInt_leq, aInt_gtr, aInt_geq, aExtract, finQ_ret, resOf, extU, kq_eq, thenQ_normal, thenQ_exit, thenQ_ret, aLen, kind9, hlt, aIndex, hx, c1, c2, d1, d2, hres]
            | false =>
              have hb' := hb
              unfold badByte at hb'
              simp only [Bool.or_eq_false_iff] at hb'
              simp [Wc_seq, Wc_block, Wc_scope, Wc_skip, Wc_label, Wc_exit, Wc_ret, Wc_loop, Wc_region, Wc_cond, Nx_nil, Nx_seq, Nx_seq_exit, Nx_seq_ret, Nx_block, Nx_block_exit, Nx_block_ret, Rg_nil, Rg_cons, RgE, effA, calleeA, wantedA, enterN, ev, ofV, ofVn, putE, evalN, aBin, aInt_add, aInt_sub, aInt_mul, aInt_quo, aInt_rem, aInt_eql, aInt_neq, aInt_lss, aInt_leq, aInt_gtr, aInt_geq, aExtract, finQ_ret, resOf, extU, kq_eq, thenQ_normal, thenQ_exit, thenQ_ret, aLen, kind9, hlt, aIndex, hx, c1, c2, hb'.1, hb'.2, hwk]
              refine ⟨m - 1, by omega, rfl, by simp, k + 1, by omega, fun j y hj hy => ?_, by simp⟩
              rcases Nat.lt_or_ge j k with h | h
              · exact hno j y h hy
              · obtain rfl : j = k := by omega
                rw [hx] at hy; simp at hy; subst hy; exact hb
          · have hany : s.any badByte = false := by
              rw [List.any_eq_false]
              intro x hx
              obtain ⟨j, hj⟩ := List.getElem?_of_mem hx
              have hjl : j < s.length := by
                rcases Nat.lt_or_ge j s.length with h | h
                · exact h
                · rw [List.getElem?_eq_none h] at hj; simp at hj
              have := hno j x (by omega) hj
              simp [this]
            by_cases hlen : 24 < s.length
            · have hres : nameR s = 308 := by simp [nameR, h1, h2, h3, hany, hlen]
              simp [Wc_seq, Wc_block, Wc_scope, Wc_skip, Wc_label, Wc_exit, Wc_ret, Wc_loop, Wc_region, Wc_cond, Nx_nil, Nx_seq, Nx_seq_exit, Nx_seq_ret, Nx_block, Nx_block_exit, Nx_block_ret, Rg_nil, Rg_cons, RgE, effA, calleeA, wantedA, enterN, ev, ofV, ofVn, putE, evalN, aBin, aInt_add, aInt_sub, aInt_mul, aInt_quo, aInt_rem, aInt_eql, aInt_neq, aInt_lss, aInt_leq, aInt_gtr, aInt_geq, aExtract, finQ_ret, resOf, extU, kq_eq, thenQ_normal, thenQ_exit, thenQ_ret, aLen, kind9, hlt, hlen, hres]
              omega
            · have hres : nameR s = 0 := by simp [nameR, h1, h2, h3, hany, hlen]
              simp [Wc_seq, Wc_block, Wc_scope, Wc_skip, Wc_label, Wc_exit, Wc_ret, Wc_loop, Wc_region, Wc_cond, Nx_nil, Nx_seq, Nx_seq_exit, Nx_seq_ret, Nx_block, Nx_block_exit, Nx_block_ret, Rg_nil, Rg_cons, RgE, effA, calleeA, wantedA, enterN, ev, ofV, ofVn, putE, evalN, aBin, aInt_add, aInt_sub, aInt_mul, aInt_quo, aInt_rem, aInt_eql, aInt_neq, aInt_lss, aInt_leq, aInt_gtr, aInt_geq, aExtract, finQ_ret, resOf, extU, kq_eq, thenQ_normal, thenQ_exit, thenQ_ret, aLen, kind9, hlt, hlen, hres]
              omega
end Go.Proofs.YteedadelgpagfaaDoor.Ax
