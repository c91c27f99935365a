/- What both Splits tell. -/
import Derived.Test.YteedadelgpagfaaDoorGenSplit
import Derived.Test.YteedadelgpagfaaDoorName
set_option linter.unusedVariables false
set_option linter.unusedSimpArgs false
namespace Go.Proofs.YteedadelgpagfaaDoor.Ax
open Go.RowKit

def judge (l : List (List UInt8)) : List (List UInt8) × Int := match l.find? (fun s => nameR s != 0) with
  | some s => ([], nameR s)
  | none => if 8 < l.length then ([], 308) else (l, 0)

theorem judge_bad {l r : List (List UInt8)} {s : List UInt8} (h : ∀ x ∈ l, nameR x = 0) (hs : nameR s ≠ 0) : judge (l ++ s :: r) = ([], nameR s) := by
  have : (l ++ s :: r).find? (fun s => nameR s != 0) = some s := by
    rw [List.find?_append]
    have : l.find? (fun s => nameR s != 0) = none := by
      rw [List.find?_eq_none]; intro x hx; simp [h x hx]
    simp [this, hs]
  simp [judge, this]
theorem judge_ok {l : List (List UInt8)} (h : ∀ x ∈ l, nameR x = 0) : judge l = if 8 < l.length then ([], 308) else (l, 0) := by
  have : l.find? (fun s => nameR s != 0) = none := by
    rw [List.find?_eq_none]; intro x hx; simp [h x hx]
  simp [judge, this]

/-- The names of a path, and what is wrong with it. -/
def splitR : List UInt8 → List (List UInt8) × Int
  | [] => ([], 309)
  | c :: r => if c = 47 then if r = [] then ([], 0) else judge (pieces r) else ([], 309)

/-- What a Split gives. -/
def SplitQ (W : World) (p : List UInt8) (v : AV) (h : AH) : Prop := ∃ sl, v = .tup [sl, .int .i64 (splitR p).2] ∧ StrS W h sl (splitR p).1

def SpI (W : World) (h1 : AH) (sl : AV) (l : List (List UInt8)) (m : Nat) (e' : Env) (h' : AH) : Prop :=
  Keeps h1 h' ∧ e'.length = 39 ∧ ∃ k : Nat, k + m = l.length ∧ (∀ j x, j < k → l[j]? = some x → nameR x = 0) ∧ (e'.getD 6 .undef = sl ∧ e'.getD 23 .undef = sl ∧ e'.getD 24 .undef = .int .i64 l.length ∧ e'.getD 25 .undef = .int .i64 k)

theorem byte47 {c : UInt8} (h : c ≠ 47) : (c == 47) = false := by rw [beq_eq_false_iff_ne]; exact h

set_option maxHeartbeats 4000000 in
set_option maxRecDepth 20000 in
theorem split_ret (W : World) (p : List UInt8) (hp : p.length < 8796093022207) (h : AH) : RetQ (CC W) 21 [.str p] h (SplitQ W p) := by
  refine acall_fin (cc_ok W) (fn21 W) (by simp only [Tryd.f21]; rfl) rfl rfl ?_
  simp [Wc_seq, Wc_block, Wc_scope, Wc_skip, Wc_label, Wc_exit, Wc_ret, Wc_loop, Wc_region, Wc_cond, Nx_nil, Nx_seq, Nx_seq_exit, Nx_seq_ret, Nx_block, Nx_block_exit, Nx_block_ret, Rg_nil, Rg_cons, RgE, effA, calleeA, wantedA, enterN, ev, ofV, ofVn, putE, evalN, aBin, aInt_add, aInt_sub, aInt_mul, aInt_quo, aInt_rem, aInt_eql, aInt_neq, aInt_lss, aInt_leq, aInt_gtr, aInt_geq, aExtract, finQ_ret, resOf, extU, kq_eq, thenQ_normal, thenQ_exit, thenQ_ret]
  refine callK_Ret (by simp [fn30]) (CutPrefix_ret W p [47]) ?_
  match p, hp with
  | [], _ => 
    simp [Wc_seq, Wc_block, Wc_scope, Wc_skip, Wc_label, Wc_exit, Wc_ret, Wc_loop, Wc_region, Wc_cond, Nx_nil, Nx_seq, Nx_seq_exit, Nx_seq_ret, Nx_block, Nx_block_exit, Nx_block_ret, Rg_nil, Rg_cons, RgE, effA, calleeA, wantedA, enterN, ev, ofV, ofVn, putE, evalN, aBin, aInt_add, aInt_sub, aInt_mul, aInt_quo, aInt_rem, aInt_eql, aInt_neq, aInt_lss, aInt_leq, aInt_gtr, aInt_geq, aExtract, finQ_ret, resOf, extU, kq_eq, thenQ_normal, thenQ_exit, thenQ_ret, aUn, hasP, Keeps.refl]
    exact ⟨_, rfl, StrS.nil⟩
  | c :: r, hp =>
    by_cases hc : c = 47
    · subst hc
      by_cases hr : r = []
      · subst hr
        simp [Wc_seq, Wc_block, Wc_scope, Wc_skip, Wc_label, Wc_exit, Wc_ret, Wc_loop, Wc_region, Wc_cond, Nx_nil, Nx_seq, Nx_seq_exit, Nx_seq_ret, Nx_block, Nx_block_exit, Nx_block_ret, Rg_nil, Rg_cons, RgE, effA, calleeA, wantedA, enterN, ev, ofV, ofVn, putE, evalN, aBin, aInt_add, aInt_sub, aInt_mul, aInt_quo, aInt_rem, aInt_eql, aInt_neq, aInt_lss, aInt_leq, aInt_gtr, aInt_geq, aExtract, finQ_ret, resOf, extU, kq_eq, thenQ_normal, thenQ_exit, thenQ_ret, aUn, aStr, hasP, cutP, Keeps.refl]
        exact ⟨_, rfl, StrS.nil⟩
      · have b1 : (r == []) = false := by rw [beq_eq_false_iff_ne]; exact hr
        simp [Wc_seq, Wc_block, Wc_scope, Wc_skip, Wc_label, Wc_exit, Wc_ret, Wc_loop, Wc_region, Wc_cond, Nx_nil, Nx_seq, Nx_seq_exit, Nx_seq_ret, Nx_block, Nx_block_exit, Nx_block_ret, Rg_nil, Rg_cons, RgE, effA, calleeA, wantedA, enterN, ev, ofV, ofVn, putE, evalN, aBin, aInt_add, aInt_sub, aInt_mul, aInt_quo, aInt_rem, aInt_eql, aInt_neq, aInt_lss, aInt_leq, aInt_gtr, aInt_geq, aExtract, finQ_ret, resOf, extU, kq_eq, thenQ_normal, thenQ_exit, thenQ_ret, aUn, aStr, hasP, cutP, b1, hr]
        refine callK_RetQ (by simp [fn31]) (Split_ret W r (by simp at hp; omega) h) fun v h1 hk1 hv => ?_
        have hS : splitR (47 :: r) = judge (pieces r) := by simp [splitR, hr]
        have hSQ : SplitQ W (47 :: r) = fun v h => ∃ sl, v = .tup [sl, .int .i64 (judge (pieces r)).2] ∧ StrS W h sl (judge (pieces r)).1 := by
          funext v h; simp only [SplitQ, hS]
        rw [hSQ]
        obtain ⟨a, cp, gr, rfl⟩ := hv.len
        have hpl : (pieces r).length ≤ r.length + 1 := by
          rw [pieces_length]; have := List.count_le_length (a := (47 : UInt8)) (l := r); omega
        generalize pieces r = l at hv hpl ⊢
        simp at hp
        simp [Wc_seq, Wc_block, Wc_scope, Wc_skip, Wc_label, Wc_exit, Wc_ret, Wc_loop, Wc_region, Wc_cond, Nx_nil, Nx_seq, Nx_seq_exit, Nx_seq_ret, Nx_block, Nx_block_exit, Nx_block_ret, Rg_nil, Rg_cons, RgE, effA, calleeA, wantedA, enterN, ev, ofV, ofVn, putE, evalN, aBin, aInt_add, aInt_sub, aInt_mul, aInt_quo, aInt_rem, aInt_eql, aInt_neq, aInt_lss, aInt_leq, aInt_gtr, aInt_geq, aExtract, finQ_ret, resOf, extU, kq_eq, thenQ_normal, thenQ_exit, thenQ_ret, aLen, kind31]
        refine loopN (cc_ok W) (SpI W h1 (.sl a l.length cp gr) l) l.length ⟨Keeps.refl _, by simp, 0, by simp, fun j x hj => by omega, by simp⟩ ?_
        rintro m e' h' ⟨hk2, hl, k, hkm, hno, hh⟩
        have hkk := hk1.trans hk2
        match e', hl with
        | a0 :: a1 :: a2 :: a3 :: a4 :: a5 :: a6 :: a7 :: a8 :: a9 :: a10 :: a11 :: a12 :: a13 :: a14 :: a15 :: a16 :: a17 :: a18 :: a19 :: a20 :: a21 :: a22 :: a23 :: a24 :: a25 :: a26 :: a27 :: a28 :: a29 :: a30 :: a31 :: a32 :: a33 :: a34 :: a35 :: a36 :: a37 :: a38 :: [], _ =>
          simp at hh
          obtain ⟨rfl, rfl, rfl, rfl⟩ := hh
          by_cases hlt : k < l.length
          · have hx : l[k]? = some l[k] := by simp [hlt]
            obtain ⟨a', hix, hld⟩ := (hv.keeps hk2).at hx
            have hlt' : (k : Int) < (l.length : Int) := by omega
            have wk : IntKind.i64.wrap ((k : Int) + 1) = (k : Int) + 1 := wrap64 (by omega) (by omega)
            generalize l[k] = x at hx hld
            simp [Wc_seq, Wc_block, Wc_scope, Wc_skip, Wc_label, Wc_exit, Wc_ret, Wc_loop, Wc_region, Wc_cond, Nx_nil, Nx_seq, Nx_seq_exit, Nx_seq_ret, Nx_block, Nx_block_exit, Nx_block_ret, Rg_nil, Rg_cons, RgE, effA, calleeA, wantedA, enterN, ev, ofV, ofVn, putE, evalN, aBin, aInt_add, aInt_sub, aInt_mul, aInt_quo, aInt_rem, aInt_eql, aInt_neq, aInt_lss, aInt_leq, aInt_gtr, aInt_geq, aExtract, finQ_ret, resOf, extU, kq_eq, thenQ_normal, thenQ_exit, thenQ_ret, hlt, hlt', hix, hld]
            refine callK_RetX (by simp [fn32]) (name_ret W x) fun h3 hk3 => ?_
            by_cases hn : nameR x = 0
            · simp [Wc_seq, Wc_block, Wc_scope, Wc_skip, Wc_label, Wc_exit, Wc_ret, Wc_loop, Wc_region, Wc_cond, Nx_nil, Nx_seq, Nx_seq_exit, Nx_seq_ret, Nx_block, Nx_block_exit, Nx_block_ret, Rg_nil, Rg_cons, RgE, effA, calleeA, wantedA, enterN, ev, ofV, ofVn, putE, evalN, aBin, aInt_add, aInt_sub, aInt_mul, aInt_quo, aInt_rem, aInt_eql, aInt_neq, aInt_lss, aInt_leq, aInt_gtr, aInt_geq, aExtract, finQ_ret, resOf, extU, kq_eq, thenQ_normal, thenQ_exit, thenQ_ret, hn, wk]
              refine ⟨m - 1, by omega, hk2.trans hk3, by simp, k + 1, by omega, fun j y hj hy => ?_, by simp⟩
              rcases Nat.lt_or_ge j k with h | h
              · exact hno j y h hy
              · obtain rfl : j = k := by omega
                rw [hx] at hy; simp at hy; subst hy; exact hn
            · have hsp : l = l.take k ++ x :: l.drop (k + 1) := by
                have h1 := List.take_append_drop k l
                rw [List.drop_eq_getElem_cons hlt] at h1
                have : l[k] = x := by
                  have := hx; rw [List.getElem?_eq_getElem hlt] at this; exact Option.some.inj this
                rw [this] at h1
                exact h1.symm
              have hj : judge l = ([], nameR x) := by
                rw [hsp]
                refine judge_bad (fun y hy => ?_) hn
                obtain ⟨j, hj⟩ := List.getElem?_of_mem hy
                rw [List.getElem?_take] at hj
                split at hj
                · rename_i hjk; exact hno j y hjk hj
                · simp at hj
              simp [Wc_seq, Wc_block, Wc_scope, Wc_skip, Wc_label, Wc_exit, Wc_ret, Wc_loop, Wc_region, Wc_cond, Nx_nil, Nx_seq, Nx_seq_exit, Nx_seq_ret, Nx_block, Nx_block_exit, Nx_block_ret, Rg_nil, Rg_cons, RgE, effA, calleeA, wantedA, enterN, ev, ofV, ofVn, putE, evalN, aBin, aInt_add, aInt_sub, aInt_mul, aInt_quo, aInt_rem, aInt_eql, aInt_neq, aInt_lss, aInt_leq, aInt_gtr, aInt_geq, aExtract, finQ_ret, resOf, extU, kq_eq, thenQ_normal, thenQ_exit, thenQ_ret, hn, hj]
              exact ⟨hkk.trans hk3, StrS.nil⟩
          · have hall : ∀ x ∈ l, nameR x = 0 := by
              intro x hx
              obtain ⟨j, hj⟩ := List.getElem?_of_mem hx
              exact hno j x (by have := (List.getElem?_eq_some_iff.1 hj).1; omega) hj
            have hlt' : ¬ (k : Int) < (l.length : Int) := by omega
            by_cases h8 : 8 < l.length
            · have hj : judge l = ([], 308) := by rw [judge_ok hall, if_pos h8]
              have h8' : (8 : Int) < (l.length : Int) := by omega
              simp [Wc_seq, Wc_block, Wc_scope, Wc_skip, Wc_label, Wc_exit, Wc_ret, Wc_loop, Wc_region, Wc_cond, Nx_nil, Nx_seq, Nx_seq_exit, Nx_seq_ret, Nx_block, Nx_block_exit, Nx_block_ret, Rg_nil, Rg_cons, RgE, effA, calleeA, wantedA, enterN, ev, ofV, ofVn, putE, evalN, aBin, aInt_add, aInt_sub, aInt_mul, aInt_quo, aInt_rem, aInt_eql, aInt_neq, aInt_lss, aInt_leq, aInt_gtr, aInt_geq, aExtract, finQ_ret, resOf, extU, kq_eq, thenQ_normal, thenQ_exit, thenQ_ret, hlt, hlt', aLen, kind31, h8, h8', hj]
              exact ⟨hkk, StrS.nil⟩
            · have hj : judge l = (l, 0) := by rw [judge_ok hall, if_neg h8]
              have h8' : ¬ (8 : Int) < (l.length : Int) := by omega
              simp [Wc_seq, Wc_block, Wc_scope, Wc_skip, Wc_label, Wc_exit, Wc_ret, Wc_loop, Wc_region, Wc_cond, Nx_nil, Nx_seq, Nx_seq_exit, Nx_seq_ret, Nx_block, Nx_block_exit, Nx_block_ret, Rg_nil, Rg_cons, RgE, effA, calleeA, wantedA, enterN, ev, ofV, ofVn, putE, evalN, aBin, aInt_add, aInt_sub, aInt_mul, aInt_quo, aInt_rem, aInt_eql, aInt_neq, aInt_lss, aInt_leq, aInt_gtr, aInt_geq, aExtract, finQ_ret, resOf, extU, kq_eq, thenQ_normal, thenQ_exit, thenQ_ret, hlt, hlt', aLen, kind31, h8, h8', hj]
              exact ⟨hkk, hv.keeps hk2⟩
    · have hb : hasP (c :: r) [47] = false := by
        have hc' : ¬ (47 : UInt8) = c := fun e => hc e.symm
        simp [hasP, List.isPrefixOf, hc']
      simp [Wc_seq, Wc_block, Wc_scope, Wc_skip, Wc_label, Wc_exit, Wc_ret, Wc_loop, Wc_region, Wc_cond, Nx_nil, Nx_seq, Nx_seq_exit, Nx_seq_ret, Nx_block, Nx_block_exit, Nx_block_ret, Rg_nil, Rg_cons, RgE, effA, calleeA, wantedA, enterN, ev, ofV, ofVn, putE, evalN, aBin, aInt_add, aInt_sub, aInt_mul, aInt_quo, aInt_rem, aInt_eql, aInt_neq, aInt_lss, aInt_leq, aInt_gtr, aInt_geq, aExtract, finQ_ret, resOf, extU, kq_eq, thenQ_normal, thenQ_exit, thenQ_ret, aUn, hb, Keeps.refl]
      refine ⟨_, by simp [splitR, hc]; rfl, by simp [splitR, hc]; exact StrS.nil⟩
end Go.Proofs.YteedadelgpagfaaDoor.Ax
