/- What the document's Split tells. -/
import Derived.Test.YteedadelgpagfaaDoorSplits
set_option linter.unusedVariables false
set_option linter.unusedSimpArgs false
namespace Go.Proofs.YteedadelgpagfaaDoor.Ax
open Go.RowKit

theorem pieces_end (r : List UInt8) (h : ∀ x ∈ r, x ≠ 47) : pieces r = [r] :=
  pieces_miss r (List.count_eq_zero.2 fun hm => h 47 hm rfl)

theorem pieces_cut (a b : List UInt8) (h : ∀ x ∈ a, x ≠ 47) : pieces (a ++ 47 :: b) = a :: pieces b := by
  induction a with
  | nil => simp [pieces]
  | cons c a ih =>
    have hc : c ≠ 47 := h c (by simp)
    have ih := ih fun x hx => h x (by simp [hx])
    show pieces (c :: (a ++ 47 :: b)) = _
    conv => lhs; unfold pieces
    rw [if_neg hc, ih]

/-- The piece between two places. -/
theorem pieces_part {p : List UInt8} {a b : Nat} (hab : a ≤ b) (hb : b < p.length) (h : ∀ j x, a ≤ j → j < b → p[j]? = some x → x ≠ 47) (h47 : p[b]? = some 47) :
    pieces (p.drop a) = (p.take b).drop a :: pieces (p.drop (b + 1)) := by
  have e : p.drop a = (p.take b).drop a ++ 47 :: p.drop (b + 1) := by
    have h1 : p.drop b = 47 :: p.drop (b + 1) := by
      rw [List.drop_eq_getElem_cons hb]
      rw [List.getElem?_eq_getElem hb] at h47
      rw [Option.some.inj h47]
    rw [← h1]
    have h2 := List.take_append_drop b p
    conv => lhs; rw [← h2]
    rw [List.drop_append_of_le_length (by simp; omega)]
  rw [e]
  refine pieces_cut _ _ fun x hx => ?_
  obtain ⟨j, hj⟩ := List.getElem?_of_mem hx
  rw [List.getElem?_drop, List.getElem?_take] at hj
  split at hj
  · exact h (a + j) x (by omega) (by omega) hj
  · simp at hj

theorem pieces_last {p : List UInt8} {a : Nat} (h : ∀ j x, a ≤ j → p[j]? = some x → x ≠ 47) : pieces (p.drop a) = [(p.take p.length).drop a] := by
  rw [List.take_length]
  refine pieces_end _ fun x hx => ?_
  obtain ⟨j, hj⟩ := List.getElem?_of_mem hx
  rw [List.getElem?_drop] at hj
  exact h (a + j) x (by omega) hj

def RsI (h : AH) (p : List UInt8) (m : Nat) (e' : Env) (h' : AH) : Prop :=
  e'.length = 54 ∧ ∃ (i fr : Nat) (sl : AV) (done : List (List UInt8)), OwnS h h' sl done ∧ i + m = p.length + 1 ∧ 1 ≤ fr ∧ (∀ x ∈ done, nameR x = 0) ∧ done.length ≤ i ∧ (fr ≤ i ∧ i ≤ p.length ∧ pieces (p.drop 1) = done ++ pieces (p.drop fr) ∨ i = p.length + 1 ∧ pieces (p.drop 1) = done) ∧ (∀ j x, fr ≤ j → j < i → p[j]? = some x → x ≠ 47) ∧
    (e'.getD 0 .undef = .str p ∧ e'.getD 4 .undef = sl ∧ e'.getD 5 .undef = .int .i64 fr ∧ e'.getD 6 .undef = .int .i64 i)

set_option maxHeartbeats 4000000 in
set_option maxRecDepth 20000 in
theorem refSplit_ret (W : World) (p : List UInt8) (hp : p.length < 8796093022207) (h : AH) : RetQ (CC W) 9 [.str p] h (SplitQ W p) := by
  refine acall_fin (cc_ok W) (fn9 W) (by simp only [Tryd.f9]; rfl) rfl rfl ?_
  match p, hp with
  | [], _ => 
    simp [Wc_seq, Wc_block, Wc_scope, Wc_skip, Wc_label, Wc_exit, Wc_ret, Wc_loop, Wc_region, Wc_cond, Nx_nil, Nx_seq, Nx_seq_exit, Nx_seq_ret, Nx_block, Nx_block_exit, Nx_block_ret, Rg_nil, Rg_cons, RgE, effA, calleeA, wantedA, enterN, ev, ofV, ofVn, putE, evalN, aBin, aInt_add, aInt_sub, aInt_mul, aInt_quo, aInt_rem, aInt_eql, aInt_neq, aInt_lss, aInt_leq, aInt_gtr, aInt_geq, aExtract, finQ_ret, resOf, extU, kq_eq, thenQ_normal, thenQ_exit, thenQ_ret, aStr, Keeps.refl]
    exact ⟨_, rfl, StrS.nil⟩
  | c :: r, hp =>
    have e0 : (c :: r)[0]? = some c := rfl
    by_cases hc : c = 47
    · subst hc
      by_cases hr : r = []
      · subst hr
        simp [Wc_seq, Wc_block, Wc_scope, Wc_skip, Wc_label, Wc_exit, Wc_ret, Wc_loop, Wc_region, Wc_cond, Nx_nil, Nx_seq, Nx_seq_exit, Nx_seq_ret, Nx_block, Nx_block_exit, Nx_block_ret, Rg_nil, Rg_cons, RgE, effA, calleeA, wantedA, enterN, ev, ofV, ofVn, putE, evalN, aBin, aInt_add, aInt_sub, aInt_mul, aInt_quo, aInt_rem, aInt_eql, aInt_neq, aInt_lss, aInt_leq, aInt_gtr, aInt_geq, aExtract, finQ_ret, resOf, extU, kq_eq, thenQ_normal, thenQ_exit, thenQ_ret, aStr, aIndex, kind9, Keeps.refl]
        exact ⟨_, rfl, StrS.nil⟩
      · have b1 : (47 :: r == [47]) = false := by rw [beq_eq_false_iff_ne]; simpa using hr
        have b2 : (47 :: r == []) = false := by rw [beq_eq_false_iff_ne]; simp
        simp [Wc_seq, Wc_block, Wc_scope, Wc_skip, Wc_label, Wc_exit, Wc_ret, Wc_loop, Wc_region, Wc_cond, Nx_nil, Nx_seq, Nx_seq_exit, Nx_seq_ret, Nx_block, Nx_block_exit, Nx_block_ret, Rg_nil, Rg_cons, RgE, effA, calleeA, wantedA, enterN, ev, ofV, ofVn, putE, evalN, aBin, aInt_add, aInt_sub, aInt_mul, aInt_quo, aInt_rem, aInt_eql, aInt_neq, aInt_lss, aInt_leq, aInt_gtr, aInt_geq, aExtract, finQ_ret, resOf, extU, kq_eq, thenQ_normal, thenQ_exit, thenQ_ret, aStr, aIndex, kind9, b1, b2, hr]
        have hS : splitR (47 :: r) = judge (pieces ((47 :: r : List UInt8).drop 1)) := by simp [splitR, hr]
        have hSQ : SplitQ W (47 :: r) = fun v h => ∃ sl, v = .tup [sl, .int .i64 (judge (pieces ((47 :: r : List UInt8).drop 1))).2] ∧ StrS W h sl (judge (pieces ((47 :: r : List UInt8).drop 1))).1 := by
          funext v h; simp only [SplitQ, hS]
        rw [hSQ]
        have hp1 : 1 ≤ (47 :: r).length := by simp
        generalize (47 :: r : List UInt8) = p at hp hp1 ⊢
        refine loopN (cc_ok W) (RsI h p) p.length ⟨by simp, 1, 1, .sl none 0 0 none, [], OwnS.start h, by omega, Nat.le_refl _, by simp, by simp, .inl ⟨Nat.le_refl _, hp1, rfl⟩, fun j x h1 h2 => by omega, by simp⟩ ?_
        rintro m e' h' ⟨hl, i, fr, sl, done, ho, him, hfr, hok, hdl, hst, hno, hh⟩
        have hk := ho.1
        match e', hl with
        | a0 :: a1 :: a2 :: a3 :: a4 :: a5 :: a6 :: a7 :: a8 :: a9 :: a10 :: a11 :: a12 :: a13 :: a14 :: a15 :: a16 :: a17 :: a18 :: a19 :: a20 :: a21 :: a22 :: a23 :: a24 :: a25 :: a26 :: a27 :: a28 :: a29 :: a30 :: a31 :: a32 :: a33 :: a34 :: a35 :: a36 :: a37 :: a38 :: a39 :: a40 :: a41 :: a42 :: a43 :: a44 :: a45 :: a46 :: a47 :: a48 :: a49 :: a50 :: a51 :: a52 :: a53 :: [], _ =>
          simp at hh
          obtain ⟨rfl, rfl, rfl, rfl⟩ := hh
          rcases hst with ⟨hfi, hip, hpc⟩ | ⟨rfl, hpc⟩
          · have hle : (i : Int) ≤ (p.length : Int) := by omega
            have wi : IntKind.i64.wrap ((i : Int) + 1) = (i : Int) + 1 := wrap64 (by omega) (by omega)
            obtain ⟨v', h2, hap, ho2⟩ := append_str (W := W) (x := (p.take i).drop fr) ho (by omega)
            by_cases hgo : i < p.length ∧ p[i]? ≠ some 47
            · obtain ⟨hlt, hne⟩ := hgo
              have hx : p[i]? = some p[i] := by simp [hlt]
              have hlt' : (i : Int) < (p.length : Int) := by omega
              have hb : p[i] ≠ 47 := by intro e; rw [hx, e] at hne; exact hne rfl
              have c1 : ((p[i].toNat : Int) != 47) = true := by
                rw [bne_iff_ne]; intro e; exact hb (UInt8.toNat_inj.1 (by simpa using (show p[i].toNat = 47 by omega)))
              have e1 : (aIndex (CC W) 9 (.str p) (.int .i64 (i : Int))) = some (.int .u8 p[i].toNat) := by
                simp [aIndex, kind9, hx]
              simp [Wc_seq, Wc_block, Wc_scope, Wc_skip, Wc_label, Wc_exit, Wc_ret, Wc_loop, Wc_region, Wc_cond, Nx_nil, Nx_seq, Nx_seq_exit, Nx_seq_ret, Nx_block, Nx_block_exit, Nx_block_ret, Rg_nil, Rg_cons, RgE, effA, calleeA, wantedA, enterN, ev, ofV, ofVn, putE, evalN, aBin, aInt_add, aInt_sub, aInt_mul, aInt_quo, aInt_rem, aInt_eql, aInt_neq, aInt_lss, aInt_leq, aInt_gtr, aInt_geq, aExtract, finQ_ret, resOf, extU, kq_eq, thenQ_normal, thenQ_exit, thenQ_ret, aLen, kind9, hle, hip, hlt, hlt', e1, c1, wi]
              refine ⟨m - 1, by omega, by simp, i + 1, fr, a4, done, ho, by omega, hfr, hok, by omega, .inl ⟨by omega, by omega, hpc⟩, fun j x h1 h2 h3 => ?_, by simp⟩
              rcases Nat.lt_or_ge j i with h | h
              · exact hno j x h1 h h3
              · obtain rfl : j = i := by omega
                rw [hx] at h3; simp at h3; subst h3; exact hb
            · have hcut : pieces (p.drop 1) = done ++ (p.take i).drop fr :: (if i < p.length then pieces (p.drop (i + 1)) else []) := by
                rw [hpc]
                by_cases hlt : i < p.length
                · have h47 : p[i]? = some 47 := by
                    apply Classical.byContradiction; intro hne; exact hgo ⟨hlt, hne⟩
                  rw [if_pos hlt, pieces_part hfi hlt hno h47]
                · rw [if_neg hlt]
                  have hie : i = p.length := by omega
                  subst hie
                  rw [pieces_last fun j x h1 h2 => hno j x h1 (List.getElem?_eq_some_iff.1 h2).1 h2]
              have hsl : (p.take i).drop fr = (p.take i).drop fr := rfl
              have s1 := slice_part (W := W) hfi hip
              have hsm : ((p.take i).drop fr).length < 9223372036854775808 := by simp; omega
              have hgo' : ((decide ((i : Int) < (p.length : Int))) = true → ∃ z : Int, aIndex (CC W) 9 (.str p) (.int .i64 (i : Int)) = some (.int .u8 z) ∧ (z != 47) = false) := by
                intro hlt
                have hlt' : i < p.length := by simpa using hlt
                have h47 : p[i]? = some 47 := by
                  apply Classical.byContradiction; intro hne; exact hgo ⟨hlt', hne⟩
                refine ⟨47, ?_, by decide⟩
                simp [aIndex, kind9, h47]
              generalize (p.take i).drop fr = x at s1 hap ho2 hcut hsm
              by_cases hn : nameR x = 0
              · by_cases hlt : i < p.length
                · have hlt' : (i : Int) < (p.length : Int) := by omega
                  obtain ⟨z, hz, hz2⟩ := hgo' (by simpa using hlt)
                  simp [Wc_seq, Wc_block, Wc_scope, Wc_skip, Wc_label, Wc_exit, Wc_ret, Wc_loop, Wc_region, Wc_cond, Nx_nil, Nx_seq, Nx_seq_exit, Nx_seq_ret, Nx_block, Nx_block_exit, Nx_block_ret, Rg_nil, Rg_cons, RgE, effA, calleeA, wantedA, enterN, ev, ofV, ofVn, putE, evalN, aBin, aInt_add, aInt_sub, aInt_mul, aInt_quo, aInt_rem, aInt_eql, aInt_neq, aInt_lss, aInt_leq, aInt_gtr, aInt_geq, aExtract, finQ_ret, resOf, extU, kq_eq, thenQ_normal, thenQ_exit, thenQ_ret, aLen, kind9, hle, hip, hlt, hlt', hz, hz2, s1]
                  refine callK_Ret (by simp [fn22]) (refName_ret W x hsm) ?_
                  simp [Wc_seq, Wc_block, Wc_scope, Wc_skip, Wc_label, Wc_exit, Wc_ret, Wc_loop, Wc_region, Wc_cond, Nx_nil, Nx_seq, Nx_seq_exit, Nx_seq_ret, Nx_block, Nx_block_exit, Nx_block_ret, Rg_nil, Rg_cons, RgE, effA, calleeA, wantedA, enterN, ev, ofV, ofVn, putE, evalN, aBin, aInt_add, aInt_sub, aInt_mul, aInt_quo, aInt_rem, aInt_eql, aInt_neq, aInt_lss, aInt_leq, aInt_gtr, aInt_geq, aExtract, finQ_ret, resOf, extU, kq_eq, thenQ_normal, thenQ_exit, thenQ_ret, hn, s1, build_str, hap, wi]
                  refine ⟨m - 1, by omega, by simp, i + 1, i + 1, v', done ++ [x], ho2, by omega, by omega, ?_, by simp; omega, .inl ⟨by omega, by omega, by rw [hcut, if_pos hlt]; simp⟩, fun j x h1 h2 => by omega, by simp⟩
                  intro y hy; simp at hy; rcases hy with hy | rfl
                  · exact hok y hy
                  · exact hn
                · have hlt' : ¬ (i : Int) < (p.length : Int) := by omega
                  simp [Wc_seq, Wc_block, Wc_scope, Wc_skip, Wc_label, Wc_exit, Wc_ret, Wc_loop, Wc_region, Wc_cond, Nx_nil, Nx_seq, Nx_seq_exit, Nx_seq_ret, Nx_block, Nx_block_exit, Nx_block_ret, Rg_nil, Rg_cons, RgE, effA, calleeA, wantedA, enterN, ev, ofV, ofVn, putE, evalN, aBin, aInt_add, aInt_sub, aInt_mul, aInt_quo, aInt_rem, aInt_eql, aInt_neq, aInt_lss, aInt_leq, aInt_gtr, aInt_geq, aExtract, finQ_ret, resOf, extU, kq_eq, thenQ_normal, thenQ_exit, thenQ_ret, aLen, kind9, hle, hip, hlt, hlt', s1]
                  refine callK_Ret (by simp [fn22]) (refName_ret W x hsm) ?_
                  simp [Wc_seq, Wc_block, Wc_scope, Wc_skip, Wc_label, Wc_exit, Wc_ret, Wc_loop, Wc_region, Wc_cond, Nx_nil, Nx_seq, Nx_seq_exit, Nx_seq_ret, Nx_block, Nx_block_exit, Nx_block_ret, Rg_nil, Rg_cons, RgE, effA, calleeA, wantedA, enterN, ev, ofV, ofVn, putE, evalN, aBin, aInt_add, aInt_sub, aInt_mul, aInt_quo, aInt_rem, aInt_eql, aInt_neq, aInt_lss, aInt_leq, aInt_gtr, aInt_geq, aExtract, finQ_ret, resOf, extU, kq_eq, thenQ_normal, thenQ_exit, thenQ_ret, hn, s1, build_str, hap, wi]
                  refine ⟨m - 1, by omega, by simp, i + 1, i + 1, v', done ++ [x], ho2, by omega, by omega, ?_, by simp; omega, .inr ⟨by omega, by rw [hcut, if_neg hlt]⟩, fun j x h1 h2 => by omega, by simp⟩
                  intro y hy; simp at hy; rcases hy with hy | rfl
                  · exact hok y hy
                  · exact hn
              · have hj : judge (pieces (p.drop 1)) = ([], nameR x) := by rw [hcut]; exact judge_bad hok hn
                rw [hj]
                by_cases hlt : i < p.length
                · have hlt' : (i : Int) < (p.length : Int) := by omega
                  obtain ⟨z, hz, hz2⟩ := hgo' (by simpa using hlt)
                  simp [Wc_seq, Wc_block, Wc_scope, Wc_skip, Wc_label, Wc_exit, Wc_ret, Wc_loop, Wc_region, Wc_cond, Nx_nil, Nx_seq, Nx_seq_exit, Nx_seq_ret, Nx_block, Nx_block_exit, Nx_block_ret, Rg_nil, Rg_cons, RgE, effA, calleeA, wantedA, enterN, ev, ofV, ofVn, putE, evalN, aBin, aInt_add, aInt_sub, aInt_mul, aInt_quo, aInt_rem, aInt_eql, aInt_neq, aInt_lss, aInt_leq, aInt_gtr, aInt_geq, aExtract, finQ_ret, resOf, extU, kq_eq, thenQ_normal, thenQ_exit, thenQ_ret, aLen, kind9, hle, hip, hlt, hlt', hz, hz2, s1]
                  refine callK_Ret (by simp [fn22]) (refName_ret W x hsm) ?_
                  simp [Wc_seq, Wc_block, Wc_scope, Wc_skip, Wc_label, Wc_exit, Wc_ret, Wc_loop, Wc_region, Wc_cond, Nx_nil, Nx_seq, Nx_seq_exit, Nx_seq_ret, Nx_block, Nx_block_exit, Nx_block_ret, Rg_nil, Rg_cons, RgE, effA, calleeA, wantedA, enterN, ev, ofV, ofVn, putE, evalN, aBin, aInt_add, aInt_sub, aInt_mul, aInt_quo, aInt_rem, aInt_eql, aInt_neq, aInt_lss, aInt_leq, aInt_gtr, aInt_geq, aExtract, finQ_ret, resOf, extU, kq_eq, thenQ_normal, thenQ_exit, thenQ_ret, hn]
                  exact ⟨hk, StrS.nil⟩
                · have hlt' : ¬ (i : Int) < (p.length : Int) := by omega
                  simp [Wc_seq, Wc_block, Wc_scope, Wc_skip, Wc_label, Wc_exit, Wc_ret, Wc_loop, Wc_region, Wc_cond, Nx_nil, Nx_seq, Nx_seq_exit, Nx_seq_ret, Nx_block, Nx_block_exit, Nx_block_ret, Rg_nil, Rg_cons, RgE, effA, calleeA, wantedA, enterN, ev, ofV, ofVn, putE, evalN, aBin, aInt_add, aInt_sub, aInt_mul, aInt_quo, aInt_rem, aInt_eql, aInt_neq, aInt_lss, aInt_leq, aInt_gtr, aInt_geq, aExtract, finQ_ret, resOf, extU, kq_eq, thenQ_normal, thenQ_exit, thenQ_ret, aLen, kind9, hle, hip, hlt, hlt', s1]
                  refine callK_Ret (by simp [fn22]) (refName_ret W x hsm) ?_
                  simp [Wc_seq, Wc_block, Wc_scope, Wc_skip, Wc_label, Wc_exit, Wc_ret, Wc_loop, Wc_region, Wc_cond, Nx_nil, Nx_seq, Nx_seq_exit, Nx_seq_ret, Nx_block, Nx_block_exit, Nx_block_ret, Rg_nil, Rg_cons, RgE, effA, calleeA, wantedA, enterN, ev, ofV, ofVn, putE, evalN, aBin, aInt_add, aInt_sub, aInt_mul, aInt_quo, aInt_rem, aInt_eql, aInt_neq, aInt_lss, aInt_leq, aInt_gtr, aInt_geq, aExtract, finQ_ret, resOf, extU, kq_eq, thenQ_normal, thenQ_exit, thenQ_ret, hn]
                  exact ⟨hk, StrS.nil⟩
          · have hle : ¬ (((p.length : Int) + 1 ≤ (p.length : Int))) := by omega
            have hle' : ¬ (p.length + 1 ≤ p.length) := by omega
            obtain ⟨a, cp, gr, rfl⟩ := ho.len
            rw [hpc, judge_ok hok]
            by_cases h8 : 8 < done.length
            · have h8' : (8 : Int) < (done.length : Int) := by omega
              simp [Wc_seq, Wc_block, Wc_scope, Wc_skip, Wc_label, Wc_exit, Wc_ret, Wc_loop, Wc_region, Wc_cond, Nx_nil, Nx_seq, Nx_seq_exit, Nx_seq_ret, Nx_block, Nx_block_exit, Nx_block_ret, Rg_nil, Rg_cons, RgE, effA, calleeA, wantedA, enterN, ev, ofV, ofVn, putE, evalN, aBin, aInt_add, aInt_sub, aInt_mul, aInt_quo, aInt_rem, aInt_eql, aInt_neq, aInt_lss, aInt_leq, aInt_gtr, aInt_geq, aExtract, finQ_ret, resOf, extU, kq_eq, thenQ_normal, thenQ_exit, thenQ_ret, aLen, kind9, kind31, hle, hle', h8, h8']
              exact ⟨hk, StrS.nil⟩
            · have h8' : ¬ (8 : Int) < (done.length : Int) := by omega
              simp [Wc_seq, Wc_block, Wc_scope, Wc_skip, Wc_label, Wc_exit, Wc_ret, Wc_loop, Wc_region, Wc_cond, Nx_nil, Nx_seq, Nx_seq_exit, Nx_seq_ret, Nx_block, Nx_block_exit, Nx_block_ret, Rg_nil, Rg_cons, RgE, effA, calleeA, wantedA, enterN, ev, ofV, ofVn, putE, evalN, aBin, aInt_add, aInt_sub, aInt_mul, aInt_quo, aInt_rem, aInt_eql, aInt_neq, aInt_lss, aInt_leq, aInt_gtr, aInt_geq, aExtract, finQ_ret, resOf, extU, kq_eq, thenQ_normal, thenQ_exit, thenQ_ret, aLen, kind9, kind31, hle, hle', h8, h8']
              exact ⟨hk, ho.strS⟩
    · have c1 : ((c.toNat : Int) != 47) = true := by
        rw [bne_iff_ne]; intro e; exact hc (UInt8.toNat_inj.1 (by simpa using (show c.toNat = 47 by omega)))
      have b2 : (c :: r == []) = false := by rw [beq_eq_false_iff_ne]; simp
      simp [Wc_seq, Wc_block, Wc_scope, Wc_skip, Wc_label, Wc_exit, Wc_ret, Wc_loop, Wc_region, Wc_cond, Nx_nil, Nx_seq, Nx_seq_exit, Nx_seq_ret, Nx_block, Nx_block_exit, Nx_block_ret, Rg_nil, Rg_cons, RgE, effA, calleeA, wantedA, enterN, ev, ofV, ofVn, putE, evalN, aBin, aInt_add, aInt_sub, aInt_mul, aInt_quo, aInt_rem, aInt_eql, aInt_neq, aInt_lss, aInt_leq, aInt_gtr, aInt_geq, aExtract, finQ_ret, resOf, extU, kq_eq, thenQ_normal, thenQ_exit, thenQ_ret, aStr, aIndex, kind9, c1, b2, Keeps.refl]
      refine ⟨_, by simp [splitR, hc]; rfl, by simp [splitR, hc]; exact StrS.nil⟩
end Go.Proofs.YteedadelgpagfaaDoor.Ax
