/- The pieces between slashes, and what Go's Split makes. -/
import Derived.Test.YteedadelgpagfaaDoorSl
import Derived.Test.YteedadelgpagfaaDoorIndex
import Derived.Lib.IndexLaws
set_option linter.unusedVariables false
set_option linter.unusedSimpArgs false
namespace Go.Proofs.YteedadelgpagfaaDoor.Ax
open Go.RowKit

def pieces : List UInt8 → List (List UInt8)
  | [] => [[]]
  | c :: s => if c = 47 then [] :: pieces s else match pieces s with
    | [] => [[c]]
    | p :: ps => (c :: p) :: ps

theorem pieces_ne (s : List UInt8) : pieces s ≠ [] := by
  cases s with
  | nil => simp [pieces]
  | cons c s => unfold pieces; split; · simp
                · split <;> simp

theorem pieces_length (s : List UInt8) : (pieces s).length = s.count 47 + 1 := by
  induction s with
  | nil => rfl
  | cons c s ih =>
    unfold pieces
    split
    · rename_i h; subst h; simp [ih]
    · rename_i h
      rw [List.count_cons_of_ne h]
      cases hp : pieces s with
      | nil => exact absurd hp (pieces_ne s)
      | cons p ps => rw [hp] at ih; simpa using ih

theorem pieces_miss (s : List UInt8) (h : s.count 47 = 0) : pieces s = [s] := by
  induction s with
  | nil => rfl
  | cons c s ih =>
    have hc : c ≠ 47 := by intro e; subst e; simp at h
    rw [List.count_cons_of_ne hc] at h
    unfold pieces
    rw [if_neg hc, ih h]

theorem pieces_hit (s : List UInt8) (h : s.count 47 ≠ 0) : ∃ m : Nat, Lib.indexByte s 47 = (m : Int) ∧ m < s.length ∧ pieces s = s.take m :: pieces (s.drop (m + 1)) ∧ s.count 47 = 1 + (s.drop (m + 1)).count 47 := by
  induction s with
  | nil => simp at h
  | cons c s ih =>
    by_cases hc : c = 47
    · subst hc
      refine ⟨0, by simp [Lib.indexByte], by simp, ?_, ?_⟩
      · conv => lhs; unfold pieces
        simp
      · simp; omega
    · rw [List.count_cons_of_ne hc] at h
      obtain ⟨m, h1, h2, h3, h4⟩ := ih h
      refine ⟨m + 1, ?_, by simp; omega, ?_, ?_⟩
      · unfold Lib.indexByte
        have e1 : (c == 47) = false := by rw [beq_eq_false_iff_ne]; exact hc
        have e2 : (Lib.indexByte s 47 == -1) = false := by rw [beq_eq_false_iff_ne, h1]; omega
        simp [e1, e2, h1]
      · conv => lhs; unfold pieces
        rw [if_neg hc, h3]
        simp
      · rw [List.count_cons_of_ne hc, h4]
        simp

/-- What the loop of genSplit keeps. -/
def GenI (s : List UInt8) (h : AH) (m : Nat) (e' : Env) (h' : AH) : Prop :=
  (h'.next = h.next + 1 ∧ ∀ k, k < h.next → h'.get k = h.get k) ∧ e'.length = 66 ∧ ∃ done r, pieces s = done ++ pieces r ∧ done.length + r.count 47 = s.count 47 ∧ m = r.count 47 ∧ r.length ≤ s.length ∧
    h'.get h.next = some (.cells (scells done (s.count 47 + 1)) 9) ∧ (e'.getD 0 .undef = .str r ∧ e'.getD 1 .undef = .str [47] ∧ e'.getD 2 .undef = .int .i64 0 ∧ e'.getD 3 .undef = .int .i64 (s.count 47 : Nat) ∧
      e'.getD 9 .undef = .sl (some (.new h.next 0)) (s.count 47 + 1) (s.count 47 + 1) none ∧ e'.getD 10 .undef = .int .i64 (done.length : Nat))

theorem repZ_str (n : Nat) : repZ n [AV.str []] = scells [] n := by
  induction n with
  | zero => rfl
  | succ n ih => simp [repZ, scells, List.replicate_succ]

set_option maxHeartbeats 4000000 in
set_option maxRecDepth 20000 in
theorem genSplit_ret (W : World) (s : List UInt8) (hs : s.length < 8796093022207) (h : AH) : RetQ (CC W) 34 [.str s, .str [47], .int .i64 0, .int .i64 (-1)] h fun v h' => StrS W h' v (pieces s) := by
  refine acall_fin (cc_ok W) (fn34 W) (by simp only [Tryd.f34]; rfl) rfl rfl ?_
  have hcl : s.count 47 ≤ s.length := List.count_le_length
  have hcb : Lib.countByte s 47 = s.count 47 := rfl
  have w1 : IntKind.i64.wrap ((s.count 47 : Int) + 1) = (s.count 47 : Int) + 1 := wrap64 (by omega) (by omega)
  have w2 : IntKind.i64.wrap ((s.length : Int) + 1) = (s.length : Int) + 1 := wrap64 (by omega) (by omega)
  have w3 : IntKind.i64.wrap ((s.count 47 : Int) + 1 - 1) = (s.count 47 : Int) := (wrap64 (by omega) (by omega)).trans (by omega)
  have w0 : IntKind.i64.wrap (s.count 47 : Int) = (s.count 47 : Int) := wrap64 (by omega) (by omega)
  have hm : aMin [.int .i64 ((s.count 47 : Int) + 1), .int .i64 ((s.length : Int) + 1)] = some (.int .i64 ((s.count 47 : Int) + 1)) := by
    simp only [aMin, List.foldlM_cons, List.foldlM_nil]
    by_cases hlt : ((s.length : Int) + 1) < ((s.count 47 : Int) + 1)
    · omega
    · rw [if_neg hlt]; rfl
  have hmk : aMakeSlice (CC W) h 31 (.int .i64 ((s.count 47 : Int) + 1)) (.int .i64 ((s.count 47 : Int) + 1)) = some (.sl (some (.new h.next 0)) (s.count 47 + 1) (s.count 47 + 1) none, h.push (.cells (scells [] (s.count 47 + 1)) 9)) := by
    have hb : (CC W).bytes 9 = 16 := _root_.id rfl
    simp only [aMakeSlice, kind31, size9, zero9, hb, repZ_str]
    rw [if_pos ⟨by omega, by omega, by omega, by omega, by omega⟩]
    have e : ((s.count 47 : Int) + 1).toNat = s.count 47 + 1 := by omega
    rw [e]
  simp [Wc_seq, Wc_block, Wc_scope, Wc_skip, Wc_label, Wc_exit, Wc_ret, Wc_loop, Wc_region, Wc_cond, Nx_nil, Nx_seq, Nx_seq_exit, Nx_seq_ret, Nx_block, Nx_block_exit, Nx_block_ret, Rg_nil, Rg_cons, RgE, effA, calleeA, wantedA, enterN, ev, ofV, ofVn, putE, evalN, aBin, aInt_add, aInt_sub, aInt_mul, aInt_quo, aInt_rem, aInt_eql, aInt_neq, aInt_lss, aInt_leq, aInt_gtr, aInt_geq, aExtract, finQ_ret, resOf, extU, kq_eq, thenQ_normal, thenQ_exit, thenQ_ret, aStr]
  refine callK_Ret (by simp [fn37]) (Count_ret W s 47) ?_
  simp [Wc_seq, Wc_block, Wc_scope, Wc_skip, Wc_label, Wc_exit, Wc_ret, Wc_loop, Wc_region, Wc_cond, Nx_nil, Nx_seq, Nx_seq_exit, Nx_seq_ret, Nx_block, Nx_block_exit, Nx_block_ret, Rg_nil, Rg_cons, RgE, effA, calleeA, wantedA, enterN, ev, ofV, ofVn, putE, evalN, aBin, aInt_add, aInt_sub, aInt_mul, aInt_quo, aInt_rem, aInt_eql, aInt_neq, aInt_lss, aInt_leq, aInt_gtr, aInt_geq, aExtract, finQ_ret, resOf, extU, kq_eq, thenQ_normal, thenQ_exit, thenQ_ret, aLen, kind9, hcb, w1, w2, hm, hmk, w3]
  refine loopN (cc_ok W) (GenI s h) (s.count 47) ⟨⟨by simp, fun k hk => by rw [AH.get_push, if_neg (by omega)]⟩, by simp, [], s, by simp, by simp, rfl, Nat.le_refl _, by simp, by simp [w0]⟩ ?_
  rintro m e' h' ⟨⟨hn, hkeep⟩, hl, done, r, hp, hcnt, rfl, hrl, hg, hh⟩
  match e', hl with
  | a0 :: a1 :: a2 :: a3 :: a4 :: a5 :: a6 :: a7 :: a8 :: a9 :: a10 :: a11 :: a12 :: a13 :: a14 :: a15 :: a16 :: a17 :: a18 :: a19 :: a20 :: a21 :: a22 :: a23 :: a24 :: a25 :: a26 :: a27 :: a28 :: a29 :: a30 :: a31 :: a32 :: a33 :: a34 :: a35 :: a36 :: a37 :: a38 :: a39 :: a40 :: a41 :: a42 :: a43 :: a44 :: a45 :: a46 :: a47 :: a48 :: a49 :: a50 :: a51 :: a52 :: a53 :: a54 :: a55 :: a56 :: a57 :: a58 :: a59 :: a60 :: a61 :: a62 :: a63 :: a64 :: a65 :: [], _ =>
    simp at hh
    obtain ⟨rfl, rfl, rfl, rfl, rfl, rfl⟩ := hh
    have hdl : done.length < s.count 47 + 1 := by omega
    have hix : aIndexAddr (CC W) 31 (.sl (some (.new h.next 0)) (s.count 47 + 1) (s.count 47 + 1) none) (.int .i64 (done.length : Nat)) = some (.ptr (some (.new h.next done.length))) := by
      rw [idx_str hdl]; simp [AA.add]
    by_cases hz : r.count 47 = 0
    · have c1 : ¬ ((done.length : Int) < (s.count 47 : Int)) := by omega
      have c2 : ¬ (done.length < s.count 47) := by omega
      have w4 : IntKind.i64.wrap ((done.length : Int) + 1) = (done.length : Int) + 1 := wrap64 (by omega) (by omega)
      have hsl : ∀ x : AH, aSlice (CC W) 31 (.sl (some (.new h.next 0)) (s.count 47 + 1) (s.count 47 + 1) none) none (some (.int .i64 ((done.length : Int) + 1))) none = some (.sl (some (.new h.next 0)) (done.length + 1) (s.count 47 + 1) none) := by
        intro x
        have := aBounds_hi (len := s.count 47 + 1) (cap := s.count 47 + 1) (n := done.length + 1) (by omega)
        simp only [Int.natCast_add, Int.cast_ofNat_Int] at this
        simp only [aSlice, kind31, size9, this]
        simp [AA.add]
      have hst := store_str (W := W) (x := r) hg hdl
      simp [Wc_seq, Wc_block, Wc_scope, Wc_skip, Wc_label, Wc_exit, Wc_ret, Wc_loop, Wc_region, Wc_cond, Nx_nil, Nx_seq, Nx_seq_exit, Nx_seq_ret, Nx_block, Nx_block_exit, Nx_block_ret, Rg_nil, Rg_cons, RgE, effA, calleeA, wantedA, enterN, ev, ofV, ofVn, putE, evalN, aBin, aInt_add, aInt_sub, aInt_mul, aInt_quo, aInt_rem, aInt_eql, aInt_neq, aInt_lss, aInt_leq, aInt_gtr, aInt_geq, aExtract, finQ_ret, resOf, extU, kq_eq, thenQ_normal, thenQ_exit, thenQ_ret, c1, c2, hix, hst, w4, hsl h']
      refine ⟨⟨by simp; omega, fun j hj => by rw [AH.get_set, if_neg (by omega)]; exact hkeep j hj⟩, ?_⟩
      rw [hp, pieces_miss r hz]
      refine StrS.new (k := h.next) (m := done ++ [r]) (by rw [AH.get_set, if_pos rfl]) (by simp; omega) (by simp) (fun j x hx => hx) (by omega)
    · have c1 : ((done.length : Int) < (s.count 47 : Int)) := by omega
      have c2 : (done.length < s.count 47) := by omega
      obtain ⟨q, hq, hql, hpq, hcq⟩ := pieces_hit r hz
      simp [Wc_seq, Wc_block, Wc_scope, Wc_skip, Wc_label, Wc_exit, Wc_ret, Wc_loop, Wc_region, Wc_cond, Nx_nil, Nx_seq, Nx_seq_exit, Nx_seq_ret, Nx_block, Nx_block_exit, Nx_block_ret, Rg_nil, Rg_cons, RgE, effA, calleeA, wantedA, enterN, ev, ofV, ofVn, putE, evalN, aBin, aInt_add, aInt_sub, aInt_mul, aInt_quo, aInt_rem, aInt_eql, aInt_neq, aInt_lss, aInt_leq, aInt_gtr, aInt_geq, aExtract, finQ_ret, resOf, extU, kq_eq, thenQ_normal, thenQ_exit, thenQ_ret, c1, c2]
      refine callK_Ret (by simp [fn38]) (Index_ret W r 47) ?_
      rw [hq]
      have c3 : ¬ ((q : Int) < 0) := by omega
      have w4 : IntKind.i64.wrap ((q : Int) + 0) = (q : Int) := by rw [wrap64 (by omega) (by omega)]; omega
      have w4' : IntKind.i64.wrap (q : Int) = (q : Int) := wrap64 (by omega) (by omega)
      have w5 : IntKind.i64.wrap ((q : Int) + 1) = (q : Int) + 1 := wrap64 (by omega) (by omega)
      have w6 : IntKind.i64.wrap ((done.length : Int) + 1) = (done.length : Int) + 1 := wrap64 (by omega) (by omega)
      have hst := store_str (W := W) (x := r.take q) hg hdl
      have s1 : aSlice (CC W) 9 (.str r) none (some (.int .i64 (q : Int))) none = some (.str (r.take q)) := by
        exact slice_hi (by omega)
      have s2 : aSlice (CC W) 9 (.str r) (some (.int .i64 ((q : Int) + 1))) none none = some (.str (r.drop (q + 1))) := by
        have := slice_lo (W := W) (r := r) (q := q + 1) (by omega)
        simpa using this
      simp [Wc_seq, Wc_block, Wc_scope, Wc_skip, Wc_label, Wc_exit, Wc_ret, Wc_loop, Wc_region, Wc_cond, Nx_nil, Nx_seq, Nx_seq_exit, Nx_seq_ret, Nx_block, Nx_block_exit, Nx_block_ret, Rg_nil, Rg_cons, RgE, effA, calleeA, wantedA, enterN, ev, ofV, ofVn, putE, evalN, aBin, aInt_add, aInt_sub, aInt_mul, aInt_quo, aInt_rem, aInt_eql, aInt_neq, aInt_lss, aInt_leq, aInt_gtr, aInt_geq, aExtract, finQ_ret, resOf, extU, kq_eq, thenQ_normal, thenQ_exit, thenQ_ret, c3, w4, w4', w5, w6, hix, hst, s1, s2, aLen, kind9]
      refine ⟨(r.drop (q + 1)).count 47, by omega, ⟨by simpa using hn, fun j hj => by rw [AH.get_set, if_neg (by omega)]; exact hkeep j hj⟩, by simp, done ++ [r.take q], r.drop (q + 1), by rw [hp, hpq]; simp, by simp; omega, rfl, by simp; omega, by simp, by simp⟩

set_option maxRecDepth 20000 in
theorem Split_ret (W : World) (s : List UInt8) (hs : s.length < 8796093022207) (h : AH) : RetQ (CC W) 31 [.str s, .str [47]] h fun v h' => StrS W h' v (pieces s) := by
  refine acall_fin (cc_ok W) (fn31 W) (by simp only [Tryd.f31]; rfl) rfl rfl ?_
  simp [Wc_seq, Wc_block, Wc_scope, Wc_skip, Wc_label, Wc_exit, Wc_ret, Wc_loop, Wc_region, Wc_cond, Nx_nil, Nx_seq, Nx_seq_exit, Nx_seq_ret, Nx_block, Nx_block_exit, Nx_block_ret, Rg_nil, Rg_cons, RgE, effA, calleeA, wantedA, enterN, ev, ofV, ofVn, putE, evalN, aBin, aInt_add, aInt_sub, aInt_mul, aInt_quo, aInt_rem, aInt_eql, aInt_neq, aInt_lss, aInt_leq, aInt_gtr, aInt_geq, aExtract, finQ_ret, resOf, extU, kq_eq, thenQ_normal, thenQ_exit, thenQ_ret]
  refine callK_RetQ (by simp [fn34]) (genSplit_ret W s hs h) fun v h' hk hv => ?_
  simp [Wc_seq, Wc_block, Wc_scope, Wc_skip, Wc_label, Wc_exit, Wc_ret, Wc_loop, Wc_region, Wc_cond, Nx_nil, Nx_seq, Nx_seq_exit, Nx_seq_ret, Nx_block, Nx_block_exit, Nx_block_ret, Rg_nil, Rg_cons, RgE, effA, calleeA, wantedA, enterN, ev, ofV, ofVn, putE, evalN, aBin, aInt_add, aInt_sub, aInt_mul, aInt_quo, aInt_rem, aInt_eql, aInt_neq, aInt_lss, aInt_leq, aInt_gtr, aInt_geq, aExtract, finQ_ret, resOf, extU, kq_eq, thenQ_normal, thenQ_exit, thenQ_ret]
  exact ⟨hk, hv⟩
end Go.Proofs.YteedadelgpagfaaDoor.Ax
