/- The list of a table with its numbers; the same numbers. -/
import Derived.Test.YteedadelgpagfaaDoorRefOpen
set_option linter.unusedVariables false
set_option linter.unusedSimpArgs false
namespace Go.Proofs.YteedadelgpagfaaDoor.Ax
open Go.RowKit

def fds (T : List Ent) : List Int := (files T).map Fe.fd

theorem fds_take {T : List Ent} {i : Nat} {x : Ent} (h : T[i]? = some x) : fds (T.take (i + 1)) = fds (T.take i) ++ (if isOpen x = true then [(i : Int)] else []) := by
  have hi := (List.getElem?_eq_some_iff.1 h).1
  unfold fds files
  rw [List.take_add_one, h]
  simp only [Option.toList]
  rw [filesFrom_append, List.map_append, List.length_take, Nat.min_eq_left (by omega)]
  congr 1
  simp only [filesFrom]
  split <;> simp

theorem fds_length (T : List Ent) : (fds T).length = nOpen T := by unfold fds files; rw [List.length_map, files_length]

def LjI (h : AH) (k : Nat) (T : List Ent) (m : Nat) (e' : Env) (h' : AH) : Prop :=
  e'.length = 24 ∧ ∃ (i : Nat) (sl : AV), i + m = 16 ∧ OwnI h h' sl (fds (T.take i)) ∧ (e'.getD 0 .undef = .ptr (some (.new k 0)) ∧ e'.getD 3 .undef = sl ∧ e'.getD 7 .undef = .int .i64 i)

set_option maxHeartbeats 4000000 in
set_option maxRecDepth 20000 in
theorem lists_ret (W : World) (h : AH) (k : Nat) (T : List Ent) (ht : TabIs h k T) : RetQ (CC W) 11 [.ptr (some (.new k 0))] h fun v h' => OwnI h h' v (fds T) := by
  refine acall_fin (cc_ok W) (fn11 W) (by simp only [Tryd.f11]; rfl) rfl rfl ?_
  simp [Wc_seq, Wc_block, Wc_scope, Wc_skip, Wc_label, Wc_exit, Wc_ret, Wc_loop, Wc_region, Wc_cond, Nx_nil, Nx_seq, Nx_seq_exit, Nx_seq_ret, Nx_block, Nx_block_exit, Nx_block_ret, Rg_nil, Rg_cons, RgE, effA, calleeA, wantedA, enterN, ev, ofV, ofVn, putE, evalN, aBin, aInt_add, aInt_sub, aInt_mul, aInt_quo, aInt_rem, aInt_eql, aInt_neq, aInt_lss, aInt_leq, aInt_gtr, aInt_geq, aExtract, finQ_ret, resOf, extU, kq_eq, thenQ_normal, thenQ_exit, thenQ_ret]
  refine loopN (cc_ok W) (LjI h k T) 16 ⟨by simp, 0, .sl none 0 0 none, by simp, ⟨Keeps.refl _, .inl ⟨rfl, rfl⟩⟩, by simp⟩ ?_
  rintro m e' h' ⟨hl, i, sl, him, ho, hh⟩
  have hk := ho.1
  have ht' := ht.keeps hk
  match e', hl with
  | a0 :: a1 :: a2 :: a3 :: a4 :: a5 :: a6 :: a7 :: a8 :: a9 :: a10 :: a11 :: a12 :: a13 :: a14 :: a15 :: a16 :: a17 :: a18 :: a19 :: a20 :: a21 :: a22 :: a23 :: [], _ =>
    simp at hh
    obtain ⟨rfl, rfl, rfl⟩ := hh
    by_cases hlt : i < 16
    · have hlt' : (i : Int) < 16 := by omega
      have wi : IntKind.i64.wrap ((i : Int) + 1) = (i : Int) + 1 := wrap64 (by omega) (by omega)
      have hx : T[i]? = some (T[i]'(by rw [ht.2.2.1]; exact hlt)) := by simp [ht.2.2.1, hlt]
      generalize T[i]'(by rw [ht.2.2.1]; exact hlt) = x at hx
      have hnt := fds_take hx
      have hcl : nOpen (T.take i) ≤ (T.take i).length := List.countP_le_length
      have hll : (fds (T.take i)).length < 1099511627776 := by
        rw [fds_length]; simp at hcl; omega
      simp [Wc_seq, Wc_block, Wc_scope, Wc_skip, Wc_label, Wc_exit, Wc_ret, Wc_loop, Wc_region, Wc_cond, Nx_nil, Nx_seq, Nx_seq_exit, Nx_seq_ret, Nx_block, Nx_block_exit, Nx_block_ret, Rg_nil, Rg_cons, RgE, effA, calleeA, wantedA, enterN, ev, ofV, ofVn, putE, evalN, aBin, aInt_add, aInt_sub, aInt_mul, aInt_quo, aInt_rem, aInt_eql, aInt_neq, aInt_lss, aInt_leq, aInt_gtr, aInt_geq, aExtract, finQ_ret, resOf, extU, kq_eq, thenQ_normal, thenQ_exit, thenQ_ret, hlt, hlt']
      refine callK_RetH (by simp [fn23]) (get_ret W h' k T ht' i) ?_
      by_cases he : x.1 = []
      · have hg : gotT T i = none := by unfold gotT; rw [if_pos (by omega)]; simp [hx, he]
        rw [notOpen_of he] at hnt
        simp only [Bool.false_eq_true, if_false, List.append_nil] at hnt
        rw [hg]
        simp [Wc_seq, Wc_block, Wc_scope, Wc_skip, Wc_label, Wc_exit, Wc_ret, Wc_loop, Wc_region, Wc_cond, Nx_nil, Nx_seq, Nx_seq_exit, Nx_seq_ret, Nx_block, Nx_block_exit, Nx_block_ret, Rg_nil, Rg_cons, RgE, effA, calleeA, wantedA, enterN, ev, ofV, ofVn, putE, evalN, aBin, aInt_add, aInt_sub, aInt_mul, aInt_quo, aInt_rem, aInt_eql, aInt_neq, aInt_lss, aInt_leq, aInt_gtr, aInt_geq, aExtract, finQ_ret, resOf, extU, kq_eq, thenQ_normal, thenQ_exit, thenQ_ret, gotV, wi]
        exact ⟨m - 1, by omega, by simp, i + 1, a3, by omega, by rw [hnt]; exact ho, by simp⟩
      · have hg : gotT T i = some (i, x) := by unfold gotT; rw [if_pos (by omega)]; simp [hx, he]
        rw [isOpen_of he] at hnt
        simp only [if_true] at hnt
        obtain ⟨v', h2, hap, ho2⟩ := append_int (W := W) (x := (i : Int)) ho hll
        rw [hg]
        simp [Wc_seq, Wc_block, Wc_scope, Wc_skip, Wc_label, Wc_exit, Wc_ret, Wc_loop, Wc_region, Wc_cond, Nx_nil, Nx_seq, Nx_seq_exit, Nx_seq_ret, Nx_block, Nx_block_exit, Nx_block_ret, Rg_nil, Rg_cons, RgE, effA, calleeA, wantedA, enterN, ev, ofV, ofVn, putE, evalN, aBin, aInt_add, aInt_sub, aInt_mul, aInt_quo, aInt_rem, aInt_eql, aInt_neq, aInt_lss, aInt_leq, aInt_gtr, aInt_geq, aExtract, finQ_ret, resOf, extU, kq_eq, thenQ_normal, thenQ_exit, thenQ_ret, gotV, build_int, hap, wi]
        exact ⟨m - 1, by omega, by simp, i + 1, v', by omega, by rw [hnt]; exact ho2, by simp⟩
    · have hlt' : ¬ (i : Int) < 16 := by omega
      have hit : T.take i = T := List.take_of_length_le (by rw [ht.2.2.1]; omega)
      rw [hit] at ho
      simp [Wc_seq, Wc_block, Wc_scope, Wc_skip, Wc_label, Wc_exit, Wc_ret, Wc_loop, Wc_region, Wc_cond, Nx_nil, Nx_seq, Nx_seq_exit, Nx_seq_ret, Nx_block, Nx_block_exit, Nx_block_ret, Rg_nil, Rg_cons, RgE, effA, calleeA, wantedA, enterN, ev, ofV, ofVn, putE, evalN, aBin, aInt_add, aInt_sub, aInt_mul, aInt_quo, aInt_rem, aInt_eql, aInt_neq, aInt_lss, aInt_leq, aInt_gtr, aInt_geq, aExtract, finQ_ret, resOf, extU, kq_eq, thenQ_normal, thenQ_exit, thenQ_ret, hlt, hlt', hk, ho]

/-- Numbers in own memory. -/
def IntS (h : AH) (v : AV) (l : List Int) : Prop := l = [] ∧ v = .sl none 0 0 none ∨ ∃ k, k < h.next ∧ h.get k = some (.cells (l.map (.int .i64)) 3) ∧ v = .sl (some (.new k 0)) l.length l.length (some 1)
theorem OwnI.ints {h0 h : AH} {v : AV} {l : List Int} (ho : OwnI h0 h v l) : IntS h v l := by
  obtain ⟨_, h1 | ⟨k, h1, h2, h3, h4⟩⟩ := ho
  · exact .inl h1
  · exact .inr ⟨k, h2, h3, h4⟩
theorem IntS.keeps {h h' : AH} {v : AV} {l : List Int} (ho : IntS h v l) (hk : Keeps h h') : IntS h' v l := by
  obtain h1 | ⟨k, h2, h3, h4⟩ := ho
  · exact .inl h1
  · exact .inr ⟨k, Nat.lt_of_lt_of_le h2 hk.1, (hk.2 k h2).trans h3, h4⟩
theorem IntS.len {h : AH} {v : AV} {l : List Int} (ho : IntS h v l) : ∃ a c gr, v = .sl a l.length c gr := by
  obtain ⟨rfl, rfl⟩ | ⟨k, h2, h3, rfl⟩ := ho <;> exact ⟨_, _, _, rfl⟩
theorem IntS.at {W : World} {h : AH} {v : AV} {l : List Int} {i : Nat} {x : Int} (ho : IntS h v l) (hx : l[i]? = some x) : ∃ a, aIndexAddr (CC W) 35 v (.int .i64 (i : Int)) = some (.ptr (some a)) ∧ aLoad (CC W) h 3 a = some (.int .i64 x) := by
  have hi := (List.getElem?_eq_some_iff.1 hx).1
  obtain ⟨rfl, rfl⟩ | ⟨k, h2, h3, rfl⟩ := ho
  · simp at hx
  · refine ⟨.new k i, ?_, ?_⟩
    · simp only [aIndexAddr, kind35, size3]
      rw [if_pos (by omega)]
      simp [AA.add]
    · rw [ld_int]
      simp only [aCell, h3]
      simp [hx]

theorem take_nextI {a b : List Int} {k : Nat} {x : Int} (h : a.take k = b.take k) (ha : a[k]? = some x) (hb : b[k]? = some x) : a.take (k + 1) = b.take (k + 1) := by
  rw [List.take_add_one, List.take_add_one, h, ha, hb]

def EjI (va vb : AV) (a b : List Int) (h : AH) (m : Nat) (e' : Env) (h' : AH) : Prop :=
  h' = h ∧ e'.length = 26 ∧ ∃ k : Nat, k + m = a.length ∧ a.take k = b.take k ∧ (e'.getD 0 .undef = va ∧ e'.getD 1 .undef = vb ∧ e'.getD 12 .undef = .int .i64 a.length ∧ e'.getD 13 .undef = .int .i64 k)

set_option maxHeartbeats 4000000 in
set_option maxRecDepth 20000 in
theorem ints_ret (W : World) (h : AH) (va vb : AV) (a b : List Int) (ha : IntS h va a) (hb : IntS h vb b) (hla : a.length < 9223372036854775807) :
    RetH (CC W) 20 [va, vb] h (.bool (decide (a = b))) := by
  refine acall_fin (cc_ok W) (fn20 W) (by simp only [Tryd.f20]; rfl) rfl rfl ?_
  obtain ⟨pa, ca, ga, rfl⟩ := ha.len
  obtain ⟨pb, cb, gb, rfl⟩ := hb.len
  by_cases hlen : a.length = b.length
  · have hlen' : ((a.length : Int) != (b.length : Int)) = false := by simp [hlen]
    simp [Wc_seq, Wc_block, Wc_scope, Wc_skip, Wc_label, Wc_exit, Wc_ret, Wc_loop, Wc_region, Wc_cond, Nx_nil, Nx_seq, Nx_seq_exit, Nx_seq_ret, Nx_block, Nx_block_exit, Nx_block_ret, Rg_nil, Rg_cons, RgE, effA, calleeA, wantedA, enterN, ev, ofV, ofVn, putE, evalN, aBin, aInt_add, aInt_sub, aInt_mul, aInt_quo, aInt_rem, aInt_eql, aInt_neq, aInt_lss, aInt_leq, aInt_gtr, aInt_geq, aExtract, finQ_ret, resOf, extU, kq_eq, thenQ_normal, thenQ_exit, thenQ_ret, aLen, kind35, hlen']
    refine loopN (cc_ok W) (EjI (.sl pa a.length ca ga) (.sl pb b.length cb gb) a b h) a.length ⟨rfl, by simp, 0, by simp, by simp, by simp⟩ ?_
    rintro m e' h' ⟨rfl, hl, k, hkm, htk, hh⟩
    match e', hl with
    | a0 :: a1 :: a2 :: a3 :: a4 :: a5 :: a6 :: a7 :: a8 :: a9 :: a10 :: a11 :: a12 :: a13 :: a14 :: a15 :: a16 :: a17 :: a18 :: a19 :: a20 :: a21 :: a22 :: a23 :: a24 :: a25 :: [], _ =>
      simp at hh
      obtain ⟨rfl, rfl, rfl, rfl⟩ := hh
      by_cases hlt : k < a.length
      · have hlt' : (k : Int) < (a.length : Int) := by omega
        have hx : a[k]? = some a[k] := by simp [hlt]
        obtain ⟨a', hix, hld⟩ := ha.at (W := W) hx
        have hy : b[k]? = some (b[k]'(by omega)) := by simp [show k < b.length by omega]
        obtain ⟨b', hiy, hldy⟩ := hb.at (W := W) hy
        have wk : IntKind.i64.wrap ((k : Int) + 1) = (k : Int) + 1 := wrap64 (by omega) (by omega)
        generalize a[k] = x at hx hld
        generalize b[k]'(by omega) = y at hy hldy
        by_cases hxy : x = y
        · subst hxy
          have hb1 : (x != x) = false := by simp
          simp [Wc_seq, Wc_block, Wc_scope, Wc_skip, Wc_label, Wc_exit, Wc_ret, Wc_loop, Wc_region, Wc_cond, Nx_nil, Nx_seq, Nx_seq_exit, Nx_seq_ret, Nx_block, Nx_block_exit, Nx_block_ret, Rg_nil, Rg_cons, RgE, effA, calleeA, wantedA, enterN, ev, ofV, ofVn, putE, evalN, aBin, aInt_add, aInt_sub, aInt_mul, aInt_quo, aInt_rem, aInt_eql, aInt_neq, aInt_lss, aInt_leq, aInt_gtr, aInt_geq, aExtract, finQ_ret, resOf, extU, kq_eq, thenQ_normal, thenQ_exit, thenQ_ret, hlt, hlt']
          refine draw1 (cc_ok W) [0, 1, 2, 3, 4, 5, 6, 7, 8] (by kernel_rfl) (by kernel_rfl) (by kernel_rfl) rfl ?_
          simp [Wc_seq, Wc_block, Wc_scope, Wc_skip, Wc_label, Wc_exit, Wc_ret, Wc_loop, Wc_region, Wc_cond, Nx_nil, Nx_seq, Nx_seq_exit, Nx_seq_ret, Nx_block, Nx_block_exit, Nx_block_ret, Rg_nil, Rg_cons, RgE, effA, calleeA, wantedA, enterN, ev, ofV, ofVn, putE, evalN, aBin, aInt_add, aInt_sub, aInt_mul, aInt_quo, aInt_rem, aInt_eql, aInt_neq, aInt_lss, aInt_leq, aInt_gtr, aInt_geq, aExtract, finQ_ret, resOf, extU, kq_eq, thenQ_normal, thenQ_exit, thenQ_ret, hix, hld, hiy, hldy, hb1, wk]
          exact ⟨m - 1, by omega, rfl, by simp, k + 1, by omega, take_nextI htk hx hy, by simp⟩
        · have hb1 : (x != y) = true := by rw [bne_iff_ne]; exact hxy
          have hne : a ≠ b := by intro e; subst e; rw [hx] at hy; exact hxy (Option.some.inj hy)
          simp [Wc_seq, Wc_block, Wc_scope, Wc_skip, Wc_label, Wc_exit, Wc_ret, Wc_loop, Wc_region, Wc_cond, Nx_nil, Nx_seq, Nx_seq_exit, Nx_seq_ret, Nx_block, Nx_block_exit, Nx_block_ret, Rg_nil, Rg_cons, RgE, effA, calleeA, wantedA, enterN, ev, ofV, ofVn, putE, evalN, aBin, aInt_add, aInt_sub, aInt_mul, aInt_quo, aInt_rem, aInt_eql, aInt_neq, aInt_lss, aInt_leq, aInt_gtr, aInt_geq, aExtract, finQ_ret, resOf, extU, kq_eq, thenQ_normal, thenQ_exit, thenQ_ret, hlt, hlt']
          refine draw1 (cc_ok W) [0, 1, 2, 3, 4, 5, 6, 7, 8] (by kernel_rfl) (by kernel_rfl) (by kernel_rfl) rfl ?_
          simp [Wc_seq, Wc_block, Wc_scope, Wc_skip, Wc_label, Wc_exit, Wc_ret, Wc_loop, Wc_region, Wc_cond, Nx_nil, Nx_seq, Nx_seq_exit, Nx_seq_ret, Nx_block, Nx_block_exit, Nx_block_ret, Rg_nil, Rg_cons, RgE, effA, calleeA, wantedA, enterN, ev, ofV, ofVn, putE, evalN, aBin, aInt_add, aInt_sub, aInt_mul, aInt_quo, aInt_rem, aInt_eql, aInt_neq, aInt_lss, aInt_leq, aInt_gtr, aInt_geq, aExtract, finQ_ret, resOf, extU, kq_eq, thenQ_normal, thenQ_exit, thenQ_ret, hix, hld, hiy, hldy, hb1, hne]
      · have hlt' : ¬ (k : Int) < (a.length : Int) := by omega
        have he : a = b := by
          have h1 : a.take k = a := List.take_of_length_le (by omega)
          have h2 : b.take k = b := List.take_of_length_le (by omega)
          rw [← h1, htk, h2]
        rw [decide_eq_true he]
        simp [Wc_seq, Wc_block, Wc_scope, Wc_skip, Wc_label, Wc_exit, Wc_ret, Wc_loop, Wc_region, Wc_cond, Nx_nil, Nx_seq, Nx_seq_exit, Nx_seq_ret, Nx_block, Nx_block_exit, Nx_block_ret, Rg_nil, Rg_cons, RgE, effA, calleeA, wantedA, enterN, ev, ofV, ofVn, putE, evalN, aBin, aInt_add, aInt_sub, aInt_mul, aInt_quo, aInt_rem, aInt_eql, aInt_neq, aInt_lss, aInt_leq, aInt_gtr, aInt_geq, aExtract, finQ_ret, resOf, extU, kq_eq, thenQ_normal, thenQ_exit, thenQ_ret, hlt, hlt']
  · have hlen' : ((a.length : Int) != (b.length : Int)) = true := by rw [bne_iff_ne]; omega
    have hne : a ≠ b := by intro e; exact hlen (by rw [e])
    simp [Wc_seq, Wc_block, Wc_scope, Wc_skip, Wc_label, Wc_exit, Wc_ret, Wc_loop, Wc_region, Wc_cond, Nx_nil, Nx_seq, Nx_seq_exit, Nx_seq_ret, Nx_block, Nx_block_exit, Nx_block_ret, Rg_nil, Rg_cons, RgE, effA, calleeA, wantedA, enterN, ev, ofV, ofVn, putE, evalN, aBin, aInt_add, aInt_sub, aInt_mul, aInt_quo, aInt_rem, aInt_eql, aInt_neq, aInt_lss, aInt_leq, aInt_gtr, aInt_geq, aExtract, finQ_ret, resOf, extU, kq_eq, thenQ_normal, thenQ_exit, thenQ_ret, aLen, kind35, hlen', hne]
end Go.Proofs.YteedadelgpagfaaDoor.Ax
