/- Every table, step by step, as the document says. -/
import Derived.Test.YteedadelgpagfaaDoorAsks
set_option linter.unusedVariables false
set_option linter.unusedSimpArgs false
namespace Go.Proofs.YteedadelgpagfaaDoor.Ax
open Go.RowKit

theorem ld_sall {W : World} {h : AH} {j : Nat} {s : Stp} (hs : SAt h j s) : aLoad (CC W) h 27 (.new j 0) = some (.agg s.cells) := by
  simp only [aLoad, ty27, T27, AKind.isOther, AKind.isAgg, aCells, hs.2, Stp.cells]
  rfl
theorem build_rtab {W : World} : aBuild (CC W) 51 [] = some (.agg [.sl none 0 0 none]) := by
  simp only [aBuild, zero51, placeOf, kind51]; rfl
theorem box_tab {h : AH} : aBox h 51 (.agg [.sl none 0 0 none]) = some (.ptr (some (.new h.next 0)), h.push (.cells [.sl none 0 0 none] 51)) := rfl

theorem OwnI.keeps {h0 h h' : AH} {v : AV} {l : List Int} (ho : OwnI h0 h v l) (hk : Keeps h h') : OwnI h0 h' v l := by
  obtain ⟨a, b | ⟨k, h1, h2, h3, h4⟩⟩ := ho
  · exact ⟨a.trans hk, .inl b⟩
  · exact ⟨a.trans hk, .inr ⟨k, h1, Nat.lt_of_lt_of_le h2 hk.1, (hk.2 k h2).trans h3, h4⟩⟩

def OuI (k kw : Nat) (v : AV) (len : Nat) (m : Nat) (e' : Env) (h' : AH) : Prop :=
  e'.length = 115 ∧ ∃ (T : List Ent) (kl i : Nat), i + m = len ∧ TabIs h' k T ∧ RefIs h' kw kl (files T) ∧ k ≠ kl ∧ kl < h'.next ∧ (e'.getD 3 .undef = .ptr (some (.new k 0)) ∧ e'.getD 4 .undef = .ptr (some (.new kw 0)) ∧ e'.getD 19 .undef = v ∧ e'.getD 20 .undef = .int .i64 len ∧ e'.getD 21 .undef = .int .i64 i)

def InI (h1 : AH) (k kw q : Nat) (F : List Fe) (v sv : AV) (len i : Nat) (m : Nat) (e' : Env) (h' : AH) : Prop :=
  e'.length = 115 ∧ ∃ (j : Nat) (sl : AV), j + m = F.length ∧ OwnI h1 h' sl ((F.take j).map Fe.fd) ∧ (e'.getD 3 .undef = .ptr (some (.new k 0)) ∧ e'.getD 4 .undef = .ptr (some (.new kw 0)) ∧ e'.getD 6 .undef = .ptr (some (.new q 0)) ∧ e'.getD 7 .undef = sl ∧ e'.getD 19 .undef = v ∧ e'.getD 20 .undef = .int .i64 len ∧ e'.getD 21 .undef = .int .i64 i ∧ e'.getD 33 .undef = sv ∧ e'.getD 34 .undef = .int .i64 F.length ∧ e'.getD 35 .undef = .int .i64 j)

theorem files_le (T : List Ent) : (files T).length ≤ T.length := by unfold files; rw [files_length]; exact List.countP_le_length

set_option maxHeartbeats 32000000 in
set_option maxRecDepth 20000 in
theorem steps_ret (W : World) (h : AH) (v : AV) (l : List Stp) (hv : StpS W v l) (hl : l.length < 8796093022207) (hp : ∀ s ∈ l, s.p.length < 8796093022207) :
    ACall (CC W) 5 [v] h (fun v _ => v = .bool true) (fun _ _ => False) := by
  refine acall_fin (cc_ok W) (fn5 W) (by simp only [Tryd.f5]; rfl) rfl rfl ?_
  obtain ⟨pa, ca, rfl, hload⟩ := hv
  simp [Wc_seq, Wc_block, Wc_scope, Wc_skip, Wc_label, Wc_exit, Wc_ret, Wc_loop, Wc_region, Wc_cond, Nx_nil, Nx_seq, Nx_seq_exit, Nx_seq_ret, Nx_block, Nx_block_exit, Nx_block_ret, Rg_nil, Rg_cons, RgE, effA, calleeA, wantedA, enterN, ev, ofV, ofVn, putE, evalN, aBin, aInt_add, aInt_sub, aInt_mul, aInt_quo, aInt_rem, aInt_eql, aInt_neq, aInt_lss, aInt_leq, aInt_gtr, aInt_geq, aExtract, finQ_ret, resOf, extU, kq_eq, thenQ_normal, thenQ_exit, thenQ_ret]
  refine callK_RetQ (by simp [fn7]) (new_ret W h) fun v h1 hk1 hv => ?_
  obtain ⟨rfl, ht1⟩ := hv
  have hbx := box_tab (h := h1)
  have ht2 := ht1.keeps (Keeps.push h1 (.cells [.sl none 0 0 none] 51))
  have hf0 : files tab0 = [] := rfl
  have hr2 : RefIs (h1.push (.cells [.sl none 0 0 none] 51)) h1.next h1.next (files tab0) := ⟨by simp, _, by simp, .inl ⟨hf0, rfl⟩⟩
  have hkw : h.next ≠ h1.next := by have := ht1.1; omega
  have hlt2 : h1.next < (h1.push (.cells [.sl none 0 0 none] 51)).next := by simp
  simp [Wc_seq, Wc_block, Wc_scope, Wc_skip, Wc_label, Wc_exit, Wc_ret, Wc_loop, Wc_region, Wc_cond, Nx_nil, Nx_seq, Nx_seq_exit, Nx_seq_ret, Nx_block, Nx_block_exit, Nx_block_ret, Rg_nil, Rg_cons, RgE, effA, calleeA, wantedA, enterN, ev, ofV, ofVn, putE, evalN, aBin, aInt_add, aInt_sub, aInt_mul, aInt_quo, aInt_rem, aInt_eql, aInt_neq, aInt_lss, aInt_leq, aInt_gtr, aInt_geq, aExtract, finQ_ret, resOf, extU, kq_eq, thenQ_normal, thenQ_exit, thenQ_ret, aEq, kind23, kindEq1, aEq1, build_rtab, hbx, aLen, kind22]
  generalize h1.push (.cells [.sl none 0 0 none] 51) = h2 at ht2 hr2 hlt2 ⊢
  generalize h1.next = kw at *
  generalize h.next = k at *
  refine loopN (cc_ok W) (OuI k kw (.sl pa l.length ca none) l.length) l.length ⟨by simp, tab0, kw, 0, by simp, ht2, hr2, hkw, hlt2, by simp⟩ ?_
  rintro m e' h' ⟨hlen, T, kl, i, him, ht, hr, hkl, hklt, hh⟩
  match e', hlen with
  | a0 :: a1 :: a2 :: a3 :: a4 :: a5 :: a6 :: a7 :: a8 :: a9 :: a10 :: a11 :: a12 :: a13 :: a14 :: a15 :: a16 :: a17 :: a18 :: a19 :: a20 :: a21 :: a22 :: a23 :: a24 :: a25 :: a26 :: a27 :: a28 :: a29 :: a30 :: a31 :: a32 :: a33 :: a34 :: a35 :: a36 :: a37 :: a38 :: a39 :: a40 :: a41 :: a42 :: a43 :: a44 :: a45 :: a46 :: a47 :: a48 :: a49 :: a50 :: a51 :: a52 :: a53 :: a54 :: a55 :: a56 :: a57 :: a58 :: a59 :: a60 :: a61 :: a62 :: a63 :: a64 :: a65 :: a66 :: a67 :: a68 :: a69 :: a70 :: a71 :: a72 :: a73 :: a74 :: a75 :: a76 :: a77 :: a78 :: a79 :: a80 :: a81 :: a82 :: a83 :: a84 :: a85 :: a86 :: a87 :: a88 :: a89 :: a90 :: a91 :: a92 :: a93 :: a94 :: a95 :: a96 :: a97 :: a98 :: a99 :: a100 :: a101 :: a102 :: a103 :: a104 :: a105 :: a106 :: a107 :: a108 :: a109 :: a110 :: a111 :: a112 :: a113 :: a114 :: [], _ =>
    simp at hh
    obtain ⟨rfl, rfl, rfl, rfl, rfl⟩ := hh
    by_cases hlt : i < l.length
    · have hlt' : (i : Int) < (l.length : Int) := by omega
      have hx : l[i]? = some l[i] := by simp [hlt]
      have hps := hp l[i] (List.getElem_mem hlt)
      obtain ⟨a', hix, hld⟩ := hload i l[i] hx
      generalize l[i] = s at hx hps hld
      have hsat := sat_new (h := h') (s := s)
      have hsto := store_step (W := W) (h := h') (s := s)
      have hall := alloc_step (W := W) (h := h')
      have hkn := keeps_new (h := h') (o := .cells [.int .i64 0, .int .i64 0, .int .i64 0, .int .i64 0, .str []] 27) (o' := .cells s.cells 27)
      have htn := ht.keeps hkn
      have hrn := hr.keeps hkn
      have hltn := Nat.lt_of_lt_of_le hklt hkn.1
      have hqk : h'.next ≠ k := by have := ht.1; omega
      have hqw : h'.next ≠ kw := by have := hr.1; omega
      have hql : h'.next ≠ kl := by omega
      generalize (h'.push (.cells [.int .i64 0, .int .i64 0, .int .i64 0, .int .i64 0, .str []] 27)).set h'.next (.cells s.cells 27) = hs at hsat hsto htn hrn hltn hkn
      generalize h'.next = q at *
      have lall := ld_sall (W := W) hsat
      simp [Wc_seq, Wc_block, Wc_scope, Wc_skip, Wc_label, Wc_exit, Wc_ret, Wc_loop, Wc_region, Wc_cond, Nx_nil, Nx_seq, Nx_seq_exit, Nx_seq_ret, Nx_block, Nx_block_exit, Nx_block_ret, Rg_nil, Rg_cons, RgE, effA, calleeA, wantedA, enterN, ev, ofV, ofVn, putE, evalN, aBin, aInt_add, aInt_sub, aInt_mul, aInt_quo, aInt_rem, aInt_eql, aInt_neq, aInt_lss, aInt_leq, aInt_gtr, aInt_geq, aExtract, finQ_ret, resOf, extU, kq_eq, thenQ_normal, thenQ_exit, thenQ_ret, hlt, hlt', hix, hld, hall, hsto, lall]
      refine callK_ret (by simp [fn18]) (asks_ret W hs k kw kl T htn hrn hkw hkl hltn s hps) fun v h3 ⟨hv, T', kl', ht3, hr3, hfr3, hkl3, hlt3⟩ => ?_
      subst hv
      have hsat3 : SAt h3 q s := ⟨Nat.lt_of_lt_of_le hsat.1 hfr3.1, (hfr3.2 q hsat.1 hqk hqw hql).trans hsat.2⟩
      have hkl' : k ≠ kl' := by
        rcases hkl3 with e | e
        · rw [e]; exact hkl
        · have := htn.1; omega
      clear hfr3 hkl3
      obtain ⟨hw3, sv, hgw3, hF3⟩ := id hr3
      have hldL := ld_L (W := W) hgw3
      have hlen3 : aLen (CC W) h3 49 sv = some (.int .i64 (files T').length) := by
        rcases hF3 with ⟨e1, rfl⟩ | ⟨_, _, _, rfl⟩
        · rw [e1]; simp [aLen, kind49]
        · simp [aLen, kind49]
      simp [Wc_seq, Wc_block, Wc_scope, Wc_skip, Wc_label, Wc_exit, Wc_ret, Wc_loop, Wc_region, Wc_cond, Nx_nil, Nx_seq, Nx_seq_exit, Nx_seq_ret, Nx_block, Nx_block_exit, Nx_block_ret, Rg_nil, Rg_cons, RgE, effA, calleeA, wantedA, enterN, ev, ofV, ofVn, putE, evalN, aBin, aInt_add, aInt_sub, aInt_mul, aInt_quo, aInt_rem, aInt_eql, aInt_neq, aInt_lss, aInt_leq, aInt_gtr, aInt_geq, aExtract, finQ_ret, resOf, extU, kq_eq, thenQ_normal, thenQ_exit, thenQ_ret, aUn, aNilCheck, fa_L, hldL, hlen3]
      refine loopN (cc_ok W) (InI h3 k kw q (files T') (.sl pa l.length ca none) sv l.length i) (files T').length ⟨by simp, 0, .sl none 0 0 none, by simp, ⟨Keeps.refl _, .inl ⟨by simp, rfl⟩⟩, by simp⟩ ?_
      clear hlen3
      have hF16 : (files T').length ≤ 16 := by have := files_le T'; rw [ht3.2.2.1] at this; exact this
      generalize hF : files T' = F at *
      rintro m2 e2 h4 ⟨hlen2, j, sl, hjm, ho, hh2⟩
      have hk4 := ho.1
      have ht4 := ht3.keeps hk4
      have hr4 := hr3.keeps hk4
      have hlt4 := Nat.lt_of_lt_of_le hlt3 hk4.1
      have hsat4 := hsat3.keeps hk4
      match e2, hlen2 with
      | b0 :: b1 :: b2 :: b3 :: b4 :: b5 :: b6 :: b7 :: b8 :: b9 :: b10 :: b11 :: b12 :: b13 :: b14 :: b15 :: b16 :: b17 :: b18 :: b19 :: b20 :: b21 :: b22 :: b23 :: b24 :: b25 :: b26 :: b27 :: b28 :: b29 :: b30 :: b31 :: b32 :: b33 :: b34 :: b35 :: b36 :: b37 :: b38 :: b39 :: b40 :: b41 :: b42 :: b43 :: b44 :: b45 :: b46 :: b47 :: b48 :: b49 :: b50 :: b51 :: b52 :: b53 :: b54 :: b55 :: b56 :: b57 :: b58 :: b59 :: b60 :: b61 :: b62 :: b63 :: b64 :: b65 :: b66 :: b67 :: b68 :: b69 :: b70 :: b71 :: b72 :: b73 :: b74 :: b75 :: b76 :: b77 :: b78 :: b79 :: b80 :: b81 :: b82 :: b83 :: b84 :: b85 :: b86 :: b87 :: b88 :: b89 :: b90 :: b91 :: b92 :: b93 :: b94 :: b95 :: b96 :: b97 :: b98 :: b99 :: b100 :: b101 :: b102 :: b103 :: b104 :: b105 :: b106 :: b107 :: b108 :: b109 :: b110 :: b111 :: b112 :: b113 :: b114 :: [], _ =>
        simp at hh2
        obtain ⟨rfl, rfl, rfl, rfl, rfl, rfl, rfl, rfl, rfl, rfl⟩ := hh2
        by_cases hj : j < F.length
        · have hj' : (j : Int) < (F.length : Int) := by omega
          have hy : F[j]? = some F[j] := by simp [hj]
          generalize F[j] = y at hy
          have wj : IntKind.i64.wrap ((j : Int) + 1) = (j : Int) + 1 := wrap64 (by omega) (by omega)
          obtain ⟨c1, c2, c3, c4⟩ := ref_some hr4 hy
          have hsv : b33 = .sl (some (.new kl' 0)) F.length F.length (some 3) := by
            rcases hF3 with ⟨e1, _⟩ | ⟨_, _, _, e1⟩
            · rw [e1] at hj; simp at hj
            · exact e1
          subst hsv
          have lf := ld_f (W := W) c3 hy
          have haf := alloc_f (W := W) (h := h4)
          have hsf := store_f (W := W) (h := h4) (x := y)
          have hkf : Keeps h4 ((h4.push (.cells [.int .i64 0, .int .i64 0, .str []] 54)).set h4.next (.cells y.cells 54)) := keeps_new
          have l0 : aLoad (CC W) ((h4.push (.cells [.int .i64 0, .int .i64 0, .str []] 54)).set h4.next (.cells y.cells 54)) 3 (.new h4.next 0) = some (.int .i64 y.fd) := by
            rw [ld_int]; simp [aCell, Fe.cells]
          generalize (h4.push (.cells [.int .i64 0, .int .i64 0, .str []] 54)).set h4.next (.cells y.cells 54) = h5 at hsf hkf l0
          have ho5 : OwnI h3 h5 b7 ((F.take j).map Fe.fd) := ho.keeps hkf
          obtain ⟨v', h6, hap, ho6⟩ := append_int (W := W) (x := y.fd) ho5 (by simp; omega)
          have htk : (F.take (j + 1)).map Fe.fd = (F.take j).map Fe.fd ++ [y.fd] := by
            rw [List.take_add_one, hy, List.map_append]; rfl
          simp (config := { maxSteps := 4000000 }) [Wc_seq, Wc_block, Wc_scope, Wc_skip, Wc_label, Wc_exit, Wc_ret, Wc_loop, Wc_region, Wc_cond, Nx_nil, Nx_seq, Nx_seq_exit, Nx_seq_ret, Nx_block, Nx_block_exit, Nx_block_ret, Rg_nil, Rg_cons, RgE, effA, calleeA, wantedA, enterN, ev, ofV, ofVn, putE, evalN, aBin, aInt_add, aInt_sub, aInt_mul, aInt_quo, aInt_rem, aInt_eql, aInt_neq, aInt_lss, aInt_leq, aInt_gtr, aInt_geq, aExtract, finQ_ret, resOf, extU, kq_eq, thenQ_normal, thenQ_exit, thenQ_ret, hj, hj', idx_f hj, lf, haf, hsf, fa_f0, l0, build_int, hap, wj]
          exact ⟨m2 - 1, by omega, by simp, j + 1, v', by omega, by rw [htk]; exact ho6, by simp⟩
        · have hj' : ¬ (j : Int) < (F.length : Int) := by omega
          have htk : F.take j = F := List.take_of_length_le (by omega)
          rw [htk] at ho
          have hi4 : IntS h4 b7 (fds T') := by unfold fds; rw [hF]; exact ho.ints
          have m1 := ld_s1 (W := W) hsat4
          have wi : IntKind.i64.wrap ((i : Int) + 1) = (i : Int) + 1 := wrap64 (by omega) (by omega)
          have hfl : (fds T').length < 9223372036854775807 := by
            have e : (fds T').length = F.length := by unfold fds; rw [hF, List.length_map]
            omega
          cases hg : gotT T' s.fd with
          | none =>
            have hA : atR T' s.fd = ([], 0, 311) := by unfold atR; rw [hg]
            have hfind : findR F s.fd = -1 := by rw [← hF]; exact files_miss hg ht3.2.2.1
            simp [Wc_seq, Wc_block, Wc_scope, Wc_skip, Wc_label, Wc_exit, Wc_ret, Wc_loop, Wc_region, Wc_cond, Nx_nil, Nx_seq, Nx_seq_exit, Nx_seq_ret, Nx_block, Nx_block_exit, Nx_block_ret, Rg_nil, Rg_cons, RgE, effA, calleeA, wantedA, enterN, ev, ofV, ofVn, putE, evalN, aBin, aInt_add, aInt_sub, aInt_mul, aInt_quo, aInt_rem, aInt_eql, aInt_neq, aInt_lss, aInt_leq, aInt_gtr, aInt_geq, aExtract, finQ_ret, resOf, extU, kq_eq, thenQ_normal, thenQ_exit, thenQ_ret, hj, hj', fa_s1, m1]
            refine callK_RetH (by simp [fn17]) (at_ret W h4 k T' ht4 s.fd) ?_
            rw [hA]
            simp [Wc_seq, Wc_block, Wc_scope, Wc_skip, Wc_label, Wc_exit, Wc_ret, Wc_loop, Wc_region, Wc_cond, Nx_nil, Nx_seq, Nx_seq_exit, Nx_seq_ret, Nx_block, Nx_block_exit, Nx_block_ret, Rg_nil, Rg_cons, RgE, effA, calleeA, wantedA, enterN, ev, ofV, ofVn, putE, evalN, aBin, aInt_add, aInt_sub, aInt_mul, aInt_quo, aInt_rem, aInt_eql, aInt_neq, aInt_lss, aInt_leq, aInt_gtr, aInt_geq, aExtract, finQ_ret, resOf, extU, kq_eq, thenQ_normal, thenQ_exit, thenQ_ret, fa_s1, m1]
            refine callK_RetQ (by simp [fn19]) (find_ret W kw kl' F h4 hr4 (by omega) s.fd) fun v h5 hk5 hv => ?_
            rw [hfind] at hv
            subst hv
            simp [Wc_seq, Wc_block, Wc_scope, Wc_skip, Wc_label, Wc_exit, Wc_ret, Wc_loop, Wc_region, Wc_cond, Nx_nil, Nx_seq, Nx_seq_exit, Nx_seq_ret, Nx_block, Nx_block_exit, Nx_block_ret, Rg_nil, Rg_cons, RgE, effA, calleeA, wantedA, enterN, ev, ofV, ofVn, putE, evalN, aBin, aInt_add, aInt_sub, aInt_mul, aInt_quo, aInt_rem, aInt_eql, aInt_neq, aInt_lss, aInt_leq, aInt_gtr, aInt_geq, aExtract, finQ_ret, resOf, extU, kq_eq, thenQ_normal, thenQ_exit, thenQ_ret]
            refine callK_RetQ (by simp [fn11]) (lists_ret W h5 k T' (ht4.keeps hk5)) fun v h6 hk6 ho6 => ?_
            have hi6 := hi4.keeps (hk5.trans hk6)
            simp [Wc_seq, Wc_block, Wc_scope, Wc_skip, Wc_label, Wc_exit, Wc_ret, Wc_loop, Wc_region, Wc_cond, Nx_nil, Nx_seq, Nx_seq_exit, Nx_seq_ret, Nx_block, Nx_block_exit, Nx_block_ret, Rg_nil, Rg_cons, RgE, effA, calleeA, wantedA, enterN, ev, ofV, ofVn, putE, evalN, aBin, aInt_add, aInt_sub, aInt_mul, aInt_quo, aInt_rem, aInt_eql, aInt_neq, aInt_lss, aInt_leq, aInt_gtr, aInt_geq, aExtract, finQ_ret, resOf, extU, kq_eq, thenQ_normal, thenQ_exit, thenQ_ret]
            refine callK_RetH (by simp [fn20]) (ints_ret W h6 v b7 (fds T') (fds T') ho6.ints hi6 hfl) ?_
            simp (config := { maxSteps := 4000000 }) [Wc_seq, Wc_block, Wc_scope, Wc_skip, Wc_label, Wc_exit, Wc_ret, Wc_loop, Wc_region, Wc_cond, Nx_nil, Nx_seq, Nx_seq_exit, Nx_seq_ret, Nx_block, Nx_block_exit, Nx_block_ret, Rg_nil, Rg_cons, RgE, effA, calleeA, wantedA, enterN, ev, ofV, ofVn, putE, evalN, aBin, aInt_add, aInt_sub, aInt_mul, aInt_quo, aInt_rem, aInt_eql, aInt_neq, aInt_lss, aInt_leq, aInt_gtr, aInt_geq, aExtract, finQ_ret, resOf, extU, kq_eq, thenQ_normal, thenQ_exit, thenQ_ret, aEq, kind4, kindEq1, aEq1, aUn, aStr, wi]
            exact ⟨m - 1, by omega, by simp, T', kl', i + 1, by omega, ht4.keeps (hk5.trans hk6), by rw [hF]; exact hr4.keeps (hk5.trans hk6), hkl', Nat.lt_of_lt_of_le hlt4 (hk5.trans hk6).1, by simp⟩
          | some r =>
            obtain ⟨t, x⟩ := r
            have hA : atR T' s.fd = (x.1, x.2, 0) := by unfold atR; rw [hg]
            obtain ⟨hfind, hpos⟩ := files_got hg ht3.2.2.1
            rw [hF] at hfind hpos
            have hplt := (List.getElem?_eq_some_iff.1 hpos).1
            generalize nOpen (T'.take t) = pos at hfind hpos hplt
            simp [Wc_seq, Wc_block, Wc_scope, Wc_skip, Wc_label, Wc_exit, Wc_ret, Wc_loop, Wc_region, Wc_cond, Nx_nil, Nx_seq, Nx_seq_exit, Nx_seq_ret, Nx_block, Nx_block_exit, Nx_block_ret, Rg_nil, Rg_cons, RgE, effA, calleeA, wantedA, enterN, ev, ofV, ofVn, putE, evalN, aBin, aInt_add, aInt_sub, aInt_mul, aInt_quo, aInt_rem, aInt_eql, aInt_neq, aInt_lss, aInt_leq, aInt_gtr, aInt_geq, aExtract, finQ_ret, resOf, extU, kq_eq, thenQ_normal, thenQ_exit, thenQ_ret, hj, hj', fa_s1, m1]
            refine callK_RetH (by simp [fn17]) (at_ret W h4 k T' ht4 s.fd) ?_
            rw [hA]
            simp [Wc_seq, Wc_block, Wc_scope, Wc_skip, Wc_label, Wc_exit, Wc_ret, Wc_loop, Wc_region, Wc_cond, Nx_nil, Nx_seq, Nx_seq_exit, Nx_seq_ret, Nx_block, Nx_block_exit, Nx_block_ret, Rg_nil, Rg_cons, RgE, effA, calleeA, wantedA, enterN, ev, ofV, ofVn, putE, evalN, aBin, aInt_add, aInt_sub, aInt_mul, aInt_quo, aInt_rem, aInt_eql, aInt_neq, aInt_lss, aInt_leq, aInt_gtr, aInt_geq, aExtract, finQ_ret, resOf, extU, kq_eq, thenQ_normal, thenQ_exit, thenQ_ret, fa_s1, m1]
            refine callK_RetQ (by simp [fn19]) (find_ret W kw kl' F h4 hr4 (by omega) s.fd) fun v h5 hk5 hv => ?_
            rw [hfind] at hv
            subst hv
            simp [Wc_seq, Wc_block, Wc_scope, Wc_skip, Wc_label, Wc_exit, Wc_ret, Wc_loop, Wc_region, Wc_cond, Nx_nil, Nx_seq, Nx_seq_exit, Nx_seq_ret, Nx_block, Nx_block_exit, Nx_block_ret, Rg_nil, Rg_cons, RgE, effA, calleeA, wantedA, enterN, ev, ofV, ofVn, putE, evalN, aBin, aInt_add, aInt_sub, aInt_mul, aInt_quo, aInt_rem, aInt_eql, aInt_neq, aInt_lss, aInt_leq, aInt_gtr, aInt_geq, aExtract, finQ_ret, resOf, extU, kq_eq, thenQ_normal, thenQ_exit, thenQ_ret]
            refine callK_RetQ (by simp [fn11]) (lists_ret W h5 k T' (ht4.keeps hk5)) fun v h6 hk6 ho6 => ?_
            have hi6 := hi4.keeps (hk5.trans hk6)
            have hr6 := hr4.keeps (hk5.trans hk6)
            obtain ⟨c1, c2, c3, c4⟩ := ref_some hr6 hpos
            have hld6 := ld_L (W := W) c4
            have hp6 := ld_fpath (W := W) c3 hpos
            have ha6 := ld_fat (W := W) c3 hpos
            simp [Wc_seq, Wc_block, Wc_scope, Wc_skip, Wc_label, Wc_exit, Wc_ret, Wc_loop, Wc_region, Wc_cond, Nx_nil, Nx_seq, Nx_seq_exit, Nx_seq_ret, Nx_block, Nx_block_exit, Nx_block_ret, Rg_nil, Rg_cons, RgE, effA, calleeA, wantedA, enterN, ev, ofV, ofVn, putE, evalN, aBin, aInt_add, aInt_sub, aInt_mul, aInt_quo, aInt_rem, aInt_eql, aInt_neq, aInt_lss, aInt_leq, aInt_gtr, aInt_geq, aExtract, finQ_ret, resOf, extU, kq_eq, thenQ_normal, thenQ_exit, thenQ_ret]
            refine callK_RetH (by simp [fn20]) (ints_ret W h6 v b7 (fds T') (fds T') ho6.ints hi6 hfl) ?_
            have q1 : ¬ (pos : Int) < 0 := by omega
            have q2 : (0 : Int) ≤ (pos : Int) := by omega
            simp (config := { maxSteps := 4000000 }) [Wc_seq, Wc_block, Wc_scope, Wc_skip, Wc_label, Wc_exit, Wc_ret, Wc_loop, Wc_region, Wc_cond, Nx_nil, Nx_seq, Nx_seq_exit, Nx_seq_ret, Nx_block, Nx_block_exit, Nx_block_ret, Rg_nil, Rg_cons, RgE, effA, calleeA, wantedA, enterN, ev, ofV, ofVn, putE, evalN, aBin, aInt_add, aInt_sub, aInt_mul, aInt_quo, aInt_rem, aInt_eql, aInt_neq, aInt_lss, aInt_leq, aInt_gtr, aInt_geq, aExtract, finQ_ret, resOf, extU, kq_eq, thenQ_normal, thenQ_exit, thenQ_ret, aEq, kind4, kindEq1, aEq1, aUn, aStr, aNilCheck, fa_L, hld6, idx_f hplt, fa_f1, fa_f2, hp6, ha6, q1, q2, wi]
            exact ⟨m - 1, by omega, by simp, T', kl', i + 1, by omega, ht4.keeps (hk5.trans hk6), by rw [hF]; exact hr6, hkl', Nat.lt_of_lt_of_le hlt4 (hk5.trans hk6).1, by simp⟩
    · have hlt' : ¬ (i : Int) < (l.length : Int) := by omega
      simp [Wc_seq, Wc_block, Wc_scope, Wc_skip, Wc_label, Wc_exit, Wc_ret, Wc_loop, Wc_region, Wc_cond, Nx_nil, Nx_seq, Nx_seq_exit, Nx_seq_ret, Nx_block, Nx_block_exit, Nx_block_ret, Rg_nil, Rg_cons, RgE, effA, calleeA, wantedA, enterN, ev, ofV, ofVn, putE, evalN, aBin, aInt_add, aInt_sub, aInt_mul, aInt_quo, aInt_rem, aInt_eql, aInt_neq, aInt_lss, aInt_leq, aInt_gtr, aInt_geq, aExtract, finQ_ret, resOf, extU, kq_eq, thenQ_normal, thenQ_exit, thenQ_ret, hlt, hlt']
      refine callK_RetX (by simp [fn12]) (speaks_ret W) fun h6 hk6 => ?_
      simp [Wc_seq, Wc_block, Wc_scope, Wc_skip, Wc_label, Wc_exit, Wc_ret, Wc_loop, Wc_region, Wc_cond, Nx_nil, Nx_seq, Nx_seq_exit, Nx_seq_ret, Nx_block, Nx_block_exit, Nx_block_ret, Rg_nil, Rg_cons, RgE, effA, calleeA, wantedA, enterN, ev, ofV, ofVn, putE, evalN, aBin, aInt_add, aInt_sub, aInt_mul, aInt_quo, aInt_rem, aInt_eql, aInt_neq, aInt_lss, aInt_leq, aInt_gtr, aInt_geq, aExtract, finQ_ret, resOf, extU, kq_eq, thenQ_normal, thenQ_exit, thenQ_ret]
end Go.Proofs.YteedadelgpagfaaDoor.Ax
