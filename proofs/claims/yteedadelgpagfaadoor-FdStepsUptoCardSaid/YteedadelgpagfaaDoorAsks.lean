/- A table does a step as the document says. -/
import Derived.Test.YteedadelgpagfaaDoorInts
set_option linter.unusedVariables false
set_option linter.unusedSimpArgs false
namespace Go.Proofs.YteedadelgpagfaaDoor.Ax
open Go.RowKit

theorem openQ_tup {T T' : List Ent} {p : List UInt8} {v : AV} (h : OpenQ T p v T') : ∃ a e : Int, v = .tup [.int .i64 a, .int .i64 e] := by
  rcases h with ⟨_, h, _⟩ | ⟨_, i, x, _, _, _, _, h, _⟩ | ⟨_, _, h, _⟩ <;> exact ⟨_, _, h⟩
theorem openQ_det {T T1 T2 : List Ent} {p : List UInt8} {v w : AV} (h : OpenQ T p v T1) (h' : OpenQ T p w T2) : w = v ∧ T2 = T1 := by
  rcases h with ⟨a, b, c⟩ | ⟨a, i, x, hi, hx, hxe, hno, b, c⟩ | ⟨a, hno, b, c⟩ <;> rcases h' with ⟨a', b', c'⟩ | ⟨a', i', x', hi', hx', hxe', hno', b', c'⟩ | ⟨a', hno', b', c'⟩
  · exact ⟨b'.trans b.symm, c'.trans c.symm⟩
  · exact absurd a' a
  · exact absurd a' a
  · exact absurd a a'
  · have : i' = i := by
      rcases Nat.lt_trichotomy i' i with h | h | h
      · exact absurd hxe' (hno i' x' h hx')
      · exact h
      · exact absurd hxe (hno' i x h hx)
    subst this
    exact ⟨b'.trans b.symm, c'.trans c.symm⟩
  · exact absurd hxe (hno' i x hx)
  · exact absurd a a'
  · exact absurd hxe' (hno i' x' hx')
  · exact ⟨b'.trans b.symm, c'.trans c.symm⟩
theorem closeQ_det {T T1 T2 : List Ent} {fd : Int} {v w : AV} (h : CloseQ T fd v T1) (h' : CloseQ T fd w T2) : w = v ∧ T2 = T1 := by
  unfold CloseQ at h h'
  split at h <;> rename_i hg <;> rw [hg] at h' <;> simp only at h' <;> exact ⟨h'.1.trans h.1.symm, h'.2.trans h.2.symm⟩
theorem closeQ_int {T T1 : List Ent} {fd : Int} {v : AV} (h : CloseQ T fd v T1) : ∃ a : Int, v = .int .i64 a := by
  unfold CloseQ at h
  split at h <;> exact ⟨_, h.1⟩
theorem seekQ_det {T T1 T2 : List Ent} {fd fr n : Int} {v w : AV} (h : SeekQ T fd fr n v T1) (h' : SeekQ T fd fr n w T2) : w = v ∧ T2 = T1 := by
  unfold SeekQ at h h'
  split at h <;> rename_i hg <;> rw [hg] at h' <;> simp only at h'
  · split at h <;> rename_i hb
    · rw [if_pos hb] at h'; exact ⟨h'.1.trans h.1.symm, h'.2.trans h.2.symm⟩
    · rw [if_neg hb] at h'; exact ⟨h'.1.trans h.1.symm, h'.2.trans h.2.symm⟩
  · exact ⟨h'.1.trans h.1.symm, h'.2.trans h.2.symm⟩
theorem seekQ_tup {T T1 : List Ent} {fd fr n : Int} {v : AV} (h : SeekQ T fd fr n v T1) : ∃ a e : Int, v = .tup [.int .i64 a, .int .i64 e] := by
  unfold SeekQ at h
  split at h
  · split at h <;> exact ⟨_, _, h.1⟩
  · exact ⟨_, _, h.1⟩
theorem movedQ_det {T T1 T2 : List Ent} {fd n : Int} {v w : AV} (h : MovedQ T fd n v T1) (h' : MovedQ T fd n w T2) : w = v ∧ T2 = T1 := by
  unfold MovedQ at h h'
  split at h <;> rename_i hg <;> rw [hg] at h' <;> simp only at h'
  · split at h <;> rename_i hb
    · rw [if_pos hb] at h'; exact ⟨h'.1.trans h.1.symm, h'.2.trans h.2.symm⟩
    · rw [if_neg hb] at h'; exact ⟨h'.1.trans h.1.symm, h'.2.trans h.2.symm⟩
  · exact ⟨h'.1.trans h.1.symm, h'.2.trans h.2.symm⟩
theorem movedQ_int {T T1 : List Ent} {fd n : Int} {v : AV} (h : MovedQ T fd n v T1) : ∃ a : Int, v = .int .i64 a := by
  unfold MovedQ at h
  split at h
  · split at h <;> exact ⟨_, h.1⟩
  · exact ⟨_, h.1⟩

def AskP (k kw kl : Nat) (h h' : AH) : Prop := ∃ T' kl', TabIs h' k T' ∧ RefIs h' kw kl' (files T') ∧ (h.next ≤ h'.next ∧ ∀ j, j < h.next → j ≠ k → j ≠ kw → j ≠ kl → h'.get j = h.get j) ∧ (kl' = kl ∨ h.next ≤ kl') ∧ kl' < h'.next

theorem RefIs.but {h h' : AH} {k kw kl : Nat} {F : List Fe} (hr : RefIs h kw kl F) (hk : KeepsBut k h h') (h1 : kw ≠ k) (h2 : kl ≠ k) : RefIs h' kw kl F := by
  obtain ⟨a, sv, b, c⟩ := hr
  refine ⟨Nat.lt_of_lt_of_le a hk.1, sv, (hk.2 kw a h1).trans b, ?_⟩
  rcases c with c | ⟨c, d, e, f⟩
  · exact .inl c
  · exact .inr ⟨Nat.lt_of_lt_of_le c hk.1, d, (hk.2 kl c h2).trans e, f⟩
theorem TabIs.but2 {h h' : AH} {k a b : Nat} {T : List Ent} (ht : TabIs h k T) (hk : KeepsBut2 a b h h') (h1 : k ≠ a) (h2 : k ≠ b) : TabIs h' k T := ⟨Nat.lt_of_lt_of_le ht.1 hk.1, (hk.2 k ht.1 h1 h2).trans ht.2.1, ht.2.2⟩
theorem SAt.but2 {h h' : AH} {j a b : Nat} {s : Stp} (hs : SAt h j s) (hk : KeepsBut2 a b h h') (h1 : j ≠ a) (h2 : j ≠ b) : SAt h' j s := ⟨Nat.lt_of_lt_of_le hs.1 hk.1, (hk.2 j hs.1 h1 h2).trans hs.2⟩
theorem SAt.keeps {h h' : AH} {j : Nat} {s : Stp} (hs : SAt h j s) (hk : Keeps h h') : SAt h' j s := ⟨Nat.lt_of_lt_of_le hs.1 hk.1, (hk.2 j hs.1).trans hs.2⟩

/-- What a step leaves, both tables done. -/
theorem ask_fin {h hb h1 h2 : AH} {k kw kl kl' : Nat} {T1 : List Ent} (hlt : kl < h.next) (hkb : Keeps h hb) (h01 : KeepsBut k hb h1) (h12 : KeepsBut2 kw kl h1 h2) (hkl : kl' = kl ∨ h1.next ≤ kl') (hk1 : k ≠ kw) (hk2 : k ≠ kl)
    (ht : TabIs h1 k T1) (hr : RefIs h2 kw kl' (files T1)) : AskP k kw kl h h2 := by
  have hfr : h.next ≤ h2.next ∧ ∀ j, j < h.next → j ≠ k → j ≠ kw → j ≠ kl → h2.get j = h.get j :=
    ⟨Nat.le_trans hkb.1 (Nat.le_trans h01.1 h12.1), fun j hj a b c => by
      have := hkb.1; have := h01.1
      rw [h12.2 j (by omega) b c, h01.2 j (by omega) a, hkb.2 j hj]⟩
  obtain ⟨a, sv, b, c⟩ := hr
  rcases c with ⟨c, d⟩ | ⟨c, d, e, f⟩
  · exact ⟨T1, kl, ht.but2 h12 hk1 hk2, ⟨a, sv, b, .inl ⟨c, d⟩⟩, hfr, .inl rfl, Nat.lt_of_lt_of_le hlt hfr.1⟩
  · refine ⟨T1, kl', ht.but2 h12 hk1 hk2, ⟨a, sv, b, .inr ⟨c, d, e, f⟩⟩, hfr, ?_, c⟩
    rcases hkl with hkl | hkl
    · exact .inl hkl
    · have := hkb.1; have := h01.1; exact .inr (by omega)

theorem box_step {h : AH} {s : Stp} : aBox h 27 (.agg s.cells) = some (.ptr (some (.new h.next 0)), h.push (.cells s.cells 27)) := rfl

theorem op_same {W : World} {o1 o2 : Operand} {a b c : Int} {p d : List UInt8} : aEq (CC W) o1 o2 41 (.agg [.int .i64 a, .int .i64 b, .int .i64 c, .str p, .str [], .str d]) (.agg [.int .i64 a, .int .i64 b, .int .i64 c, .str p, .str [], .str d]) = some true := by
  simp [aEq, aEqIn, aEqFs, kind41, aPart, kind3, kind9, size3, size9, AKind.isAgg]
theorem nextR_op (T : List Ent) (fd n : Int) : ∃ a b c p d, (nextR T fd n).1 = opV a b c p d := by
  unfold nextR
  split
  · exact ⟨_, _, _, _, _, rfl⟩
  · split <;> exact ⟨_, _, _, _, _, rfl⟩
theorem writeR_op (T : List Ent) (fd : Int) (d0 : List UInt8) : ∃ a b c p d, (writeR T fd d0).1 = opV a b c p d := by
  unfold writeR
  split
  · exact ⟨_, _, _, _, _, rfl⟩
  · split <;> exact ⟨_, _, _, _, _, rfl⟩
theorem ask_same {h h2 : AH} {k kw kl : Nat} {T : List Ent} (hlt : kl < h.next) (hk : Keeps h h2) (ht : TabIs h k T) (hr : RefIs h kw kl (files T)) : AskP k kw kl h h2 :=
  ⟨T, kl, ht.keeps hk, hr.keeps hk, ⟨hk.1, fun j hj _ _ _ => hk.2 j hj⟩, .inl rfl, Nat.lt_of_lt_of_le hlt hk.1⟩

set_option maxHeartbeats 16000000 in
set_option maxRecDepth 20000 in
theorem asks_ret (W : World) (h : AH) (k kw kl : Nat) (T : List Ent) (ht : TabIs h k T) (hr : RefIs h kw kl (files T)) (hkw : k ≠ kw) (hkl : k ≠ kl) (hlt : kl < h.next) (s : Stp) (hp : s.p.length < 8796093022207) :
    ACall (CC W) 18 [.ptr (some (.new k 0)), .ptr (some (.new kw 0)), .agg s.cells] h (fun v h' => v = .bool true ∧ AskP k kw kl h h') (fun _ _ => False) := by
  refine acall_fin (cc_ok W) (fn18 W) (by simp only [Tryd.f18]; rfl) rfl rfl ?_
  have hT : T.length = 16 := ht.2.2.1
  have hkb := Keeps.push h (.cells s.cells 27)
  have hsat : SAt (h.push (.cells s.cells 27)) h.next s := ⟨by simp, by simp⟩
  have htb := ht.keeps hkb
  have hrb := hr.keeps hkb
  have hbox := box_step (h := h) (s := s)
  have hqk : h.next ≠ k := by have := ht.1; omega
  have hqw : h.next ≠ kw := by have := hr.1; omega
  have hql : h.next ≠ kl := by omega
  generalize h.push (.cells s.cells 27) = hb at hkb hsat htb hrb hbox
  generalize hq0 : h.next = q at hsat hbox hqk hqw hql
  have l0 := ld_s0 (W := W) hsat
  have l1 := ld_s1 (W := W) hsat
  have l2 := ld_s2 (W := W) hsat
  have l3 := ld_s3 (W := W) hsat
  have l4 := ld_s4 (W := W) hsat
  by_cases h0 : s.k = 0
  · simp [Wc_seq, Wc_block, Wc_scope, Wc_skip, Wc_label, Wc_exit, Wc_ret, Wc_loop, Wc_region, Wc_cond, Nx_nil, Nx_seq, Nx_seq_exit, Nx_seq_ret, Nx_block, Nx_block_exit, Nx_block_ret, Rg_nil, Rg_cons, RgE, effA, calleeA, wantedA, enterN, ev, ofV, ofVn, putE, evalN, aBin, aInt_add, aInt_sub, aInt_mul, aInt_quo, aInt_rem, aInt_eql, aInt_neq, aInt_lss, aInt_leq, aInt_gtr, aInt_geq, aExtract, finQ_ret, resOf, extU, kq_eq, thenQ_normal, thenQ_exit, thenQ_ret, hbox, fa_s0, fa_s4, l0, l4, h0]
    refine callK_RetT (by simp [fn8]) (open_ret W hb k T htb s.p hp) fun v h1 T1 hq1 hkb1 ht1 => ?_
    obtain ⟨a, e, rfl⟩ := openQ_tup hq1
    have m4 := ld_s4 (W := W) (hsat.but hkb1 hqk)
    simp [Wc_seq, Wc_block, Wc_scope, Wc_skip, Wc_label, Wc_exit, Wc_ret, Wc_loop, Wc_region, Wc_cond, Nx_nil, Nx_seq, Nx_seq_exit, Nx_seq_ret, Nx_block, Nx_block_exit, Nx_block_ret, Rg_nil, Rg_cons, RgE, effA, calleeA, wantedA, enterN, ev, ofV, ofVn, putE, evalN, aBin, aInt_add, aInt_sub, aInt_mul, aInt_quo, aInt_rem, aInt_eql, aInt_neq, aInt_lss, aInt_leq, aInt_gtr, aInt_geq, aExtract, finQ_ret, resOf, extU, kq_eq, thenQ_normal, thenQ_exit, thenQ_ret, fa_s4, m4]
    refine callK_RetR (by simp [fn25]) (refOpen_ret W h1 kw kl T hT (hrb.but hkb1 (Ne.symm hkw) (Ne.symm hkl)) s.p hp) fun w h2 T2 kl2 hq2 hr2 hk2 hkl2 => ?_
    obtain ⟨rfl, rfl⟩ := openQ_det hq1 hq2
    simp [Wc_seq, Wc_block, Wc_scope, Wc_skip, Wc_label, Wc_exit, Wc_ret, Wc_loop, Wc_region, Wc_cond, Nx_nil, Nx_seq, Nx_seq_exit, Nx_seq_ret, Nx_block, Nx_block_exit, Nx_block_ret, Rg_nil, Rg_cons, RgE, effA, calleeA, wantedA, enterN, ev, ofV, ofVn, putE, evalN, aBin, aInt_add, aInt_sub, aInt_mul, aInt_quo, aInt_rem, aInt_eql, aInt_neq, aInt_lss, aInt_leq, aInt_gtr, aInt_geq, aExtract, finQ_ret, resOf, extU, kq_eq, thenQ_normal, thenQ_exit, thenQ_ret]
    exact ask_fin hlt hkb hkb1 hk2 hkl2 hkw hkl ht1 hr2
  by_cases h1 : s.k = 1
  · simp [Wc_seq, Wc_block, Wc_scope, Wc_skip, Wc_label, Wc_exit, Wc_ret, Wc_loop, Wc_region, Wc_cond, Nx_nil, Nx_seq, Nx_seq_exit, Nx_seq_ret, Nx_block, Nx_block_exit, Nx_block_ret, Rg_nil, Rg_cons, RgE, effA, calleeA, wantedA, enterN, ev, ofV, ofVn, putE, evalN, aBin, aInt_add, aInt_sub, aInt_mul, aInt_quo, aInt_rem, aInt_eql, aInt_neq, aInt_lss, aInt_leq, aInt_gtr, aInt_geq, aExtract, finQ_ret, resOf, extU, kq_eq, thenQ_normal, thenQ_exit, thenQ_ret, hbox, fa_s0, fa_s4, l0, l4, h1]
    refine callK_RetT (by simp [fn8]) (open_ret W hb k T htb s.p hp) fun v h1 T1 hq1 hkb1 ht1 => ?_
    obtain ⟨a, e, rfl⟩ := openQ_tup hq1
    have m4 := ld_s4 (W := W) (hsat.but hkb1 hqk)
    simp [Wc_seq, Wc_block, Wc_scope, Wc_skip, Wc_label, Wc_exit, Wc_ret, Wc_loop, Wc_region, Wc_cond, Nx_nil, Nx_seq, Nx_seq_exit, Nx_seq_ret, Nx_block, Nx_block_exit, Nx_block_ret, Rg_nil, Rg_cons, RgE, effA, calleeA, wantedA, enterN, ev, ofV, ofVn, putE, evalN, aBin, aInt_add, aInt_sub, aInt_mul, aInt_quo, aInt_rem, aInt_eql, aInt_neq, aInt_lss, aInt_leq, aInt_gtr, aInt_geq, aExtract, finQ_ret, resOf, extU, kq_eq, thenQ_normal, thenQ_exit, thenQ_ret, fa_s4, m4]
    refine callK_RetR (by simp [fn25]) (refOpen_ret W h1 kw kl T hT (hrb.but hkb1 (Ne.symm hkw) (Ne.symm hkl)) s.p hp) fun w h2 T2 kl2 hq2 hr2 hk2 hkl2 => ?_
    obtain ⟨rfl, rfl⟩ := openQ_det hq1 hq2
    simp [Wc_seq, Wc_block, Wc_scope, Wc_skip, Wc_label, Wc_exit, Wc_ret, Wc_loop, Wc_region, Wc_cond, Nx_nil, Nx_seq, Nx_seq_exit, Nx_seq_ret, Nx_block, Nx_block_exit, Nx_block_ret, Rg_nil, Rg_cons, RgE, effA, calleeA, wantedA, enterN, ev, ofV, ofVn, putE, evalN, aBin, aInt_add, aInt_sub, aInt_mul, aInt_quo, aInt_rem, aInt_eql, aInt_neq, aInt_lss, aInt_leq, aInt_gtr, aInt_geq, aExtract, finQ_ret, resOf, extU, kq_eq, thenQ_normal, thenQ_exit, thenQ_ret]
    exact ask_fin hlt hkb hkb1 hk2 hkl2 hkw hkl ht1 hr2
  by_cases h2 : s.k = 2
  · simp [Wc_seq, Wc_block, Wc_scope, Wc_skip, Wc_label, Wc_exit, Wc_ret, Wc_loop, Wc_region, Wc_cond, Nx_nil, Nx_seq, Nx_seq_exit, Nx_seq_ret, Nx_block, Nx_block_exit, Nx_block_ret, Rg_nil, Rg_cons, RgE, effA, calleeA, wantedA, enterN, ev, ofV, ofVn, putE, evalN, aBin, aInt_add, aInt_sub, aInt_mul, aInt_quo, aInt_rem, aInt_eql, aInt_neq, aInt_lss, aInt_leq, aInt_gtr, aInt_geq, aExtract, finQ_ret, resOf, extU, kq_eq, thenQ_normal, thenQ_exit, thenQ_ret, hbox, fa_s0, l0, h2]
    refine ⟨⟨by kernel_rfl, fun c hcm => ?_⟩⟩
    rw [show canons (CC W) _ = [[0, 1, 2, 4, 5, 6, 3, 7, 8, 9]] from by kernel_rfl, List.mem_singleton] at hcm
    subst hcm
    simp [schedWp, opA, Wc_seq, Wc_block, Wc_scope, Wc_skip, Wc_label, Wc_exit, Wc_ret, Wc_loop, Wc_region, Wc_cond, Nx_nil, Nx_seq, Nx_seq_exit, Nx_seq_ret, Nx_block, Nx_block_exit, Nx_block_ret, Rg_nil, Rg_cons, RgE, effA, calleeA, wantedA, enterN, ev, ofV, ofVn, putE, evalN, aBin, aInt_add, aInt_sub, aInt_mul, aInt_quo, aInt_rem, aInt_eql, aInt_neq, aInt_lss, aInt_leq, aInt_gtr, aInt_geq, aExtract, finQ_ret, resOf, extU, kq_eq, thenQ_normal, thenQ_exit, thenQ_ret, isE, isRead, opWp, fa_s1, l1]
    refine ⟨by simp [fn10], (close_ret W hb k T htb s.fd).mono (fun v h1 ⟨T1, hq1, hkb1, ht1⟩ => ?_) (fun _ _ h => h.elim)⟩
    obtain ⟨a, rfl⟩ := closeQ_int hq1
    have m1 := ld_s1 (W := W) (hsat.but hkb1 hqk)
    simp [Wc_seq, Wc_block, Wc_scope, Wc_skip, Wc_label, Wc_exit, Wc_ret, Wc_loop, Wc_region, Wc_cond, Nx_nil, Nx_seq, Nx_seq_exit, Nx_seq_ret, Nx_block, Nx_block_exit, Nx_block_ret, Rg_nil, Rg_cons, RgE, effA, calleeA, wantedA, enterN, ev, ofV, ofVn, putE, evalN, aBin, aInt_add, aInt_sub, aInt_mul, aInt_quo, aInt_rem, aInt_eql, aInt_neq, aInt_lss, aInt_leq, aInt_gtr, aInt_geq, aExtract, finQ_ret, resOf, extU, kq_eq, thenQ_normal, thenQ_exit, thenQ_ret, m1]
    refine ⟨by simp [fn26], (refClose_ret W h1 kw kl T hT (hrb.but hkb1 (Ne.symm hkw) (Ne.symm hkl)) s.fd).mono (fun w h2 ⟨T2, kl2, hq2, hr2, hk2, hkl2⟩ => ?_) (fun _ _ h => h.elim)⟩
    obtain ⟨rfl, rfl⟩ := closeQ_det hq1 hq2
    have n1 := ld_s1 (W := W) ((hsat.but hkb1 hqk).but2 hk2 hqw hql)
    simp [Wc_seq, Wc_block, Wc_scope, Wc_skip, Wc_label, Wc_exit, Wc_ret, Wc_loop, Wc_region, Wc_cond, Nx_nil, Nx_seq, Nx_seq_exit, Nx_seq_ret, Nx_block, Nx_block_exit, Nx_block_ret, Rg_nil, Rg_cons, RgE, effA, calleeA, wantedA, enterN, ev, ofV, ofVn, putE, evalN, aBin, aInt_add, aInt_sub, aInt_mul, aInt_quo, aInt_rem, aInt_eql, aInt_neq, aInt_lss, aInt_leq, aInt_gtr, aInt_geq, aExtract, finQ_ret, resOf, extU, kq_eq, thenQ_normal, thenQ_exit, thenQ_ret, n1]
    exact ask_fin hlt hkb hkb1 hk2 hkl2 hkw hkl ht1 hr2
  by_cases h3 : s.k = 3
  · simp [Wc_seq, Wc_block, Wc_scope, Wc_skip, Wc_label, Wc_exit, Wc_ret, Wc_loop, Wc_region, Wc_cond, Nx_nil, Nx_seq, Nx_seq_exit, Nx_seq_ret, Nx_block, Nx_block_exit, Nx_block_ret, Rg_nil, Rg_cons, RgE, effA, calleeA, wantedA, enterN, ev, ofV, ofVn, putE, evalN, aBin, aInt_add, aInt_sub, aInt_mul, aInt_quo, aInt_rem, aInt_eql, aInt_neq, aInt_lss, aInt_leq, aInt_gtr, aInt_geq, aExtract, finQ_ret, resOf, extU, kq_eq, thenQ_normal, thenQ_exit, thenQ_ret, hbox, fa_s0, fa_s1, fa_s2, fa_s3, l0, l1, l2, l3, h3]
    refine callK_RetT (by simp [fn13]) (seek_ret W hb k T htb s.fd s.fr s.n) fun v h1 T1 hq1 hkb1 ht1 => ?_
    obtain ⟨a, e, rfl⟩ := seekQ_tup hq1
    have hs1 := hsat.but hkb1 hqk
    have m1 := ld_s1 (W := W) hs1
    have m2 := ld_s2 (W := W) hs1
    have m3 := ld_s3 (W := W) hs1
    simp [Wc_seq, Wc_block, Wc_scope, Wc_skip, Wc_label, Wc_exit, Wc_ret, Wc_loop, Wc_region, Wc_cond, Nx_nil, Nx_seq, Nx_seq_exit, Nx_seq_ret, Nx_block, Nx_block_exit, Nx_block_ret, Rg_nil, Rg_cons, RgE, effA, calleeA, wantedA, enterN, ev, ofV, ofVn, putE, evalN, aBin, aInt_add, aInt_sub, aInt_mul, aInt_quo, aInt_rem, aInt_eql, aInt_neq, aInt_lss, aInt_leq, aInt_gtr, aInt_geq, aExtract, finQ_ret, resOf, extU, kq_eq, thenQ_normal, thenQ_exit, thenQ_ret, fa_s1, fa_s2, fa_s3, m1, m2, m3]
    refine callK_RetR (by simp [fn27]) (refSeek_ret W h1 kw kl T hT (hrb.but hkb1 (Ne.symm hkw) (Ne.symm hkl)) s.fd s.fr s.n) fun w h2 T2 kl2 hq2 hr2 hk2 hkl2 => ?_
    obtain ⟨rfl, rfl⟩ := seekQ_det hq1 hq2
    simp [Wc_seq, Wc_block, Wc_scope, Wc_skip, Wc_label, Wc_exit, Wc_ret, Wc_loop, Wc_region, Wc_cond, Nx_nil, Nx_seq, Nx_seq_exit, Nx_seq_ret, Nx_block, Nx_block_exit, Nx_block_ret, Rg_nil, Rg_cons, RgE, effA, calleeA, wantedA, enterN, ev, ofV, ofVn, putE, evalN, aBin, aInt_add, aInt_sub, aInt_mul, aInt_quo, aInt_rem, aInt_eql, aInt_neq, aInt_lss, aInt_leq, aInt_gtr, aInt_geq, aExtract, finQ_ret, resOf, extU, kq_eq, thenQ_normal, thenQ_exit, thenQ_ret]
    exact ask_fin hlt hkb hkb1 hk2 hkl2 hkw hkl ht1 hr2
  by_cases h4 : s.k = 4
  · simp [Wc_seq, Wc_block, Wc_scope, Wc_skip, Wc_label, Wc_exit, Wc_ret, Wc_loop, Wc_region, Wc_cond, Nx_nil, Nx_seq, Nx_seq_exit, Nx_seq_ret, Nx_block, Nx_block_exit, Nx_block_ret, Rg_nil, Rg_cons, RgE, effA, calleeA, wantedA, enterN, ev, ofV, ofVn, putE, evalN, aBin, aInt_add, aInt_sub, aInt_mul, aInt_quo, aInt_rem, aInt_eql, aInt_neq, aInt_lss, aInt_leq, aInt_gtr, aInt_geq, aExtract, finQ_ret, resOf, extU, kq_eq, thenQ_normal, thenQ_exit, thenQ_ret, hbox, fa_s0, fa_s1, fa_s3, l0, l1, l3, h4]
    refine callK_RetQ (by simp [fn14]) (next_ret W hb k T htb s.fd s.n) fun v h1 hk1 hv => ?_
    subst hv
    have hrs : refOpR T s.fd s.n false [] = nextR T s.fd s.n := rfl
    obtain ⟨kd, at', n', p', d', hop⟩ := nextR_op T s.fd s.n
    rw [hop]
    have hst1 := store_op (W := W) (h := h1.push (.cells [.int .i64 0, .int .i64 0, .int .i64 0, .str [], .str [], .str []] 41)) (j := h1.next) (kind := kd) (at' := at') (n := n') (p := p') (d := d') (t := 41) (c0 := .int .i64 0) (c1 := .int .i64 0) (c2 := .int .i64 0) (c3 := .str []) (c4 := .str []) (c5 := .str []) (by simp)
    have hkn1 : Keeps h1 ((h1.push (.cells [.int .i64 0, .int .i64 0, .int .i64 0, .str [], .str [], .str []] 41)).set h1.next (.cells [.int .i64 kd, .int .i64 at', .int .i64 n', .str p', .str [], .str d'] 41)) := keeps_new
    have hg1 : ((h1.push (.cells [.int .i64 0, .int .i64 0, .int .i64 0, .str [], .str [], .str []] 41)).set h1.next (.cells [.int .i64 kd, .int .i64 at', .int .i64 n', .str p', .str [], .str d'] 41)).get h1.next = some (.cells [.int .i64 kd, .int .i64 at', .int .i64 n', .str p', .str [], .str d'] 41) := by simp
    have hj1 : h1.next < ((h1.push (.cells [.int .i64 0, .int .i64 0, .int .i64 0, .str [], .str [], .str []] 41)).set h1.next (.cells [.int .i64 kd, .int .i64 at', .int .i64 n', .str p', .str [], .str d'] 41)).next := by simp
    have halloc1 := alloc_op (W := W) (h := h1)
    generalize (h1.push (.cells [.int .i64 0, .int .i64 0, .int .i64 0, .str [], .str [], .str []] 41)).set h1.next (.cells [.int .i64 kd, .int .i64 at', .int .i64 n', .str p', .str [], .str d'] 41) = h2 at hst1 hkn1 hg1 hj1
    have hs2 := hsat.keeps (hk1.trans hkn1)
    have m1 := ld_s1 (W := W) hs2
    have m3 := ld_s3 (W := W) hs2
    have hr2 := hrb.keeps (hk1.trans hkn1)
    simp [Wc_seq, Wc_block, Wc_scope, Wc_skip, Wc_label, Wc_exit, Wc_ret, Wc_loop, Wc_region, Wc_cond, Nx_nil, Nx_seq, Nx_seq_exit, Nx_seq_ret, Nx_block, Nx_block_exit, Nx_block_ret, Rg_nil, Rg_cons, RgE, effA, calleeA, wantedA, enterN, ev, ofV, ofVn, putE, evalN, aBin, aInt_add, aInt_sub, aInt_mul, aInt_quo, aInt_rem, aInt_eql, aInt_neq, aInt_lss, aInt_leq, aInt_gtr, aInt_geq, aExtract, finQ_ret, resOf, extU, kq_eq, thenQ_normal, thenQ_exit, thenQ_ret, halloc1, hst1, fa_s1, fa_s3, m1, m3]
    refine callK_RetQ (by simp [fn28]) (refOp_ret W h2 kw kl T hT hr2 s.fd s.n false []) fun v h3 hk3 hv => ?_
    subst hv
    rw [hrs, hop]
    have hst3 := store_op (W := W) (h := h3.push (.cells [.int .i64 0, .int .i64 0, .int .i64 0, .str [], .str [], .str []] 41)) (j := h3.next) (kind := kd) (at' := at') (n := n') (p := p') (d := d') (t := 41) (c0 := .int .i64 0) (c1 := .int .i64 0) (c2 := .int .i64 0) (c3 := .str []) (c4 := .str []) (c5 := .str []) (by simp)
    have hkn3 : Keeps h3 ((h3.push (.cells [.int .i64 0, .int .i64 0, .int .i64 0, .str [], .str [], .str []] 41)).set h3.next (.cells [.int .i64 kd, .int .i64 at', .int .i64 n', .str p', .str [], .str d'] 41)) := keeps_new
    have hg3 : ((h3.push (.cells [.int .i64 0, .int .i64 0, .int .i64 0, .str [], .str [], .str []] 41)).set h3.next (.cells [.int .i64 kd, .int .i64 at', .int .i64 n', .str p', .str [], .str d'] 41)).get h3.next = some (.cells [.int .i64 kd, .int .i64 at', .int .i64 n', .str p', .str [], .str d'] 41) := by simp
    have halloc3 := alloc_op (W := W) (h := h3)
    generalize (h3.push (.cells [.int .i64 0, .int .i64 0, .int .i64 0, .str [], .str [], .str []] 41)).set h3.next (.cells [.int .i64 kd, .int .i64 at', .int .i64 n', .str p', .str [], .str d'] 41) = h4 at hst3 hkn3 hg3
    have hg14 := ((hk3.trans hkn3).2 _ hj1).trans hg1
    have hl1 := load_op (W := W) hg14
    have hl3 := load_op (W := W) hg3
    unfold opV at hst3 hl1 hl3
    simp [Wc_seq, Wc_block, Wc_scope, Wc_skip, Wc_label, Wc_exit, Wc_ret, Wc_loop, Wc_region, Wc_cond, Nx_nil, Nx_seq, Nx_seq_exit, Nx_seq_ret, Nx_block, Nx_block_exit, Nx_block_ret, Rg_nil, Rg_cons, RgE, effA, calleeA, wantedA, enterN, ev, ofV, ofVn, putE, evalN, aBin, aInt_add, aInt_sub, aInt_mul, aInt_quo, aInt_rem, aInt_eql, aInt_neq, aInt_lss, aInt_leq, aInt_gtr, aInt_geq, aExtract, finQ_ret, resOf, extU, kq_eq, thenQ_normal, thenQ_exit, thenQ_ret, halloc3, hst3, hl1, hl3, opV, op_same]
    exact ask_same hlt (hkb.trans ((hk1.trans hkn1).trans (hk3.trans hkn3))) ht hr
  by_cases h5 : s.k = 5
  · simp [Wc_seq, Wc_block, Wc_scope, Wc_skip, Wc_label, Wc_exit, Wc_ret, Wc_loop, Wc_region, Wc_cond, Nx_nil, Nx_seq, Nx_seq_exit, Nx_seq_ret, Nx_block, Nx_block_exit, Nx_block_ret, Rg_nil, Rg_cons, RgE, effA, calleeA, wantedA, enterN, ev, ofV, ofVn, putE, evalN, aBin, aInt_add, aInt_sub, aInt_mul, aInt_quo, aInt_rem, aInt_eql, aInt_neq, aInt_lss, aInt_leq, aInt_gtr, aInt_geq, aExtract, finQ_ret, resOf, extU, kq_eq, thenQ_normal, thenQ_exit, thenQ_ret, hbox, fa_s0, fa_s1, fa_s4, l0, l1, l4, h0, h1, h2, h3, h4, h5]
    refine callK_RetQ (by simp [fn15]) (write_ret W hb k T htb s.fd s.p) fun v h1 hk1 hv => ?_
    subst hv
    have hrs : refOpR T s.fd 0 true s.p = writeR T s.fd s.p := rfl
    obtain ⟨kd, at', n', p', d', hop⟩ := writeR_op T s.fd s.p
    rw [hop]
    have hst1 := store_op (W := W) (h := h1.push (.cells [.int .i64 0, .int .i64 0, .int .i64 0, .str [], .str [], .str []] 41)) (j := h1.next) (kind := kd) (at' := at') (n := n') (p := p') (d := d') (t := 41) (c0 := .int .i64 0) (c1 := .int .i64 0) (c2 := .int .i64 0) (c3 := .str []) (c4 := .str []) (c5 := .str []) (by simp)
    have hkn1 : Keeps h1 ((h1.push (.cells [.int .i64 0, .int .i64 0, .int .i64 0, .str [], .str [], .str []] 41)).set h1.next (.cells [.int .i64 kd, .int .i64 at', .int .i64 n', .str p', .str [], .str d'] 41)) := keeps_new
    have hg1 : ((h1.push (.cells [.int .i64 0, .int .i64 0, .int .i64 0, .str [], .str [], .str []] 41)).set h1.next (.cells [.int .i64 kd, .int .i64 at', .int .i64 n', .str p', .str [], .str d'] 41)).get h1.next = some (.cells [.int .i64 kd, .int .i64 at', .int .i64 n', .str p', .str [], .str d'] 41) := by simp
    have hj1 : h1.next < ((h1.push (.cells [.int .i64 0, .int .i64 0, .int .i64 0, .str [], .str [], .str []] 41)).set h1.next (.cells [.int .i64 kd, .int .i64 at', .int .i64 n', .str p', .str [], .str d'] 41)).next := by simp
    have halloc1 := alloc_op (W := W) (h := h1)
    generalize (h1.push (.cells [.int .i64 0, .int .i64 0, .int .i64 0, .str [], .str [], .str []] 41)).set h1.next (.cells [.int .i64 kd, .int .i64 at', .int .i64 n', .str p', .str [], .str d'] 41) = h2 at hst1 hkn1 hg1 hj1
    have hs2 := hsat.keeps (hk1.trans hkn1)
    have m1 := ld_s1 (W := W) hs2
    have m3 := ld_s4 (W := W) hs2
    have hr2 := hrb.keeps (hk1.trans hkn1)
    simp [Wc_seq, Wc_block, Wc_scope, Wc_skip, Wc_label, Wc_exit, Wc_ret, Wc_loop, Wc_region, Wc_cond, Nx_nil, Nx_seq, Nx_seq_exit, Nx_seq_ret, Nx_block, Nx_block_exit, Nx_block_ret, Rg_nil, Rg_cons, RgE, effA, calleeA, wantedA, enterN, ev, ofV, ofVn, putE, evalN, aBin, aInt_add, aInt_sub, aInt_mul, aInt_quo, aInt_rem, aInt_eql, aInt_neq, aInt_lss, aInt_leq, aInt_gtr, aInt_geq, aExtract, finQ_ret, resOf, extU, kq_eq, thenQ_normal, thenQ_exit, thenQ_ret, halloc1, hst1, fa_s1, fa_s4, m1, m3]
    refine callK_RetQ (by simp [fn28]) (refOp_ret W h2 kw kl T hT hr2 s.fd 0 true s.p) fun v h3 hk3 hv => ?_
    subst hv
    rw [hrs, hop]
    have hst3 := store_op (W := W) (h := h3.push (.cells [.int .i64 0, .int .i64 0, .int .i64 0, .str [], .str [], .str []] 41)) (j := h3.next) (kind := kd) (at' := at') (n := n') (p := p') (d := d') (t := 41) (c0 := .int .i64 0) (c1 := .int .i64 0) (c2 := .int .i64 0) (c3 := .str []) (c4 := .str []) (c5 := .str []) (by simp)
    have hkn3 : Keeps h3 ((h3.push (.cells [.int .i64 0, .int .i64 0, .int .i64 0, .str [], .str [], .str []] 41)).set h3.next (.cells [.int .i64 kd, .int .i64 at', .int .i64 n', .str p', .str [], .str d'] 41)) := keeps_new
    have hg3 : ((h3.push (.cells [.int .i64 0, .int .i64 0, .int .i64 0, .str [], .str [], .str []] 41)).set h3.next (.cells [.int .i64 kd, .int .i64 at', .int .i64 n', .str p', .str [], .str d'] 41)).get h3.next = some (.cells [.int .i64 kd, .int .i64 at', .int .i64 n', .str p', .str [], .str d'] 41) := by simp
    have halloc3 := alloc_op (W := W) (h := h3)
    generalize (h3.push (.cells [.int .i64 0, .int .i64 0, .int .i64 0, .str [], .str [], .str []] 41)).set h3.next (.cells [.int .i64 kd, .int .i64 at', .int .i64 n', .str p', .str [], .str d'] 41) = h5' at hst3 hkn3 hg3
    have hg14 := ((hk3.trans hkn3).2 _ hj1).trans hg1
    have hl1 := load_op (W := W) hg14
    have hl3 := load_op (W := W) hg3
    unfold opV at hst3 hl1 hl3
    simp [Wc_seq, Wc_block, Wc_scope, Wc_skip, Wc_label, Wc_exit, Wc_ret, Wc_loop, Wc_region, Wc_cond, Nx_nil, Nx_seq, Nx_seq_exit, Nx_seq_ret, Nx_block, Nx_block_exit, Nx_block_ret, Rg_nil, Rg_cons, RgE, effA, calleeA, wantedA, enterN, ev, ofV, ofVn, putE, evalN, aBin, aInt_add, aInt_sub, aInt_mul, aInt_quo, aInt_rem, aInt_eql, aInt_neq, aInt_lss, aInt_leq, aInt_gtr, aInt_geq, aExtract, finQ_ret, resOf, extU, kq_eq, thenQ_normal, thenQ_exit, thenQ_ret, halloc3, hst3, hl1, hl3, opV, op_same]
    exact ask_same hlt (hkb.trans ((hk1.trans hkn1).trans (hk3.trans hkn3))) ht hr
  by_cases h6 : s.k = 6
  · simp [Wc_seq, Wc_block, Wc_scope, Wc_skip, Wc_label, Wc_exit, Wc_ret, Wc_loop, Wc_region, Wc_cond, Nx_nil, Nx_seq, Nx_seq_exit, Nx_seq_ret, Nx_block, Nx_block_exit, Nx_block_ret, Rg_nil, Rg_cons, RgE, effA, calleeA, wantedA, enterN, ev, ofV, ofVn, putE, evalN, aBin, aInt_add, aInt_sub, aInt_mul, aInt_quo, aInt_rem, aInt_eql, aInt_neq, aInt_lss, aInt_leq, aInt_gtr, aInt_geq, aExtract, finQ_ret, resOf, extU, kq_eq, thenQ_normal, thenQ_exit, thenQ_ret, hbox, fa_s0, l0, h6]
    refine ⟨⟨by kernel_rfl, fun c hcm => ?_⟩⟩
    rw [show canons (CC W) _ = [[0, 1, 2, 3, 4, 6, 7, 8, 9, 10, 5, 11, 12, 13]] from by kernel_rfl, List.mem_singleton] at hcm
    subst hcm
    simp [schedWp, opA, Wc_seq, Wc_block, Wc_scope, Wc_skip, Wc_label, Wc_exit, Wc_ret, Wc_loop, Wc_region, Wc_cond, Nx_nil, Nx_seq, Nx_seq_exit, Nx_seq_ret, Nx_block, Nx_block_exit, Nx_block_ret, Rg_nil, Rg_cons, RgE, effA, calleeA, wantedA, enterN, ev, ofV, ofVn, putE, evalN, aBin, aInt_add, aInt_sub, aInt_mul, aInt_quo, aInt_rem, aInt_eql, aInt_neq, aInt_lss, aInt_leq, aInt_gtr, aInt_geq, aExtract, finQ_ret, resOf, extU, kq_eq, thenQ_normal, thenQ_exit, thenQ_ret, isE, isRead, opWp, fa_s1, fa_s3, l1, l3]
    refine ⟨by simp [fn16], (moved_ret W hb k T htb s.fd s.n).mono (fun v h1 ⟨T1, hq1, hkb1, ht1⟩ => ?_) (fun _ _ h => h.elim)⟩
    obtain ⟨a, rfl⟩ := movedQ_int hq1
    have hs1 := hsat.but hkb1 hqk
    have m1 := ld_s1 (W := W) hs1
    have m3 := ld_s3 (W := W) hs1
    simp [Wc_seq, Wc_block, Wc_scope, Wc_skip, Wc_label, Wc_exit, Wc_ret, Wc_loop, Wc_region, Wc_cond, Nx_nil, Nx_seq, Nx_seq_exit, Nx_seq_ret, Nx_block, Nx_block_exit, Nx_block_ret, Rg_nil, Rg_cons, RgE, effA, calleeA, wantedA, enterN, ev, ofV, ofVn, putE, evalN, aBin, aInt_add, aInt_sub, aInt_mul, aInt_quo, aInt_rem, aInt_eql, aInt_neq, aInt_lss, aInt_leq, aInt_gtr, aInt_geq, aExtract, finQ_ret, resOf, extU, kq_eq, thenQ_normal, thenQ_exit, thenQ_ret, m1, m3]
    refine ⟨by simp [fn29], (refMoved_ret W h1 kw kl T hT ht.2.2.2 (hrb.but hkb1 (Ne.symm hkw) (Ne.symm hkl)) s.fd s.n).mono (fun w h2 ⟨T2, kl2, hq2, hr2, hk2, hkl2⟩ => ?_) (fun _ _ h => h.elim)⟩
    obtain ⟨rfl, rfl⟩ := movedQ_det hq1 hq2
    have hs2 := hs1.but2 hk2 hqw hql
    have n1 := ld_s1 (W := W) hs2
    have n3 := ld_s3 (W := W) hs2
    simp [Wc_seq, Wc_block, Wc_scope, Wc_skip, Wc_label, Wc_exit, Wc_ret, Wc_loop, Wc_region, Wc_cond, Nx_nil, Nx_seq, Nx_seq_exit, Nx_seq_ret, Nx_block, Nx_block_exit, Nx_block_ret, Rg_nil, Rg_cons, RgE, effA, calleeA, wantedA, enterN, ev, ofV, ofVn, putE, evalN, aBin, aInt_add, aInt_sub, aInt_mul, aInt_quo, aInt_rem, aInt_eql, aInt_neq, aInt_lss, aInt_leq, aInt_gtr, aInt_geq, aExtract, finQ_ret, resOf, extU, kq_eq, thenQ_normal, thenQ_exit, thenQ_ret, n1, n3]
    exact ask_fin hlt hkb hkb1 hk2 hkl2 hkw hkl ht1 hr2
  · simp [Wc_seq, Wc_block, Wc_scope, Wc_skip, Wc_label, Wc_exit, Wc_ret, Wc_loop, Wc_region, Wc_cond, Nx_nil, Nx_seq, Nx_seq_exit, Nx_seq_ret, Nx_block, Nx_block_exit, Nx_block_ret, Rg_nil, Rg_cons, RgE, effA, calleeA, wantedA, enterN, ev, ofV, ofVn, putE, evalN, aBin, aInt_add, aInt_sub, aInt_mul, aInt_quo, aInt_rem, aInt_eql, aInt_neq, aInt_lss, aInt_leq, aInt_gtr, aInt_geq, aExtract, finQ_ret, resOf, extU, kq_eq, thenQ_normal, thenQ_exit, thenQ_ret, hbox, fa_s0, l0, h0, h1, h2, h3, h4, h5, h6]
    exact ask_same hlt hkb ht hr
end Go.Proofs.YteedadelgpagfaaDoor.Ax
