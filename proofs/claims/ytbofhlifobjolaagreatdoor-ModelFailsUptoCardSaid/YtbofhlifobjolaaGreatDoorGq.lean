/- The texts FailM, KeepF, FailsW, as one. -/
import Derived.Test.YtbofhlifobjolaaGreatDoorGp
import Derived.Test.YtbofhlifobjolaaGreatDoorGh
import Derived.Test.YtbofhlifobjolaaGreatDoorGi

/-! What fails changes nothing: plain -/
section
set_option linter.unusedVariables false
set_option linter.unusedSimpArgs false
namespace Go.Proofs.YtbofhlifobjolaaGreatDoor.Ax
open Go.RowKit

theorem create_err {M : MS} {k : Int} {l : List (List UInt8)} (h : (createR M k l).1 ≠ 0) : (createR M k l).2 = M := by
  revert h
  unfold createR
  split
  · split
    · intro _; rfl
    · split
      · rename_i M1 e
        intro _
        have := putR_false (M := M) (d := (parentR M l).1.toNat) (nm := l.getLast?.getD []) (a := freeR M) (by rw [e])
        rw [e] at this; exact this
      · intro h; exact absurd rfl h
  · intro _; rfl
theorem write_err {M : MS} {a : Int} {d : List UInt8} {l : List (List UInt8)} (h : (writeR M a d l).1 ≠ 0) : (writeR M a d l).2 = M := by
  revert h
  unfold writeR
  repeat' split
  all_goals first | (intro _; rfl) | (intro h; exact absurd rfl h)
theorem trunc_err {M : MS} {n : Int} {l : List (List UInt8)} (h : (truncR M n l).1 ≠ 0) : (truncR M n l).2 = M := by
  revert h
  unfold truncR
  repeat' split
  all_goals first | (intro _; rfl) | (intro h; exact absurd rfl h)
theorem link_err {M : MS} {l l2 : List (List UInt8)} (h : (linkR M l l2).1 ≠ 0) : (linkR M l l2).2 = M := by
  revert h
  unfold linkR
  repeat' split
  all_goals first | (intro _; rfl) | (intro h; exact absurd rfl h) | (rename_i hp; intro _; exact putR_false (by simpa using hp))
theorem unlink_err {M : MS} {l : List (List UInt8)} (h : (unlinkR M l).1 ≠ 0) : (unlinkR M l).2 = M := by
  revert h
  unfold unlinkR
  repeat' split
  all_goals first | (intro _; rfl) | (intro h; exact absurd rfl h)
theorem rmdir_err {M : MS} {l : List (List UInt8)} (h : (rmdirR M l).1 ≠ 0) : (rmdirR M l).2 = M := by
  revert h
  unfold rmdirR
  repeat' split
  all_goals first | (intro _; rfl) | (intro h; exact absurd rfl h)
theorem rename_err {M : MS} {p t : List UInt8} {l l2 : List (List UInt8)} (h : (renameR M p t l l2).1 ≠ 0) : (renameR M p t l l2).2 = M := by
  revert h
  unfold renameR
  repeat' split
  all_goals first | (intro _; rfl) | (intro h; exact absurd rfl h)

/-- What fails changes nothing. -/
theorem do_err {M : MS} {o : Opn} : (doR M o).1.e ≠ 0 → (doR M o).2 = M := by
  unfold doR
  split
  · intro _; rfl
  · split
    · intro _; rfl
    · split
      · intro _; rfl
      · unfold opR
        split
        all_goals first | exact create_err | exact write_err | exact trunc_err | exact link_err | exact unlink_err | exact rmdir_err | exact rename_err | (intro _; rfl)
/-- What looks changes nothing. -/
theorem do_look {M : MS} {o : Opn} (h : o.kd = 5 ∨ o.kd = 6 ∨ o.kd = 7) : (doR M o).2 = M := by
  have h5 : rowR 5 = 4 := by decide
  have h6 : rowR 6 = 5 := by decide
  have h7 : rowR 7 = 6 := by decide
  unfold doR
  split
  · rfl
  · split
    · rfl
    · split
      · rfl
      · rcases h with h | h | h
        · rw [h, h5]; rfl
        · rw [h, h6]; rfl
        · rw [h, h7]; rfl
/-- What fails tells nothing else. -/
theorem do_errR {M : MS} {o : Opn} : (doR M o).1.e ≠ 0 → (doR M o).1 = Res.err (doR M o).1.e := by
  have hr : ∀ a n l, (readR M a n l).e ≠ 0 → readR M a n l = Res.err (readR M a n l).e := by
    intro a n l
    unfold readR
    repeat' split
    all_goals first | (intro _; rfl) | (intro h; exact absurd rfl h)
  have hs : ∀ l, (statR M l).e ≠ 0 → statR M l = Res.err (statR M l).e := by
    intro l
    unfold statR
    repeat' split
    all_goals first | (intro _; rfl) | (intro h; exact absurd rfl h)
  have hl : ∀ l, (listR M l).e ≠ 0 → listR M l = Res.err (listR M l).e := by
    intro l
    unfold listR
    repeat' split
    all_goals first | (intro _; rfl) | (intro h; exact absurd rfl h)
  unfold doR
  split
  · intro _; rfl
  · split
    · intro _; rfl
    · split
      · intro _; rfl
      · unfold opR
        split
        all_goals first | (intro _; rfl) | exact hr _ _ _ | exact hs _ | exact hl _
end Go.Proofs.YtbofhlifobjolaaGreatDoor.Ax
end

/-! A tree that was told stays, whatever the model does -/
section
set_option linter.unusedVariables false
set_option linter.unusedSimpArgs false
namespace Go.Proofs.YtbofhlifobjolaaGreatDoor.Ax
open Go.RowKit

theorem MIs.notTag {h : AH} {R : MR} {M : MS} (hm : MIs h R M) {q : Nat} {cs : List AV} {T : TypeId} (hT : T = 55 ∨ T = 3) (hq : q ∈ R.ids) (hg : h.get q = some (.cells cs T)) : False := by
  simp only [MR.ids, List.mem_cons, List.mem_flatMap] at hq
  rcases hq with rfl | rfl | rfl | ⟨r, hr, hk⟩
  · have := hg.symm.trans hm.mod; rcases hT with rfl | rfl <;> simp at this
  · have := hg.symm.trans hm.ptrs; rcases hT with rfl | rfl <;> simp at this
  · have := hg.symm.trans hm.rows; rcases hT with rfl | rfl <;> simp at this
  · obtain ⟨i, hi, he⟩ := List.getElem_of_mem hr
    have hr' : R.nd[i]? = some r := by rw [List.getElem?_eq_getElem hi, he]
    have hnd : M.nodes[i]? = some (M.nodes[i]'(by rw [← hm.len]; exact hi)) := by simp [← hm.len, hi]
    obtain ⟨mv, sv, hc, hmp, hsl⟩ := hm.each i r _ hr' hnd
    simp only [NR.ids, List.mem_cons, List.mem_append, Option.mem_toList] at hk
    rcases hk with rfl | hk | hk
    · have := hg.symm.trans hc; rcases hT with rfl | rfl <;> simp at this
    · rw [hk] at hmp
      cases hb : (M.nodes[i]'(by rw [← hm.len]; exact hi)).blocks with
      | none => rw [hb] at hmp; exact hmp.elim
      | some l => rw [hb] at hmp; obtain ⟨_, es, cl, h2, _⟩ := hmp; have := hg.symm.trans h2; simp at this
    · rw [hk] at hsl
      obtain ⟨cap, sp, _, h2, _⟩ := hsl
      have := hg.symm.trans h2; rcases hT with rfl | rfl <;> simp at this

/-- Numbers beside a model. -/
def IntH (h : AH) (R : MR) (v : AV) (l : List Int) : Prop :=
  l = [] ∧ v = .sl none 0 0 none ∨ ∃ k cap gr, k < h.next ∧ k ∉ R.ids ∧ v = .sl (some (.new k 0)) l.length cap gr ∧ h.get k = some (.cells (ints l) 3)
def FlsB (h : AH) (R : MR) (v : AV) (l : List Fl) : Prop :=
  ∃ k gr ps, ps.map Prod.fst = l ∧ k < h.next ∧ k ∉ R.ids ∧ h.get k = some (.cells (flCs ps) 55) ∧ (∀ q ∈ ps, IntH h R q.2 q.1.blocks) ∧ v = .sl (some (.new k 0)) l.length l.length gr
theorem IntH.step {h h' : AH} {R R' : MR} {v : AV} {l : List Int} (hi : IntH h R v l) (hB : MStep h h' R R') : IntH h' R' v l := by
  rcases hi with h1 | ⟨k, cap, gr, h1, h2, h3, h4⟩
  · exact .inl h1
  · refine .inr ⟨k, cap, gr, Nat.lt_of_lt_of_le h1 hB.nx, fun hc => ?_, h3, (hB.off k h1 h2).trans h4⟩
    rcases hB.ids k hc with h6 | h6
    · exact h2 h6
    · omega
theorem FlsB.step {h h' : AH} {R R' : MR} {v : AV} {l : List Fl} (hi : FlsB h R v l) (hB : MStep h h' R R') : FlsB h' R' v l := by
  obtain ⟨k, gr, ps, e, h1, h2, h3, h4, h5⟩ := hi
  refine ⟨k, gr, ps, e, Nat.lt_of_lt_of_le h1 hB.nx, fun hc => ?_, (hB.off k h1 h2).trans h3, fun q hq => (h4 q hq).step hB, h5⟩
  rcases hB.ids k hc with h6 | h6
  · exact h2 h6
  · omega
theorem FlsB.keeps {h h' : AH} {R : MR} {v : AV} {l : List Fl} (hi : FlsB h R v l) (hk : Keeps h h') : FlsB h' R v l := hi.step (MStep.refl hk)

theorem IntS.intH {h : AH} {R : MR} {M : MS} (hm : MIs h R M) {v : AV} {l : List Int} (hi : IntS h v l) : IntH h R v l := by
  rcases hi with h1 | ⟨k, cap, gr, h1, h2, h3⟩
  · exact .inl h1
  · exact .inr ⟨k, cap, gr, h1, fun hq => hm.notTag (.inr rfl) hq h3, h2, h3⟩
theorem IntH.intS {h : AH} {R : MR} {v : AV} {l : List Int} (hi : IntH h R v l) : IntS h v l := by
  rcases hi with h1 | ⟨k, cap, gr, h1, _, h2, h3⟩
  · exact .inl h1
  · exact .inr ⟨k, cap, gr, h1, h2, h3⟩
theorem OwnF.flsB {h0 h : AH} {R : MR} {M : MS} (hm : MIs h R M) {v : AV} {l : List Fl} (ho : OwnF h0 h v l) : FlsB h R v l := by
  obtain ⟨_, k, gr, p, ps, e, h1, h2, h3, h4, _⟩ := ho
  exact ⟨k, gr, p :: ps, e, h1, fun hq => hm.notTag (.inl rfl) hq h2, h2, fun q hq => (h3 q hq).intH hm, h4⟩
end Go.Proofs.YtbofhlifobjolaaGreatDoor.Ax
end

/-! ModelFails: the walk -/
section
set_option linter.unusedVariables false
set_option linter.unusedSimpArgs false
namespace Go.Proofs.YtbofhlifobjolaaGreatDoor.Ax
open Go.RowKit


theorem fls_at {W : World} {h : AH} {R : MR} {v : AV} {l : List Fl} (hf : FlsB h R v l) {i : Nat} {f : Fl} (hi : l[i]? = some f) :
    ∃ bv a', aIndexAddr (CC W) 44 v (.int .i64 (i : Int)) = some (.ptr (some a')) ∧ aLoad (CC W) h 55 a' = some (.agg (flC (f, bv))) ∧ IntH h R bv f.blocks := by
  obtain ⟨k, gr, ps, rfl, h1, h2, h3, h4, rfl⟩ := hf
  rw [List.getElem?_map, Option.map_eq_some_iff] at hi
  obtain ⟨q, hq, rfl⟩ := hi
  have hil := (List.getElem?_eq_some_iff.1 hq).1
  have hlen := flCs_len ps
  refine ⟨q.2, .new k (i * 7), ?_, ?_, h4 q (List.mem_of_getElem? hq)⟩
  · simp only [aIndexAddr, kind44, size55]
    rw [if_pos (by simp; omega)]
    simp [AA.add]
  · unfold aLoad
    rw [ty55]
    show (aCells (CC W) h (.new k (i * 7)) 7).map AV.agg = _
    simp only [aCells, h3]
    rw [if_pos (by omega)]
    have hd : (flCs ps).drop (i * 7) = flCs (ps.drop i) := by
      have e : ps = ps.take i ++ ps.drop i := (List.take_append_drop i ps).symm
      have hl : (flCs (ps.take i)).length = i * 7 := by rw [flCs_len, List.length_take]; congr 1; omega
      conv => lhs; rw [e, flCs_append]
      rw [← hl, List.drop_left]
    rw [hd, List.drop_eq_getElem_cons hil]
    have hg : ps[i] = q := by rw [List.getElem?_eq_getElem hil] at hq; exact Option.some.inj hq
    rw [hg]
    rfl

theorem FlsB.len {W : World} {h h2 : AH} {R : MR} {v : AV} {l : List Fl} (hf : FlsB h R v l) : aLen (CC W) h2 44 v = some (.int .i64 l.length) := by
  obtain ⟨k, gr, ps, rfl, h1, h2, h3, h4, rfl⟩ := hf
  simp [aLen, kind44]
theorem NmB.len0 {W : World} {h h2 : AH} {R : MR} {nv : AV} (hn : NmB h R nv []) : aLen (CC W) h2 37 nv = some (.int .i64 0) := by
  rcases hn with ⟨_, rfl⟩ | ⟨k, _, _, _, rfl⟩ <;> simp [aLen, kind37]
theorem tree_mem {M : MS} : ∀ (n : Nat) (names : List (List UInt8)) (i : Nat), ∀ f ∈ treeR M n names i, ∃ names' i' nd, M.nodes[i']? = some nd ∧ f = flR names' i' nd := by
  intro n
  induction n with
  | zero => intro names i f hf; cases hf
  | succ n ih =>
    intro names i f hf
    simp only [treeR] at hf
    split at hf
    · cases hf
    · rename_i nd hnd
      rw [List.mem_cons] at hf
      rcases hf with rfl | hf
      · exact ⟨_, _, _, hnd, rfl⟩
      · obtain ⟨s, _, hf⟩ := List.mem_flatMap.1 hf
        exact ih _ _ f hf
theorem ind_short {h : AH} {R : MR} {M : MS} (hm : MIs h R M) (ok : MOk M) {nd : Nd} (hnd : nd ∈ M.nodes) : (indR nd).length < 1099511627776 := by
  obtain ⟨i, hi, he⟩ := List.getElem_of_mem hnd
  obtain ⟨r, nd', hr, hnd', hn⟩ := hm.node hi
  have : nd' = nd := by rw [List.getElem?_eq_getElem hi, he] at hnd'; exact (Option.some.inj hnd').symm
  subst this
  exact indR_len hn (ok.short nd' hnd)
theorem hideK {C : Cx} {Q : Post} {ops : Array Oper} {rest : List Oper} {ks : List Fr} {e : Env} {dst : Option Tmp} {f : FuncId} {args : List AV} {h : AH} (w : ∀ K, K = ks → CallK C Q ops rest K e dst f args h) : CallK C Q ops rest ks e dst f args h := w ks rfl
theorem hideW {C : Cx} {Q : Post} {c : Code} {ks : List Fr} {e : Env} {h : AH} (w : ∀ K, K = ks → Wc C Q c K e h) : Wc C Q c ks e h := w ks rfl

def FailI (v : AV) (o : Opn) (k5 : Nat) (km : Nat) (l : List Opn) (m : Nat) (e' : Env) (h' : AH) : Prop :=
  e'.length = 193 ∧ ∃ (i : Nat) (R : MR) (M : MS), i + m = l.length ∧ MIs h' R M ∧ Fine M i ∧ ShortM M ∧ R.km = km ∧ (h'.get k5 = some (.cells o.cells 35) ∧ k5 < h'.next ∧ k5 ∉ R.ids) ∧
    (e'.getD 5 .undef = .ptr (some (.new k5 0)) ∧ e'.getD 7 .undef = .ptr (some (.new km 0)) ∧ e'.getD 45 .undef = v ∧ e'.getD 46 .undef = .int .i64 l.length ∧ e'.getD 47 .undef = .int .i64 i)

def CmpI (h0 : AH) (va vb : AV) (n : Nat) (m : Nat) (e' : Env) (h' : AH) : Prop :=
  e'.length = 193 ∧ Keeps h0 h' ∧ ∃ i : Nat, i + m = n ∧
    (e'.getD 11 .undef = va ∧ e'.getD 15 .undef = vb ∧ e'.getD 138 .undef = .int .i64 n ∧ e'.getD 139 .undef = .int .i64 i)

/-- What stands behind the last operation. -/
def BehI (o : Opn) (r : Res) (M M' : MS) (t : Nat) (e' : Env) (h' : AH) : Prop :=
  e'.length = 193 ∧ ∃ (R : MR) (va vb : AV) (k nv : _) (bk : Bool), (bk = true → o.kd = 5 ∨ o.kd = 6 ∨ o.kd = 7) ∧ MIs h' R M' ∧ FlsB h' R va (treeM M) ∧ FlsB h' R vb (treeM M') ∧ BoxV h' R k r nv ∧ 
    (e'.getD 11 .undef = va ∧ e'.getD 12 .undef = .int .i64 (usedR M) ∧ e'.getD 13 .undef = .int .i64 (liveR M.nodes : Nat) ∧ e'.getD 14 .undef = .ptr (some (.new k 0)) ∧
      e'.getD 15 .undef = vb ∧ e'.getD 16 .undef = .int .i64 (usedR M') ∧ e'.getD 17 .undef = .int .i64 (liveR M'.nodes : Nat) ∧ e'.getD 18 .undef = .bool bk)

set_option maxRecDepth 100000 in
set_option maxHeartbeats 16000000 in
theorem fails_ret (W : World) (v : AV) (l : List Opn) (hv : OpsS W v l) (a b c : Int) (o : Opn) (ho : OpnOk o) (hl : l.length < 8796093022207) :
    ACall (CC W) 5 [.agg [.int .i64 a, .int .i64 b, .int .i64 c], v, opV o.kd o.at_ o.n o.p o.t o.d] AH.empty (fun w _ => w = .bool true) (fun _ _ => False) := by
  obtain ⟨va, vc, rfl, hops⟩ := hv
  refine acall_fin (cc_ok W) (fn5 W) (by simp only [Tryz.f5]; rfl) rfl rfl ?_
  have hbx := box_shape (h := AH.empty) (l := [.int .i64 a, .int .i64 b, .int .i64 c])
  have hgs : (AH.empty.push (.cells [.int .i64 a, .int .i64 b, .int .i64 c] 23)).get AH.empty.next = some (.cells [.int .i64 a, .int .i64 b, .int .i64 c] 23) := by simp
  have hn1 : AH.empty.next < (AH.empty.push (.cells [.int .i64 a, .int .i64 b, .int .i64 c] 23)).next := by simp
  generalize AH.empty.push (.cells [.int .i64 a, .int .i64 b, .int .i64 c] 23) = h1 at hbx hgs hn1
  generalize AH.empty.next = k3 at hbx hgs hn1
  have hbo := box_op (h := h1) (l := o.cells)
  have hk12 := Keeps.push h1 (.cells o.cells 35)
  have hgo : (h1.push (.cells o.cells 35)).get h1.next = some (.cells o.cells 35) := by simp
  have hn2 : h1.next < (h1.push (.cells o.cells 35)).next := by simp
  generalize h1.push (.cells o.cells 35) = h2 at hbo hk12 hgo hn2
  have hgs2 := (hk12.2 k3 hn1).trans hgs
  generalize h1.next = k5 at hbo hgo hn2
  simp only [Opn.cells] at hbo
  have hlds := ld_shape (W := W) hgs2
  simp [Wc_seq, Wc_block, Wc_scope, Wc_skip, Wc_label, Wc_exit, Wc_ret, Wc_loop, Wc_region, Wc_cond, Nx_nil, Nx_seq, Nx_seq_exit, Nx_seq_ret, Nx_block, Nx_block_exit, Nx_block_ret, Rg_nil, Rg_cons, RgE, effA, calleeA, wantedA, enterN, ev, ofV, ofVn, putE, evalN, aBin, aInt_add, aInt_sub, aInt_mul, aInt_quo, aInt_rem, aInt_eql, aInt_neq, aInt_lss, aInt_leq, aInt_gtr, aInt_geq, aExtract, finQ_ret, resOf, extU, extEU, kq_eq, thenQ_normal, thenQ_exit, thenQ_ret, opV, hbx, hbo, hlds]
  refine callK_ret (by simp [fn12]) (new_ret W h2 a b c) fun w h3 hw => ?_
  cases hsh : shapeR a b c with
  | none =>
    rw [hsh] at hw
    obtain ⟨rfl, hk3⟩ := hw
    simp [Wc_seq, Wc_block, Wc_scope, Wc_skip, Wc_label, Wc_exit, Wc_ret, Wc_loop, Wc_region, Wc_cond, Nx_nil, Nx_seq, Nx_seq_exit, Nx_seq_ret, Nx_block, Nx_block_exit, Nx_block_ret, Rg_nil, Rg_cons, RgE, effA, calleeA, wantedA, enterN, ev, ofV, ofVn, putE, evalN, aBin, aInt_add, aInt_sub, aInt_mul, aInt_quo, aInt_rem, aInt_eql, aInt_neq, aInt_lss, aInt_leq, aInt_gtr, aInt_geq, aExtract, finQ_ret, resOf, extU, extEU, kq_eq, thenQ_normal, thenQ_exit, thenQ_ret, aEq, kind25, kindEq1, aEq1, kind4]
    refine callK_RetH (by simp [fn15]) (speaks_ret W _) ?_
    simp [Wc_seq, Wc_block, Wc_scope, Wc_skip, Wc_label, Wc_exit, Wc_ret, Wc_loop, Wc_region, Wc_cond, Nx_nil, Nx_seq, Nx_seq_exit, Nx_seq_ret, Nx_block, Nx_block_exit, Nx_block_ret, Rg_nil, Rg_cons, RgE, effA, calleeA, wantedA, enterN, ev, ofV, ofVn, putE, evalN, aBin, aInt_add, aInt_sub, aInt_mul, aInt_quo, aInt_rem, aInt_eql, aInt_neq, aInt_lss, aInt_leq, aInt_gtr, aInt_geq, aExtract, finQ_ret, resOf, extU, extEU, kq_eq, thenQ_normal, thenQ_exit, thenQ_ret]
  | some cm =>
    rw [hsh] at hw
    obtain ⟨R, rfl, hk3, hm, hR⟩ := hw
    obtain ⟨hfine, hshort⟩ : Fine (newM c.toNat cm) 0 ∧ ShortM (newM c.toNat cm) := by
      unfold shapeR at hsh
      split at hsh
      · rename_i hc
        simp only [inB, Bool.and_eq_true, decide_eq_true_eq] at hc
        exact ⟨new_fine (by omega) (by omega), new_short⟩
      · cases hsh
    generalize newM c.toNat cm = M0 at hm hfine hshort
    have hlen : ∀ h, aLen (CC W) h 24 (.sl va l.length vc none) = some (.int .i64 l.length) := fun h => by simp [aLen, kind24]
    simp [Wc_seq, Wc_block, Wc_scope, Wc_skip, Wc_label, Wc_exit, Wc_ret, Wc_loop, Wc_region, Wc_cond, Nx_nil, Nx_seq, Nx_seq_exit, Nx_seq_ret, Nx_block, Nx_block_exit, Nx_block_ret, Rg_nil, Rg_cons, RgE, effA, calleeA, wantedA, enterN, ev, ofV, ofVn, putE, evalN, aBin, aInt_add, aInt_sub, aInt_mul, aInt_quo, aInt_rem, aInt_eql, aInt_neq, aInt_lss, aInt_leq, aInt_gtr, aInt_geq, aExtract, finQ_ret, resOf, extU, extEU, kq_eq, thenQ_normal, thenQ_exit, thenQ_ret, aEq, kind25, kindEq1, aEq1]
    refine callK_RetH (by simp [fn14]) (heavy_ret W h3 va l.length vc none) ?_
    by_cases c1 : (200 : Int) < (l.length : Int)
    · have c1' : 200 < l.length := by omega
      simp [Wc_seq, Wc_block, Wc_scope, Wc_skip, Wc_label, Wc_exit, Wc_ret, Wc_loop, Wc_region, Wc_cond, Nx_nil, Nx_seq, Nx_seq_exit, Nx_seq_ret, Nx_block, Nx_block_exit, Nx_block_ret, Rg_nil, Rg_cons, RgE, effA, calleeA, wantedA, enterN, ev, ofV, ofVn, putE, evalN, aBin, aInt_add, aInt_sub, aInt_mul, aInt_quo, aInt_rem, aInt_eql, aInt_neq, aInt_lss, aInt_leq, aInt_gtr, aInt_geq, aExtract, finQ_ret, resOf, extU, extEU, kq_eq, thenQ_normal, thenQ_exit, thenQ_ret, aEq, kind25, kindEq1, aEq1, kind4, c1, c1']
      refine callK_RetH (by simp [fn15]) (speaks_ret W _) ?_
      simp [Wc_seq, Wc_block, Wc_scope, Wc_skip, Wc_label, Wc_exit, Wc_ret, Wc_loop, Wc_region, Wc_cond, Nx_nil, Nx_seq, Nx_seq_exit, Nx_seq_ret, Nx_block, Nx_block_exit, Nx_block_ret, Rg_nil, Rg_cons, RgE, effA, calleeA, wantedA, enterN, ev, ofV, ofVn, putE, evalN, aBin, aInt_add, aInt_sub, aInt_mul, aInt_quo, aInt_rem, aInt_eql, aInt_neq, aInt_lss, aInt_leq, aInt_gtr, aInt_geq, aExtract, finQ_ret, resOf, extU, extEU, kq_eq, thenQ_normal, thenQ_exit, thenQ_ret]
    · have c1' : ¬ 200 < l.length := by omega
      simp [Wc_seq, Wc_block, Wc_scope, Wc_skip, Wc_label, Wc_exit, Wc_ret, Wc_loop, Wc_region, Wc_cond, Nx_nil, Nx_seq, Nx_seq_exit, Nx_seq_ret, Nx_block, Nx_block_exit, Nx_block_ret, Rg_nil, Rg_cons, RgE, effA, calleeA, wantedA, enterN, ev, ofV, ofVn, putE, evalN, aBin, aInt_add, aInt_sub, aInt_mul, aInt_quo, aInt_rem, aInt_eql, aInt_neq, aInt_lss, aInt_leq, aInt_gtr, aInt_geq, aExtract, finQ_ret, resOf, extU, extEU, kq_eq, thenQ_normal, thenQ_exit, thenQ_ret, aEq, kind25, kindEq1, aEq1, c1, c1', hlen]
      have hgo3 : h3.get k5 = some (.cells o.cells 35) ∧ k5 < h3.next ∧ k5 ∉ R.ids := ⟨(hk3.2 k5 hn2).trans hgo, Nat.lt_of_lt_of_le hn2 hk3.1, fun hc => by have := hR _ hc; omega⟩
      refine loopN (cc_ok W) (FailI (.sl va l.length vc none) o k5 R.km l) l.length ⟨by simp, 0, R, M0, by simp, hm, hfine, hshort, rfl, hgo3, by simp⟩ ?_
      clear hm hfine hshort hgo3 hR
      generalize R.km = km at *
      rintro m e' h' ⟨hlen', i, R, M, him, hm, hfine, hshort, rfl, hg5, hh⟩
      obtain ⟨a0, a1, a2, a3, a4, a5, a6, a7, a8, a9, rS0, rfl, hS0⟩ := un10 hlen'
      obtain ⟨a10, a11, a12, a13, a14, a15, a16, a17, a18, a19, rS10, rfl, hS10⟩ := un10 hS0
      obtain ⟨a20, a21, a22, a23, a24, a25, a26, a27, a28, a29, rS20, rfl, hS20⟩ := un10 hS10
      obtain ⟨a30, a31, a32, a33, a34, a35, a36, a37, a38, a39, rS30, rfl, hS30⟩ := un10 hS20
      obtain ⟨a40, a41, a42, a43, a44, a45, a46, a47, a48, a49, rS40, rfl, hS40⟩ := un10 hS30
      obtain ⟨a50, a51, a52, a53, a54, a55, a56, a57, a58, a59, rS50, rfl, hS50⟩ := un10 hS40
      obtain ⟨a60, a61, a62, a63, a64, a65, a66, a67, a68, a69, rS60, rfl, hS60⟩ := un10 hS50
      obtain ⟨a70, a71, a72, a73, a74, a75, a76, a77, a78, a79, rS70, rfl, hS70⟩ := un10 hS60
      obtain ⟨a80, a81, a82, a83, a84, a85, a86, a87, a88, a89, rS80, rfl, hS80⟩ := un10 hS70
      obtain ⟨a90, a91, a92, a93, a94, a95, a96, a97, a98, a99, rS90, rfl, hS90⟩ := un10 hS80
      obtain ⟨a100, a101, a102, a103, a104, a105, a106, a107, a108, a109, rS100, rfl, hS100⟩ := un10 hS90
      obtain ⟨a110, a111, a112, a113, a114, a115, a116, a117, a118, a119, rS110, rfl, hS110⟩ := un10 hS100
      obtain ⟨a120, a121, a122, a123, a124, a125, a126, a127, a128, a129, rS120, rfl, hS120⟩ := un10 hS110
      obtain ⟨a130, a131, a132, a133, a134, a135, a136, a137, a138, a139, rS130, rfl, hS130⟩ := un10 hS120
      obtain ⟨a140, a141, a142, a143, a144, a145, a146, a147, a148, a149, rS140, rfl, hS140⟩ := un10 hS130
      obtain ⟨a150, a151, a152, a153, a154, a155, a156, a157, a158, a159, rS150, rfl, hS150⟩ := un10 hS140
      obtain ⟨a160, a161, a162, a163, a164, a165, a166, a167, a168, a169, rS160, rfl, hS160⟩ := un10 hS150
      obtain ⟨a170, a171, a172, a173, a174, a175, a176, a177, a178, a179, rS170, rfl, hS170⟩ := un10 hS160
      obtain ⟨a180, a181, a182, a183, a184, a185, a186, a187, a188, a189, rS180, rfl, hS180⟩ := un10 hS170
      obtain ⟨a190, rS190, rfl, hS190⟩ := un1 hS180
      obtain ⟨a191, rS191, rfl, hS191⟩ := un1 hS190
      obtain ⟨a192, rS192, rfl, hS192⟩ := un1 hS191
      obtain rfl := un0 hS192
      clear hlen' hS0 hS10 hS20 hS30 hS40 hS50 hS60 hS70 hS80 hS90 hS100 hS110 hS120 hS130 hS140 hS150 hS160 hS170 hS180 hS190 hS191 hS192
      simp at hh
      obtain ⟨rfl, rfl, rfl, rfl, rfl⟩ := hh
      have hi200 : i < 1000000 := by omega
      by_cases hlt : i < l.length
      · have hlt' : (i : Int) < (l.length : Int) := by omega
        have wi : IntKind.i64.wrap ((i : Int) + 1) = (i : Int) + 1 := wrap64 (by omega) (by omega)
        have hx : l[i]? = some l[i] := by simp [hlt]
        generalize l[i] = o2 at hx
        obtain ⟨hok, a', hix, hld⟩ := hops i o2 hx
        have hld' := hld h'
        simp only [Opn.cells] at hld'
        have hst := st_op (W := W) (o := o2) (h := h'.push (.cells [.int .i64 0, .int .i64 0, .int .i64 0, .str [], .str [], .str []] 35)) (k := h'.next) (a := .int .i64 0) (b := .int .i64 0) (c := .int .i64 0) (d := .str []) (e := .str []) (f := .str []) (by simp)
        have hK : Keeps h' ((h'.push (.cells [.int .i64 0, .int .i64 0, .int .i64 0, .str [], .str [], .str []] 35)).set h'.next (.cells o2.cells 35)) := (Keeps.push _ _).set (Nat.le_refl _) _
        have hld2 := ld_op (W := W) (h := (h'.push (.cells [.int .i64 0, .int .i64 0, .int .i64 0, .str [], .str [], .str []] 35)).set h'.next (.cells o2.cells 35)) (k := h'.next) (a := .int .i64 o2.kd) (b := .int .i64 o2.at_) (c := .int .i64 o2.n) (d := .str o2.p) (e := .str o2.t) (f := .str o2.d) (by simp [Opn.cells])
        generalize (h'.push (.cells [.int .i64 0, .int .i64 0, .int .i64 0, .str [], .str [], .str []] 35)).set h'.next (.cells o2.cells 35) = h3 at hst hK hld2
        have hm3 := hm.keeps hK
        simp [Wc_seq, Wc_block, Wc_scope, Wc_skip, Wc_label, Wc_exit, Wc_ret, Wc_loop, Wc_region, Wc_cond, Nx_nil, Nx_seq, Nx_seq_exit, Nx_seq_ret, Nx_block, Nx_block_exit, Nx_block_ret, Rg_nil, Rg_cons, RgE, effA, calleeA, wantedA, enterN, ev, ofV, ofVn, putE, evalN, aBin, aInt_add, aInt_sub, aInt_mul, aInt_quo, aInt_rem, aInt_eql, aInt_neq, aInt_lss, aInt_leq, aInt_gtr, aInt_geq, aExtract, finQ_ret, resOf, extU, extEU, kq_eq, thenQ_normal, thenQ_exit, thenQ_ret, hlt, hlt', hix, hld', alloc_op, hst, hld2]
        have hdo := do_all W h3 R M hm3 i hfine hi200 o2 hok.p hok.t hok.a hok.a'
        simp only [opV] at hdo
        refine callK_ret (by simp [fn17]) hdo fun w h4 ⟨R4, hres, hm4, hB4⟩ => ?_
        have hf4 := do_fine hfine hi200 o2
        have hg5' := ((MStep.refl (R := R) hK).trans hB4).box hg5.1 hg5.2.1 hg5.2.2
        simp [Wc_seq, Wc_block, Wc_scope, Wc_skip, Wc_label, Wc_exit, Wc_ret, Wc_loop, Wc_region, Wc_cond, Nx_nil, Nx_seq, Nx_seq_exit, Nx_seq_ret, Nx_block, Nx_block_exit, Nx_block_ret, Rg_nil, Rg_cons, RgE, effA, calleeA, wantedA, enterN, ev, ofV, ofVn, putE, evalN, aBin, aInt_add, aInt_sub, aInt_mul, aInt_quo, aInt_rem, aInt_eql, aInt_neq, aInt_lss, aInt_leq, aInt_gtr, aInt_geq, aExtract, finQ_ret, resOf, extU, extEU, kq_eq, thenQ_normal, thenQ_exit, thenQ_ret, wi]
        exact ⟨m - 1, by omega, by simp, i + 1, R4, _, by omega, hm4, hf4, do_short hshort o2, hB4.hds.1, hg5', by simp⟩
      · have hlt' : ¬ (i : Int) < (l.length : Int) := by omega
        simp [Wc_seq, Wc_block, Wc_scope, Wc_skip, Wc_label, Wc_exit, Wc_ret, Wc_loop, Wc_region, Wc_cond, Nx_nil, Nx_seq, Nx_seq_exit, Nx_seq_ret, Nx_block, Nx_block_exit, Nx_block_ret, Rg_nil, Rg_cons, RgE, effA, calleeA, wantedA, enterN, ev, ofV, ofVn, putE, evalN, aBin, aInt_add, aInt_sub, aInt_mul, aInt_quo, aInt_rem, aInt_eql, aInt_neq, aInt_lss, aInt_leq, aInt_gtr, aInt_geq, aExtract, finQ_ret, resOf, extU, extEU, kq_eq, thenQ_normal, thenQ_exit, thenQ_ret, hlt, hlt']
        refine callK_RetQ (by simp [fn21]) (tree_fine W R M i hfine (by omega) hshort h' hm) fun w1 h4 hk4 ht1 => ?_
        have hm4 := hm.keeps hk4
        have hF1 := ht1.flsB hm4
        have hg5' := (MStep.refl (R := R) hk4).box hg5.1 hg5.2.1 hg5.2.2
        simp [Wc_seq, Wc_block, Wc_scope, Wc_skip, Wc_label, Wc_exit, Wc_ret, Wc_loop, Wc_region, Wc_cond, Nx_nil, Nx_seq, Nx_seq_exit, Nx_seq_ret, Nx_block, Nx_block_exit, Nx_block_ret, Rg_nil, Rg_cons, RgE, effA, calleeA, wantedA, enterN, ev, ofV, ofVn, putE, evalN, aBin, aInt_add, aInt_sub, aInt_mul, aInt_quo, aInt_rem, aInt_eql, aInt_neq, aInt_lss, aInt_leq, aInt_gtr, aInt_geq, aExtract, finQ_ret, resOf, extU, extEU, kq_eq, thenQ_normal, thenQ_exit, thenQ_ret]
        refine callK_RetQ (by simp [fn19]) (used_fine W R M i hfine (by omega) h4 hm4) fun w2 h5 hk5 hw2 => ?_
        subst hw2
        have hm5 := hm4.keeps hk5
        have hF1 := hF1.keeps hk5
        have hg5'' := (MStep.refl (R := R) hk5).box hg5'.1 hg5'.2.1 hg5'.2.2
        have hldo := ld_op (W := W) hg5''.1
        have hdo := do_all W h5 R M hm5 i hfine hi200 o ho.p ho.t ho.a ho.a'
        simp only [opV] at hdo
        simp [Wc_seq, Wc_block, Wc_scope, Wc_skip, Wc_label, Wc_exit, Wc_ret, Wc_loop, Wc_region, Wc_cond, Nx_nil, Nx_seq, Nx_seq_exit, Nx_seq_ret, Nx_block, Nx_block_exit, Nx_block_ret, Rg_nil, Rg_cons, RgE, effA, calleeA, wantedA, enterN, ev, ofV, ofVn, putE, evalN, aBin, aInt_add, aInt_sub, aInt_mul, aInt_quo, aInt_rem, aInt_eql, aInt_neq, aInt_lss, aInt_leq, aInt_gtr, aInt_geq, aExtract, finQ_ret, resOf, extU, extEU, kq_eq, thenQ_normal, thenQ_exit, thenQ_ret, hldo]
        refine callK_ret (by simp [fn17]) hdo fun w h6 ⟨R6, hres, hm6, hB6⟩ => ?_
        have hf6 := do_fine hfine hi200 o
        have hs6 := do_short hshort o
        have herr := do_err (M := M) (o := o)
        have herrR := do_errR (M := M) (o := o)
        have hlook := do_look (M := M) (o := o)
        obtain ⟨k14, hp, h7, x1, x2, x3, x4, rfl, al, st, hm7, hB7, bx⟩ := box_doV (W := W) hres hm6 hB6
        have hF1 := hF1.step hB7
        have hg7 := hB7.box hg5''.1 hg5''.2.1 hg5''.2.2
        have km7 := hB7.hds.1
        generalize (doR M o).2 = M' at *
        generalize (doR M o).1 = r at *
        simp [Wc_seq, Wc_block, Wc_scope, Wc_skip, Wc_label, Wc_exit, Wc_ret, Wc_loop, Wc_region, Wc_cond, Nx_nil, Nx_seq, Nx_seq_exit, Nx_seq_ret, Nx_block, Nx_block_exit, Nx_block_ret, Rg_nil, Rg_cons, RgE, effA, calleeA, wantedA, enterN, ev, ofV, ofVn, putE, evalN, aBin, aInt_add, aInt_sub, aInt_mul, aInt_quo, aInt_rem, aInt_eql, aInt_neq, aInt_lss, aInt_leq, aInt_gtr, aInt_geq, aExtract, finQ_ret, resOf, extU, extEU, kq_eq, thenQ_normal, thenQ_exit, thenQ_ret, al, st]
        have htr := tree_fine W R6 M' (i + 1) hf6 (by omega) hs6 h7 hm7
        rw [km7] at htr
        refine callK_RetQ (by simp [fn21]) htr fun w8 h8 hk8 ht8 => ?_
        have hm8 := hm7.keeps hk8
        have hF1 := hF1.keeps hk8
        have hF2 := ht8.flsB hm8
        have bx := bx.step (MStep.refl hk8)
        have hg8 := (MStep.refl (R := R6) hk8).box hg7.1 hg7.2.1 hg7.2.2
        simp [Wc_seq, Wc_block, Wc_scope, Wc_skip, Wc_label, Wc_exit, Wc_ret, Wc_loop, Wc_region, Wc_cond, Nx_nil, Nx_seq, Nx_seq_exit, Nx_seq_ret, Nx_block, Nx_block_exit, Nx_block_ret, Rg_nil, Rg_cons, RgE, effA, calleeA, wantedA, enterN, ev, ofV, ofVn, putE, evalN, aBin, aInt_add, aInt_sub, aInt_mul, aInt_quo, aInt_rem, aInt_eql, aInt_neq, aInt_lss, aInt_leq, aInt_gtr, aInt_geq, aExtract, finQ_ret, resOf, extU, extEU, kq_eq, thenQ_normal, thenQ_exit, thenQ_ret]
        have hus := used_fine W R6 M' (i + 1) hf6 (by omega) h8 hm8
        rw [km7] at hus
        refine hideK fun K hK => ?_
        refine callK_RetQ (by simp [fn19]) hus fun w9 h9 hk9 hw9 => ?_
        subst hw9
        have hm9 := hm8.keeps hk9
        have hF1 := hF1.keeps hk9
        have hF2 := hF2.keeps hk9
        have bx := bx.step (MStep.refl hk9)
        have hg9 := (MStep.refl (R := R6) hk9).box hg8.1 hg8.2.1 hg8.2.2
        have hgc := hg9.1
        simp only [Opn.cells] at hgc
        simp [Wc_seq, Wc_block, Wc_scope, Wc_skip, Wc_label, Wc_exit, Wc_ret, Wc_loop, Wc_region, Wc_cond, Nx_nil, Nx_seq, Nx_seq_exit, Nx_seq_ret, Nx_block, Nx_block_exit, Nx_block_ret, Rg_nil, Rg_cons, RgE, effA, calleeA, wantedA, enterN, ev, ofV, ofVn, putE, evalN, aBin, aInt_add, aInt_sub, aInt_mul, aInt_quo, aInt_rem, aInt_eql, aInt_neq, aInt_lss, aInt_leq, aInt_gtr, aInt_geq, aExtract, finQ_ret, resOf, extU, extEU, kq_eq, thenQ_normal, thenQ_exit, thenQ_ret]
        subst hK
        simp only [Nx_seq, Wc_seq]
        refine wc_cut (BehI o r M M' i) ?_ ?_
        · by_cases d5 : o.kd = 5
          · simp [Wc_seq, Wc_block, Wc_scope, Wc_skip, Wc_label, Wc_exit, Wc_ret, Wc_loop, Wc_region, Wc_cond, Nx_nil, Nx_seq, Nx_seq_exit, Nx_seq_ret, Nx_block, Nx_block_exit, Nx_block_ret, Rg_nil, Rg_cons, RgE, effA, calleeA, wantedA, enterN, ev, ofV, ofVn, putE, evalN, aBin, aInt_add, aInt_sub, aInt_mul, aInt_quo, aInt_rem, aInt_eql, aInt_neq, aInt_lss, aInt_leq, aInt_gtr, aInt_geq, aExtract, finQ_ret, resOf, extU, extEU, kq_eq, thenQ_normal, thenQ_exit, thenQ_ret, fa35_0, ld3, cell_new hgc, aNilCheck, d5]
            exact ⟨by simp, _, _, _, _, _, true, fun _ => .inl d5, hm9, hF1, hF2, bx, by simp⟩
          · by_cases d6 : o.kd = 6
            · simp [Wc_seq, Wc_block, Wc_scope, Wc_skip, Wc_label, Wc_exit, Wc_ret, Wc_loop, Wc_region, Wc_cond, Nx_nil, Nx_seq, Nx_seq_exit, Nx_seq_ret, Nx_block, Nx_block_exit, Nx_block_ret, Rg_nil, Rg_cons, RgE, effA, calleeA, wantedA, enterN, ev, ofV, ofVn, putE, evalN, aBin, aInt_add, aInt_sub, aInt_mul, aInt_quo, aInt_rem, aInt_eql, aInt_neq, aInt_lss, aInt_leq, aInt_gtr, aInt_geq, aExtract, finQ_ret, resOf, extU, extEU, kq_eq, thenQ_normal, thenQ_exit, thenQ_ret, fa35_0, ld3, cell_new hgc, aNilCheck, d5, d6]
              exact ⟨by simp, _, _, _, _, _, true, fun _ => .inr (.inl d6), hm9, hF1, hF2, bx, by simp⟩
            · by_cases d7 : o.kd = 7
              · simp [Wc_seq, Wc_block, Wc_scope, Wc_skip, Wc_label, Wc_exit, Wc_ret, Wc_loop, Wc_region, Wc_cond, Nx_nil, Nx_seq, Nx_seq_exit, Nx_seq_ret, Nx_block, Nx_block_exit, Nx_block_ret, Rg_nil, Rg_cons, RgE, effA, calleeA, wantedA, enterN, ev, ofV, ofVn, putE, evalN, aBin, aInt_add, aInt_sub, aInt_mul, aInt_quo, aInt_rem, aInt_eql, aInt_neq, aInt_lss, aInt_leq, aInt_gtr, aInt_geq, aExtract, finQ_ret, resOf, extU, extEU, kq_eq, thenQ_normal, thenQ_exit, thenQ_ret, fa35_0, ld3, cell_new hgc, aNilCheck, d5, d6, d7]
                exact ⟨by simp, _, _, _, _, _, true, fun _ => .inr (.inr d7), hm9, hF1, hF2, bx, by simp⟩
              · have b5 : (o.kd == 5) = false := by simpa using d5
                have b6 : (o.kd == 6) = false := by simpa using d6
                have b7 : (o.kd == 7) = false := by simpa using d7
                simp [Wc_seq, Wc_block, Wc_scope, Wc_skip, Wc_label, Wc_exit, Wc_ret, Wc_loop, Wc_region, Wc_cond, Nx_nil, Nx_seq, Nx_seq_exit, Nx_seq_ret, Nx_block, Nx_block_exit, Nx_block_ret, Rg_nil, Rg_cons, RgE, effA, calleeA, wantedA, enterN, ev, ofV, ofVn, putE, evalN, aBin, aInt_add, aInt_sub, aInt_mul, aInt_quo, aInt_rem, aInt_eql, aInt_neq, aInt_lss, aInt_leq, aInt_gtr, aInt_geq, aExtract, finQ_ret, resOf, extU, extEU, kq_eq, thenQ_normal, thenQ_exit, thenQ_ret, fa35_0, ld3, cell_new hgc, aNilCheck, d5, d6, d7, b5, b6, b7]
                exact ⟨by simp, _, _, _, _, _, false, fun h => (by cases h), hm9, hF1, hF2, bx, by simp⟩
        · clear hF1 hF2 bx hm9 hgc hg9
          rintro e' h9 ⟨hlen', R9, va1, vb1, k9, nv9, bk, hbk, hm9, hF1, hF2, bx, hh⟩
          obtain ⟨a0, a1, a2, a3, a4, a5, a6, a7, a8, a9, rS0, rfl, hS0⟩ := un10 hlen'
          obtain ⟨a10, a11, a12, a13, a14, a15, a16, a17, a18, a19, rS10, rfl, hS10⟩ := un10 hS0
          obtain ⟨a20, a21, a22, a23, a24, a25, a26, a27, a28, a29, rS20, rfl, hS20⟩ := un10 hS10
          obtain ⟨a30, a31, a32, a33, a34, a35, a36, a37, a38, a39, rS30, rfl, hS30⟩ := un10 hS20
          obtain ⟨a40, a41, a42, a43, a44, a45, a46, a47, a48, a49, rS40, rfl, hS40⟩ := un10 hS30
          obtain ⟨a50, a51, a52, a53, a54, a55, a56, a57, a58, a59, rS50, rfl, hS50⟩ := un10 hS40
          obtain ⟨a60, a61, a62, a63, a64, a65, a66, a67, a68, a69, rS60, rfl, hS60⟩ := un10 hS50
          obtain ⟨a70, a71, a72, a73, a74, a75, a76, a77, a78, a79, rS70, rfl, hS70⟩ := un10 hS60
          obtain ⟨a80, a81, a82, a83, a84, a85, a86, a87, a88, a89, rS80, rfl, hS80⟩ := un10 hS70
          obtain ⟨a90, a91, a92, a93, a94, a95, a96, a97, a98, a99, rS90, rfl, hS90⟩ := un10 hS80
          obtain ⟨a100, a101, a102, a103, a104, a105, a106, a107, a108, a109, rS100, rfl, hS100⟩ := un10 hS90
          obtain ⟨a110, a111, a112, a113, a114, a115, a116, a117, a118, a119, rS110, rfl, hS110⟩ := un10 hS100
          obtain ⟨a120, a121, a122, a123, a124, a125, a126, a127, a128, a129, rS120, rfl, hS120⟩ := un10 hS110
          obtain ⟨a130, a131, a132, a133, a134, a135, a136, a137, a138, a139, rS130, rfl, hS130⟩ := un10 hS120
          obtain ⟨a140, a141, a142, a143, a144, a145, a146, a147, a148, a149, rS140, rfl, hS140⟩ := un10 hS130
          obtain ⟨a150, a151, a152, a153, a154, a155, a156, a157, a158, a159, rS150, rfl, hS150⟩ := un10 hS140
          obtain ⟨a160, a161, a162, a163, a164, a165, a166, a167, a168, a169, rS160, rfl, hS160⟩ := un10 hS150
          obtain ⟨a170, a171, a172, a173, a174, a175, a176, a177, a178, a179, rS170, rfl, hS170⟩ := un10 hS160
          obtain ⟨a180, a181, a182, a183, a184, a185, a186, a187, a188, a189, rS180, rfl, hS180⟩ := un10 hS170
          obtain ⟨a190, rS190, rfl, hS190⟩ := un1 hS180
          obtain ⟨a191, rS191, rfl, hS191⟩ := un1 hS190
          obtain ⟨a192, rS192, rfl, hS192⟩ := un1 hS191
          obtain rfl := un0 hS192
          clear hlen' hS0 hS10 hS20 hS30 hS40 hS50 hS60 hS70 hS80 hS90 hS100 hS110 hS120 hS130 hS140 hS150 hS160 hS170 hS180 hS190 hS191 hS192
          simp at hh
          obtain ⟨rfl, rfl, rfl, rfl, rfl, rfl, rfl, rfl⟩ := hh
          by_cases he : r.e = 0
          · rw [Nx_seq, Wc_seq]
            refine hideW fun K hK => ?_
            simp [Wc_seq, Wc_block, Wc_scope, Wc_skip, Wc_label, Wc_exit, Wc_ret, Wc_loop, Wc_region, Wc_cond, Nx_nil, Nx_seq, Nx_seq_exit, Nx_seq_ret, Nx_block, Nx_block_exit, Nx_block_ret, Rg_nil, Rg_cons, RgE, effA, calleeA, wantedA, enterN, ev, ofV, ofVn, putE, evalN, aBin, aInt_add, aInt_sub, aInt_mul, aInt_quo, aInt_rem, aInt_eql, aInt_neq, aInt_lss, aInt_leq, aInt_gtr, aInt_geq, aExtract, finQ_ret, resOf, extU, extEU, kq_eq, thenQ_normal, thenQ_exit, thenQ_ret, fa39_0, ld26, cell_bx bx.g, aNilCheck, he]
            subst hK
            rw [Nx_seq, Wc_seq]
            refine hideW fun K hK => ?_
            by_cases hlk : bk = true
            · obtain rfl : M = M' := (hlook (hbk hlk)).symm
              simp [Wc_seq, Wc_block, Wc_scope, Wc_skip, Wc_label, Wc_exit, Wc_ret, Wc_loop, Wc_region, Wc_cond, Nx_nil, Nx_seq, Nx_seq_exit, Nx_seq_ret, Nx_block, Nx_block_exit, Nx_block_ret, Rg_nil, Rg_cons, RgE, effA, calleeA, wantedA, enterN, ev, ofV, ofVn, putE, evalN, aBin, aInt_add, aInt_sub, aInt_mul, aInt_quo, aInt_rem, aInt_eql, aInt_neq, aInt_lss, aInt_leq, aInt_gtr, aInt_geq, aExtract, finQ_ret, resOf, extU, extEU, kq_eq, thenQ_normal, thenQ_exit, thenQ_ret, fa39_0, ld26, cell_bx bx.g, aNilCheck, he, hlk, aUn_not']
              subst hK
              have hlA := hF1.len (W := W) (h2 := h9)
              have hlB := hF2.len (W := W) (h2 := h9)
              have hn := tree_len hf6 (by omega) (M.nodes.length + 1)
              have hind : ∀ f ∈ treeM M, f.blocks.length < 9223372036854775808 := fun f hf => by
                obtain ⟨_, _, nd, hnd, rfl⟩ := tree_mem _ _ _ f hf
                have := ind_short hm9 (hf6.ok (by omega)) (List.mem_of_getElem? hnd)
                show (indR nd).length < _
                omega
              change (treeM M).length ≤ _ at hn
              generalize treeM M = T at *
              rw [Nx_seq, Wc_seq]
              refine hideW fun K hK => ?_
              simp [Wc_seq, Wc_block, Wc_scope, Wc_skip, Wc_label, Wc_exit, Wc_ret, Wc_loop, Wc_region, Wc_cond, Nx_nil, Nx_seq, Nx_seq_exit, Nx_seq_ret, Nx_block, Nx_block_exit, Nx_block_ret, Rg_nil, Rg_cons, RgE, effA, calleeA, wantedA, enterN, ev, ofV, ofVn, putE, evalN, aBin, aInt_add, aInt_sub, aInt_mul, aInt_quo, aInt_rem, aInt_eql, aInt_neq, aInt_lss, aInt_leq, aInt_gtr, aInt_geq, aExtract, finQ_ret, resOf, extU, extEU, kq_eq, thenQ_normal, thenQ_exit, thenQ_ret, hlA, hlB]
              subst hK
              rw [Nx_seq, Wc_seq]
              refine hideW fun K hK => ?_
              simp [Wc_seq, Wc_block, Wc_scope, Wc_skip, Wc_label, Wc_exit, Wc_ret, Wc_loop, Wc_region, Wc_cond, Nx_nil, Nx_seq, Nx_seq_exit, Nx_seq_ret, Nx_block, Nx_block_exit, Nx_block_ret, Rg_nil, Rg_cons, RgE, effA, calleeA, wantedA, enterN, ev, ofV, ofVn, putE, evalN, aBin, aInt_add, aInt_sub, aInt_mul, aInt_quo, aInt_rem, aInt_eql, aInt_neq, aInt_lss, aInt_leq, aInt_gtr, aInt_geq, aExtract, finQ_ret, resOf, extU, extEU, kq_eq, thenQ_normal, thenQ_exit, thenQ_ret, hlA]
              refine loopN (cc_ok W) (CmpI h9 a11 a15 T.length) T.length ⟨by simp, Keeps.refl _, 0, by simp, by simp⟩ ?_
              rintro m e' h' ⟨hlen', hk, j, hjm, hh⟩
              obtain ⟨a0, a1, a2, a3, a4, a5, a6, a7, a8, a9, rS0, rfl, hS0⟩ := un10 hlen'
              obtain ⟨a10, a11, a12, a13, a14, a15, a16, a17, a18, a19, rS10, rfl, hS10⟩ := un10 hS0
              obtain ⟨a20, a21, a22, a23, a24, a25, a26, a27, a28, a29, rS20, rfl, hS20⟩ := un10 hS10
              obtain ⟨a30, a31, a32, a33, a34, a35, a36, a37, a38, a39, rS30, rfl, hS30⟩ := un10 hS20
              obtain ⟨a40, a41, a42, a43, a44, a45, a46, a47, a48, a49, rS40, rfl, hS40⟩ := un10 hS30
              obtain ⟨a50, a51, a52, a53, a54, a55, a56, a57, a58, a59, rS50, rfl, hS50⟩ := un10 hS40
              obtain ⟨a60, a61, a62, a63, a64, a65, a66, a67, a68, a69, rS60, rfl, hS60⟩ := un10 hS50
              obtain ⟨a70, a71, a72, a73, a74, a75, a76, a77, a78, a79, rS70, rfl, hS70⟩ := un10 hS60
              obtain ⟨a80, a81, a82, a83, a84, a85, a86, a87, a88, a89, rS80, rfl, hS80⟩ := un10 hS70
              obtain ⟨a90, a91, a92, a93, a94, a95, a96, a97, a98, a99, rS90, rfl, hS90⟩ := un10 hS80
              obtain ⟨a100, a101, a102, a103, a104, a105, a106, a107, a108, a109, rS100, rfl, hS100⟩ := un10 hS90
              obtain ⟨a110, a111, a112, a113, a114, a115, a116, a117, a118, a119, rS110, rfl, hS110⟩ := un10 hS100
              obtain ⟨a120, a121, a122, a123, a124, a125, a126, a127, a128, a129, rS120, rfl, hS120⟩ := un10 hS110
              obtain ⟨a130, a131, a132, a133, a134, a135, a136, a137, a138, a139, rS130, rfl, hS130⟩ := un10 hS120
              obtain ⟨a140, a141, a142, a143, a144, a145, a146, a147, a148, a149, rS140, rfl, hS140⟩ := un10 hS130
              obtain ⟨a150, a151, a152, a153, a154, a155, a156, a157, a158, a159, rS150, rfl, hS150⟩ := un10 hS140
              obtain ⟨a160, a161, a162, a163, a164, a165, a166, a167, a168, a169, rS160, rfl, hS160⟩ := un10 hS150
              obtain ⟨a170, a171, a172, a173, a174, a175, a176, a177, a178, a179, rS170, rfl, hS170⟩ := un10 hS160
              obtain ⟨a180, a181, a182, a183, a184, a185, a186, a187, a188, a189, rS180, rfl, hS180⟩ := un10 hS170
              obtain ⟨a190, rS190, rfl, hS190⟩ := un1 hS180
              obtain ⟨a191, rS191, rfl, hS191⟩ := un1 hS190
              obtain ⟨a192, rS192, rfl, hS192⟩ := un1 hS191
              obtain rfl := un0 hS192
              clear hlen' hS0 hS10 hS20 hS30 hS40 hS50 hS60 hS70 hS80 hS90 hS100 hS110 hS120 hS130 hS140 hS150 hS160 hS170 hS180 hS190 hS191 hS192
              simp at hh
              obtain ⟨rfl, rfl, rfl, rfl⟩ := hh
              by_cases hlt2 : j < T.length
              · have hlt2' : (j : Int) < (T.length : Int) := by omega
                have wj : IntKind.i64.wrap ((j : Int) + 1) = (j : Int) + 1 := wrap64 (by omega) (by omega)
                have hx : T[j]? = some T[j] := by simp [hlt2]
                have hbl := hind T[j] (by simp)
                generalize T[j] = f at hx hbl
                obtain ⟨bv1, q1, hix1, hld1, hI1⟩ := fls_at (W := W) (hF1.keeps hk) hx
                have hal1 := alloc_file (W := W) (h := h')
                have hkA := keeps_setN (c := .cells (flC (f, bv1)) 55) (Keeps.push h' (.cells fl0 55)) (Nat.le_refl _)
                have st1 := st_file (W := W) (h := h'.push (.cells fl0 55)) (k := h'.next) (b := flC (f, bv1)) (by simp; rfl) (by rfl) (by rfl) (flC_one hI1.intS)
                have hgA : ((h'.push (.cells fl0 55)).set h'.next (.cells (flC (f, bv1)) 55)).get h'.next = some (.cells (flC (f, bv1)) 55) := by simp
                have hnA : h'.next < ((h'.push (.cells fl0 55)).set h'.next (.cells (flC (f, bv1)) 55)).next := by simp
                generalize (h'.push (.cells fl0 55)).set h'.next (.cells (flC (f, bv1)) 55) = hA at hkA st1 hgA hnA
                change aAlloc _ _ _ = some (_, h'.push (.cells fl0 55)) at hal1
                generalize h'.push (.cells fl0 55) = hA0 at hal1 st1
                generalize h'.next = kA at hal1 st1 hgA hnA
                obtain ⟨bv2, q2, hix2, hld2, hI2⟩ := fls_at (W := W) (hF2.keeps (hk.trans hkA)) hx
                have hal2 := alloc_file (W := W) (h := hA)
                have hkB := keeps_setN (c := .cells (flC (f, bv2)) 55) (Keeps.push hA (.cells fl0 55)) (Nat.le_refl _)
                have st2 := st_file (W := W) (h := hA.push (.cells fl0 55)) (k := hA.next) (b := flC (f, bv2)) (by simp; rfl) (by rfl) (by rfl) (flC_one hI2.intS)
                have hgB : ((hA.push (.cells fl0 55)).set hA.next (.cells (flC (f, bv2)) 55)).get hA.next = some (.cells (flC (f, bv2)) 55) := by simp
                generalize (hA.push (.cells fl0 55)).set hA.next (.cells (flC (f, bv2)) 55) = hB at hkB st2 hgB
                change aAlloc _ _ _ = some (_, hA.push (.cells fl0 55)) at hal2
                generalize hA.push (.cells fl0 55) = hB0 at hal2 st2
                generalize hA.next = kB at hal2 st2 hgB
                have hgA2 := (hkB.2 kA hnA).trans hgA
                have hints := ints_ret W hB bv1 bv2 f.blocks f.blocks (hI1.intS.keeps (hkA.trans hkB)) (hI2.intS.keeps hkB) hbl
                have hkh := hk.trans (hkA.trans hkB)
                simp only [flC] at hgA2 hgB hld1 hld2 st1 st2
                simp [Wc_seq, Wc_block, Wc_scope, Wc_skip, Wc_label, Wc_exit, Wc_ret, Wc_loop, Wc_region, Wc_cond, Nx_nil, Nx_seq, Nx_seq_exit, Nx_seq_ret, Nx_block, Nx_block_exit, Nx_block_ret, Rg_nil, Rg_cons, RgE, effA, calleeA, wantedA, enterN, ev, ofV, ofVn, putE, evalN, aBin, aInt_add, aInt_sub, aInt_mul, aInt_quo, aInt_rem, aInt_eql, aInt_neq, aInt_lss, aInt_leq, aInt_gtr, aInt_geq, aExtract, finQ_ret, resOf, extU, extEU, kq_eq, thenQ_normal, thenQ_exit, thenQ_ret, hlt2, hlt2', hix1, hld1, hal1, st1, hix2, hld2, hal2, st2, fa55_0, fa55_1, fa55_3, fa55_4, fa55_5, fa55_6, ld3, ld9, ld53, cell_new hgA2, cell_new hgB, aStr, aNilCheck]
                refine callK_RetH (by simp [fn26]) hints ?_
                simp [Wc_seq, Wc_block, Wc_scope, Wc_skip, Wc_label, Wc_exit, Wc_ret, Wc_loop, Wc_region, Wc_cond, Nx_nil, Nx_seq, Nx_seq_exit, Nx_seq_ret, Nx_block, Nx_block_exit, Nx_block_ret, Rg_nil, Rg_cons, RgE, effA, calleeA, wantedA, enterN, ev, ofV, ofVn, putE, evalN, aBin, aInt_add, aInt_sub, aInt_mul, aInt_quo, aInt_rem, aInt_eql, aInt_neq, aInt_lss, aInt_leq, aInt_gtr, aInt_geq, aExtract, finQ_ret, resOf, extU, extEU, kq_eq, thenQ_normal, thenQ_exit, thenQ_ret, aUn_not', wj]
                exact ⟨m - 1, by omega, by simp, hkh, j + 1, by omega, by simp⟩
              · have hlt2' : ¬ (j : Int) < (T.length : Int) := by omega
                simp [Wc_seq, Wc_block, Wc_scope, Wc_skip, Wc_label, Wc_exit, Wc_ret, Wc_loop, Wc_region, Wc_cond, Nx_nil, Nx_seq, Nx_seq_exit, Nx_seq_ret, Nx_block, Nx_block_exit, Nx_block_ret, Rg_nil, Rg_cons, RgE, effA, calleeA, wantedA, enterN, ev, ofV, ofVn, putE, evalN, aBin, aInt_add, aInt_sub, aInt_mul, aInt_quo, aInt_rem, aInt_eql, aInt_neq, aInt_lss, aInt_leq, aInt_gtr, aInt_geq, aExtract, finQ_ret, resOf, extU, extEU, kq_eq, thenQ_normal, thenQ_exit, thenQ_ret, hlt2, hlt2']
                subst hK
                simp [Wc_seq, Wc_block, Wc_scope, Wc_skip, Wc_label, Wc_exit, Wc_ret, Wc_loop, Wc_region, Wc_cond, Nx_nil, Nx_seq, Nx_seq_exit, Nx_seq_ret, Nx_block, Nx_block_exit, Nx_block_ret, Rg_nil, Rg_cons, RgE, effA, calleeA, wantedA, enterN, ev, ofV, ofVn, putE, evalN, aBin, aInt_add, aInt_sub, aInt_mul, aInt_quo, aInt_rem, aInt_eql, aInt_neq, aInt_lss, aInt_leq, aInt_gtr, aInt_geq, aExtract, finQ_ret, resOf, extU, extEU, kq_eq, thenQ_normal, thenQ_exit, thenQ_ret]
                refine callK_RetH (by simp [fn15]) (speaks_ret W _) ?_
                simp [Wc_seq, Wc_block, Wc_scope, Wc_skip, Wc_label, Wc_exit, Wc_ret, Wc_loop, Wc_region, Wc_cond, Nx_nil, Nx_seq, Nx_seq_exit, Nx_seq_ret, Nx_block, Nx_block_exit, Nx_block_ret, Rg_nil, Rg_cons, RgE, effA, calleeA, wantedA, enterN, ev, ofV, ofVn, putE, evalN, aBin, aInt_add, aInt_sub, aInt_mul, aInt_quo, aInt_rem, aInt_eql, aInt_neq, aInt_lss, aInt_leq, aInt_gtr, aInt_geq, aExtract, finQ_ret, resOf, extU, extEU, kq_eq, thenQ_normal, thenQ_exit, thenQ_ret]
            · simp [Wc_seq, Wc_block, Wc_scope, Wc_skip, Wc_label, Wc_exit, Wc_ret, Wc_loop, Wc_region, Wc_cond, Nx_nil, Nx_seq, Nx_seq_exit, Nx_seq_ret, Nx_block, Nx_block_exit, Nx_block_ret, Rg_nil, Rg_cons, RgE, effA, calleeA, wantedA, enterN, ev, ofV, ofVn, putE, evalN, aBin, aInt_add, aInt_sub, aInt_mul, aInt_quo, aInt_rem, aInt_eql, aInt_neq, aInt_lss, aInt_leq, aInt_gtr, aInt_geq, aExtract, finQ_ret, resOf, extU, extEU, kq_eq, thenQ_normal, thenQ_exit, thenQ_ret, fa39_0, ld26, cell_bx bx.g, aNilCheck, he, hlk, aUn_not']
              refine callK_RetH (by simp [fn15]) (speaks_ret W _) ?_
              subst hK
              simp [Wc_seq, Wc_block, Wc_scope, Wc_skip, Wc_label, Wc_exit, Wc_ret, Wc_loop, Wc_region, Wc_cond, Nx_nil, Nx_seq, Nx_seq_exit, Nx_seq_ret, Nx_block, Nx_block_exit, Nx_block_ret, Rg_nil, Rg_cons, RgE, effA, calleeA, wantedA, enterN, ev, ofV, ofVn, putE, evalN, aBin, aInt_add, aInt_sub, aInt_mul, aInt_quo, aInt_rem, aInt_eql, aInt_neq, aInt_lss, aInt_leq, aInt_gtr, aInt_geq, aExtract, finQ_ret, resOf, extU, extEU, kq_eq, thenQ_normal, thenQ_exit, thenQ_ret]
          · obtain rfl : M = M' := (herr he).symm
            have hr := herrR he
            have bx' := bx
            rw [hr] at bx'
            have hnm := bx'.nm.len0 (W := W) (h2 := h9)
            have hgr := bx'.g
            generalize r.e = e0 at he hgr
            have hbe : (e0 != 0) = true := by simpa using he
            have hbe2 : (e0 == 0) = false := by simpa using he
            rw [Nx_seq, Wc_seq]
            refine hideW fun K hK => ?_
            simp [Wc_seq, Wc_block, Wc_scope, Wc_skip, Wc_label, Wc_exit, Wc_ret, Wc_loop, Wc_region, Wc_cond, Nx_nil, Nx_seq, Nx_seq_exit, Nx_seq_ret, Nx_block, Nx_block_exit, Nx_block_ret, Rg_nil, Rg_cons, RgE, effA, calleeA, wantedA, enterN, ev, ofV, ofVn, putE, evalN, aBin, aInt_add, aInt_sub, aInt_mul, aInt_quo, aInt_rem, aInt_eql, aInt_neq, aInt_lss, aInt_leq, aInt_gtr, aInt_geq, aExtract, finQ_ret, resOf, extU, extEU, kq_eq, thenQ_normal, thenQ_exit, thenQ_ret, fa39_0, fa39_1, fa39_2, fa39_3, fa39_4, fa39_5, ld26, ld3, ld9, ld37, cell_bx hgr, Res.err, aNilCheck, he, hbe, hbe2, aStr, hnm]
            subst hK
            rw [Nx_seq, Wc_seq]
            refine hideW fun K hK => ?_
            simp [Wc_seq, Wc_block, Wc_scope, Wc_skip, Wc_label, Wc_exit, Wc_ret, Wc_loop, Wc_region, Wc_cond, Nx_nil, Nx_seq, Nx_seq_exit, Nx_seq_ret, Nx_block, Nx_block_exit, Nx_block_ret, Rg_nil, Rg_cons, RgE, effA, calleeA, wantedA, enterN, ev, ofV, ofVn, putE, evalN, aBin, aInt_add, aInt_sub, aInt_mul, aInt_quo, aInt_rem, aInt_eql, aInt_neq, aInt_lss, aInt_leq, aInt_gtr, aInt_geq, aExtract, finQ_ret, resOf, extU, extEU, kq_eq, thenQ_normal, thenQ_exit, thenQ_ret, fa39_0, ld26, cell_bx hgr, Res.err, aNilCheck, he, hbe2]
            subst hK
            have hlA := hF1.len (W := W) (h2 := h9)
            have hlB := hF2.len (W := W) (h2 := h9)
            have hn := tree_len hf6 (by omega) (M.nodes.length + 1)
            have hind : ∀ f ∈ treeM M, f.blocks.length < 9223372036854775808 := fun f hf => by
              obtain ⟨_, _, nd, hnd, rfl⟩ := tree_mem _ _ _ f hf
              have := ind_short hm9 (hf6.ok (by omega)) (List.mem_of_getElem? hnd)
              show (indR nd).length < _
              omega
            change (treeM M).length ≤ _ at hn
            generalize treeM M = T at *
            rw [Nx_seq, Wc_seq]
            refine hideW fun K hK => ?_
            simp [Wc_seq, Wc_block, Wc_scope, Wc_skip, Wc_label, Wc_exit, Wc_ret, Wc_loop, Wc_region, Wc_cond, Nx_nil, Nx_seq, Nx_seq_exit, Nx_seq_ret, Nx_block, Nx_block_exit, Nx_block_ret, Rg_nil, Rg_cons, RgE, effA, calleeA, wantedA, enterN, ev, ofV, ofVn, putE, evalN, aBin, aInt_add, aInt_sub, aInt_mul, aInt_quo, aInt_rem, aInt_eql, aInt_neq, aInt_lss, aInt_leq, aInt_gtr, aInt_geq, aExtract, finQ_ret, resOf, extU, extEU, kq_eq, thenQ_normal, thenQ_exit, thenQ_ret, hlA, hlB]
            subst hK
            rw [Nx_seq, Wc_seq]
            refine hideW fun K hK => ?_
            simp [Wc_seq, Wc_block, Wc_scope, Wc_skip, Wc_label, Wc_exit, Wc_ret, Wc_loop, Wc_region, Wc_cond, Nx_nil, Nx_seq, Nx_seq_exit, Nx_seq_ret, Nx_block, Nx_block_exit, Nx_block_ret, Rg_nil, Rg_cons, RgE, effA, calleeA, wantedA, enterN, ev, ofV, ofVn, putE, evalN, aBin, aInt_add, aInt_sub, aInt_mul, aInt_quo, aInt_rem, aInt_eql, aInt_neq, aInt_lss, aInt_leq, aInt_gtr, aInt_geq, aExtract, finQ_ret, resOf, extU, extEU, kq_eq, thenQ_normal, thenQ_exit, thenQ_ret, hlA]
            refine loopN (cc_ok W) (CmpI h9 a11 a15 T.length) T.length ⟨by simp, Keeps.refl _, 0, by simp, by simp⟩ ?_
            rintro m e' h' ⟨hlen', hk, j, hjm, hh⟩
            obtain ⟨a0, a1, a2, a3, a4, a5, a6, a7, a8, a9, rS0, rfl, hS0⟩ := un10 hlen'
            obtain ⟨a10, a11, a12, a13, a14, a15, a16, a17, a18, a19, rS10, rfl, hS10⟩ := un10 hS0
            obtain ⟨a20, a21, a22, a23, a24, a25, a26, a27, a28, a29, rS20, rfl, hS20⟩ := un10 hS10
            obtain ⟨a30, a31, a32, a33, a34, a35, a36, a37, a38, a39, rS30, rfl, hS30⟩ := un10 hS20
            obtain ⟨a40, a41, a42, a43, a44, a45, a46, a47, a48, a49, rS40, rfl, hS40⟩ := un10 hS30
            obtain ⟨a50, a51, a52, a53, a54, a55, a56, a57, a58, a59, rS50, rfl, hS50⟩ := un10 hS40
            obtain ⟨a60, a61, a62, a63, a64, a65, a66, a67, a68, a69, rS60, rfl, hS60⟩ := un10 hS50
            obtain ⟨a70, a71, a72, a73, a74, a75, a76, a77, a78, a79, rS70, rfl, hS70⟩ := un10 hS60
            obtain ⟨a80, a81, a82, a83, a84, a85, a86, a87, a88, a89, rS80, rfl, hS80⟩ := un10 hS70
            obtain ⟨a90, a91, a92, a93, a94, a95, a96, a97, a98, a99, rS90, rfl, hS90⟩ := un10 hS80
            obtain ⟨a100, a101, a102, a103, a104, a105, a106, a107, a108, a109, rS100, rfl, hS100⟩ := un10 hS90
            obtain ⟨a110, a111, a112, a113, a114, a115, a116, a117, a118, a119, rS110, rfl, hS110⟩ := un10 hS100
            obtain ⟨a120, a121, a122, a123, a124, a125, a126, a127, a128, a129, rS120, rfl, hS120⟩ := un10 hS110
            obtain ⟨a130, a131, a132, a133, a134, a135, a136, a137, a138, a139, rS130, rfl, hS130⟩ := un10 hS120
            obtain ⟨a140, a141, a142, a143, a144, a145, a146, a147, a148, a149, rS140, rfl, hS140⟩ := un10 hS130
            obtain ⟨a150, a151, a152, a153, a154, a155, a156, a157, a158, a159, rS150, rfl, hS150⟩ := un10 hS140
            obtain ⟨a160, a161, a162, a163, a164, a165, a166, a167, a168, a169, rS160, rfl, hS160⟩ := un10 hS150
            obtain ⟨a170, a171, a172, a173, a174, a175, a176, a177, a178, a179, rS170, rfl, hS170⟩ := un10 hS160
            obtain ⟨a180, a181, a182, a183, a184, a185, a186, a187, a188, a189, rS180, rfl, hS180⟩ := un10 hS170
            obtain ⟨a190, rS190, rfl, hS190⟩ := un1 hS180
            obtain ⟨a191, rS191, rfl, hS191⟩ := un1 hS190
            obtain ⟨a192, rS192, rfl, hS192⟩ := un1 hS191
            obtain rfl := un0 hS192
            clear hlen' hS0 hS10 hS20 hS30 hS40 hS50 hS60 hS70 hS80 hS90 hS100 hS110 hS120 hS130 hS140 hS150 hS160 hS170 hS180 hS190 hS191 hS192
            simp at hh
            obtain ⟨rfl, rfl, rfl, rfl⟩ := hh
            by_cases hlt2 : j < T.length
            · have hlt2' : (j : Int) < (T.length : Int) := by omega
              have wj : IntKind.i64.wrap ((j : Int) + 1) = (j : Int) + 1 := wrap64 (by omega) (by omega)
              have hx : T[j]? = some T[j] := by simp [hlt2]
              have hbl := hind T[j] (by simp)
              generalize T[j] = f at hx hbl
              obtain ⟨bv1, q1, hix1, hld1, hI1⟩ := fls_at (W := W) (hF1.keeps hk) hx
              have hal1 := alloc_file (W := W) (h := h')
              have hkA := keeps_setN (c := .cells (flC (f, bv1)) 55) (Keeps.push h' (.cells fl0 55)) (Nat.le_refl _)
              have st1 := st_file (W := W) (h := h'.push (.cells fl0 55)) (k := h'.next) (b := flC (f, bv1)) (by simp; rfl) (by rfl) (by rfl) (flC_one hI1.intS)
              have hgA : ((h'.push (.cells fl0 55)).set h'.next (.cells (flC (f, bv1)) 55)).get h'.next = some (.cells (flC (f, bv1)) 55) := by simp
              have hnA : h'.next < ((h'.push (.cells fl0 55)).set h'.next (.cells (flC (f, bv1)) 55)).next := by simp
              generalize (h'.push (.cells fl0 55)).set h'.next (.cells (flC (f, bv1)) 55) = hA at hkA st1 hgA hnA
              change aAlloc _ _ _ = some (_, h'.push (.cells fl0 55)) at hal1
              generalize h'.push (.cells fl0 55) = hA0 at hal1 st1
              generalize h'.next = kA at hal1 st1 hgA hnA
              obtain ⟨bv2, q2, hix2, hld2, hI2⟩ := fls_at (W := W) (hF2.keeps (hk.trans hkA)) hx
              have hal2 := alloc_file (W := W) (h := hA)
              have hkB := keeps_setN (c := .cells (flC (f, bv2)) 55) (Keeps.push hA (.cells fl0 55)) (Nat.le_refl _)
              have st2 := st_file (W := W) (h := hA.push (.cells fl0 55)) (k := hA.next) (b := flC (f, bv2)) (by simp; rfl) (by rfl) (by rfl) (flC_one hI2.intS)
              have hgB : ((hA.push (.cells fl0 55)).set hA.next (.cells (flC (f, bv2)) 55)).get hA.next = some (.cells (flC (f, bv2)) 55) := by simp
              generalize (hA.push (.cells fl0 55)).set hA.next (.cells (flC (f, bv2)) 55) = hB at hkB st2 hgB
              change aAlloc _ _ _ = some (_, hA.push (.cells fl0 55)) at hal2
              generalize hA.push (.cells fl0 55) = hB0 at hal2 st2
              generalize hA.next = kB at hal2 st2 hgB
              have hgA2 := (hkB.2 kA hnA).trans hgA
              have hints := ints_ret W hB bv1 bv2 f.blocks f.blocks (hI1.intS.keeps (hkA.trans hkB)) (hI2.intS.keeps hkB) hbl
              have hkh := hk.trans (hkA.trans hkB)
              simp only [flC] at hgA2 hgB hld1 hld2 st1 st2
              simp [Wc_seq, Wc_block, Wc_scope, Wc_skip, Wc_label, Wc_exit, Wc_ret, Wc_loop, Wc_region, Wc_cond, Nx_nil, Nx_seq, Nx_seq_exit, Nx_seq_ret, Nx_block, Nx_block_exit, Nx_block_ret, Rg_nil, Rg_cons, RgE, effA, calleeA, wantedA, enterN, ev, ofV, ofVn, putE, evalN, aBin, aInt_add, aInt_sub, aInt_mul, aInt_quo, aInt_rem, aInt_eql, aInt_neq, aInt_lss, aInt_leq, aInt_gtr, aInt_geq, aExtract, finQ_ret, resOf, extU, extEU, kq_eq, thenQ_normal, thenQ_exit, thenQ_ret, hlt2, hlt2', hix1, hld1, hal1, st1, hix2, hld2, hal2, st2, fa55_0, fa55_1, fa55_3, fa55_4, fa55_5, fa55_6, ld3, ld9, ld53, cell_new hgA2, cell_new hgB, aStr, aNilCheck]
              refine callK_RetH (by simp [fn26]) hints ?_
              simp [Wc_seq, Wc_block, Wc_scope, Wc_skip, Wc_label, Wc_exit, Wc_ret, Wc_loop, Wc_region, Wc_cond, Nx_nil, Nx_seq, Nx_seq_exit, Nx_seq_ret, Nx_block, Nx_block_exit, Nx_block_ret, Rg_nil, Rg_cons, RgE, effA, calleeA, wantedA, enterN, ev, ofV, ofVn, putE, evalN, aBin, aInt_add, aInt_sub, aInt_mul, aInt_quo, aInt_rem, aInt_eql, aInt_neq, aInt_lss, aInt_leq, aInt_gtr, aInt_geq, aExtract, finQ_ret, resOf, extU, extEU, kq_eq, thenQ_normal, thenQ_exit, thenQ_ret, aUn_not', wj]
              exact ⟨m - 1, by omega, by simp, hkh, j + 1, by omega, by simp⟩
            · have hlt2' : ¬ (j : Int) < (T.length : Int) := by omega
              simp [Wc_seq, Wc_block, Wc_scope, Wc_skip, Wc_label, Wc_exit, Wc_ret, Wc_loop, Wc_region, Wc_cond, Nx_nil, Nx_seq, Nx_seq_exit, Nx_seq_ret, Nx_block, Nx_block_exit, Nx_block_ret, Rg_nil, Rg_cons, RgE, effA, calleeA, wantedA, enterN, ev, ofV, ofVn, putE, evalN, aBin, aInt_add, aInt_sub, aInt_mul, aInt_quo, aInt_rem, aInt_eql, aInt_neq, aInt_lss, aInt_leq, aInt_gtr, aInt_geq, aExtract, finQ_ret, resOf, extU, extEU, kq_eq, thenQ_normal, thenQ_exit, thenQ_ret, hlt2, hlt2']
              subst hK
              simp [Wc_seq, Wc_block, Wc_scope, Wc_skip, Wc_label, Wc_exit, Wc_ret, Wc_loop, Wc_region, Wc_cond, Nx_nil, Nx_seq, Nx_seq_exit, Nx_seq_ret, Nx_block, Nx_block_exit, Nx_block_ret, Rg_nil, Rg_cons, RgE, effA, calleeA, wantedA, enterN, ev, ofV, ofVn, putE, evalN, aBin, aInt_add, aInt_sub, aInt_mul, aInt_quo, aInt_rem, aInt_eql, aInt_neq, aInt_lss, aInt_leq, aInt_gtr, aInt_geq, aExtract, finQ_ret, resOf, extU, extEU, kq_eq, thenQ_normal, thenQ_exit, thenQ_ret]
              refine callK_RetH (by simp [fn15]) (speaks_ret W _) ?_
              simp [Wc_seq, Wc_block, Wc_scope, Wc_skip, Wc_label, Wc_exit, Wc_ret, Wc_loop, Wc_region, Wc_cond, Nx_nil, Nx_seq, Nx_seq_exit, Nx_seq_ret, Nx_block, Nx_block_exit, Nx_block_ret, Rg_nil, Rg_cons, RgE, effA, calleeA, wantedA, enterN, ev, ofV, ofVn, putE, evalN, aBin, aInt_add, aInt_sub, aInt_mul, aInt_quo, aInt_rem, aInt_eql, aInt_neq, aInt_lss, aInt_leq, aInt_gtr, aInt_geq, aExtract, finQ_ret, resOf, extU, extEU, kq_eq, thenQ_normal, thenQ_exit, thenQ_ret]

/-- ModelFails, where its arguments are small. -/
theorem fails_law (W : World) (sv av ov : AV) {n m : Nat} (hs : ∃ a b c : Int, sv = .agg [.int .i64 a, .int .i64 b, .int .i64 c]) (hn : n ≤ 1048576) (h : n < 1000000000 → ∃ l : List Opn, OpsS W av l ∧ l.length ≤ n) (hm : m ≤ 1048576) (h2 : m < 1000000000 → ∃ o : Opn, ov = opV o.kd o.at_ o.n o.p o.t o.d ∧ OpnOk o) :
    ACall (CC W) 5 [sv, av, ov] AH.empty (fun w _ => w = .bool true) (fun _ _ => False) := by
  obtain ⟨l, hv, hl⟩ := h (by omega)
  obtain ⟨o, rfl, ho⟩ := h2 (by omega)
  obtain ⟨a, b, c, rfl⟩ := hs
  exact fails_ret W av l hv a b c o ho (by omega)
end Go.Proofs.YtbofhlifobjolaaGreatDoor.Ax
end
