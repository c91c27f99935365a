/- What the document's table does: Close, Open. -/
import Derived.Test.YteedadelgpagfaaDoorRefOps
set_option linter.unusedVariables false
set_option linter.unusedSimpArgs false
namespace Go.Proofs.YteedadelgpagfaaDoor.Ax
open Go.RowKit

theorem fcells_append (a b : List Fe) : fcells (a ++ b) = fcells a ++ fcells b := by simp [fcells]
theorem fcells_one (x : Fe) : fcells [x] = x.cells := by simp [fcells]

/-- Descriptors that were appended one by one. -/
def OwnF (h0 h : AH) (v : AV) (l : List Fe) : Prop :=
  Keeps h0 h ∧ (l = [] ∧ v = .sl none 0 0 none ∨ ∃ k, h0.next ≤ k ∧ k < h.next ∧ h.get k = some (.cells (fcells l) 54) ∧ v = .sl (some (.new k 0)) l.length l.length (some 3))

theorem build_f {W : World} {h : AH} {x : Fe} : aBuildSlice (CC W) h 49 1 [(0, .agg x.cells)] = some (.sl (some (.new h.next 0)) 1 1 none, h.push (.cells x.cells 54)) := by
  simp only [aBuildSlice, kind49, size54, zero54]
  rfl

theorem append_f {W : World} {h0 h : AH} {v : AV} {l : List Fe} {x : Fe} (ho : OwnF h0 h v l) (hl : l.length < 1099511627776) :
    ∃ v' h', aAppend (CC W) (h.push (.cells x.cells 54)) #[49, 49] v (.sl (some (.new h.next 0)) 1 1 none) = some (v', h') ∧ OwnF h0 h' v' (l ++ [x]) := by
  obtain ⟨hk, ho⟩ := ho
  have hb : (CC W).bytes 54 = 32 := _root_.id rfl
  have hni : niOK (CC W) #[49, 49] = true := _root_.id rfl
  have hnews : aNews (CC W) (h.push (.cells x.cells 54)) 3 (.sl (some (.new h.next 0)) 1 1 none) = some (1, x.cells) := by
    simp [aNews, aCells, Fe.cells]
  have hone : x.cells.all aOne = true := rfl
  rcases ho with ⟨rfl, rfl⟩ | ⟨k, h1, h2, h3, rfl⟩
  · refine ⟨.sl (some (.new (h.next + 1) 0)) 1 1 (some 3), (h.push (.cells x.cells 54)).push (.cells x.cells 54), ?_, (hk.trans (Keeps.push _ _)).trans (Keeps.push _ _), .inr ⟨h.next + 1, by have := hk.1; omega, by simp, by simp [fcells], by simp⟩⟩
    simp [aAppend, kind49, size54, zero54, hb, hni, hnews]
  · have hne : k ≠ h.next := by omega
    have hfl := fcells_length l
    refine ⟨.sl (some (.new (h.next + 1) 0)) (l.length + 1) (l.length + 1) (some 3), ((h.push (.cells x.cells 54)).kill k).push (.cells (fcells l ++ x.cells) 54), ?_, ⟨?_, fun j hj => ?_⟩, .inr ⟨h.next + 1, by have := hk.1; omega, by simp [AH.next_kill'], by simp [AH.next_kill', fcells_append, fcells_one], by simp⟩⟩
    · have c1 : ¬ l.length + 1 ≤ l.length := by omega
      have c2 : (l.length + 1) * 32 ≤ 140737488355328 := by omega
      have c3 : l.length * 3 = (fcells l).length := by omega
      simp [aAppend, kind49, size54, zero54, hb, hni, hnews, hne, h3, AH.next_kill', c2, c3]
      rw [if_neg c1, if_pos (fun y hy => List.all_eq_true.1 hone y hy)]
    · simp [AH.next_kill']; have := hk.1; omega
    · have := hk.1
      rw [AH.get_push, AH.next_kill', if_neg (by simp; omega), AH.get_kill', if_neg (by omega), AH.get_push, if_neg (by omega)]
      exact hk.2 j hj

theorem append_f' {W : World} {h0 hA h : AH} {v : AV} {l : List Fe} {x : Fe} (hoA : OwnF h0 hA v l) (hkA : Keeps hA h) (hl : l.length < 1099511627776) :
    ∃ v' h', aAppend (CC W) (h.push (.cells x.cells 54)) #[49, 49] v (.sl (some (.new h.next 0)) 1 1 none) = some (v', h') ∧ OwnF h0 h' v' (l ++ [x]) ∧ ∀ j, hA.next ≤ j → j < h.next → h'.get j = h.get j := by
  have hb : (CC W).bytes 54 = 32 := _root_.id rfl
  have hni : niOK (CC W) #[49, 49] = true := _root_.id rfl
  have hnews : aNews (CC W) (h.push (.cells x.cells 54)) 3 (.sl (some (.new h.next 0)) 1 1 none) = some (1, x.cells) := by
    simp [aNews, aCells, Fe.cells]
  have hone : x.cells.all aOne = true := rfl
  obtain ⟨hkk, hoo⟩ := hoA
  have hk := hkk.trans hkA
  rcases hoo with ⟨rfl, rfl⟩ | ⟨k, h1, h2A, h3A, rfl⟩
  · refine ⟨.sl (some (.new (h.next + 1) 0)) 1 1 (some 3), (h.push (.cells x.cells 54)).push (.cells x.cells 54), ?_, ⟨(hk.trans (Keeps.push _ _)).trans (Keeps.push _ _), .inr ⟨h.next + 1, by have := hk.1; omega, by simp, by simp [fcells], by simp⟩⟩, fun j hj1 hj2 => ?_⟩
    · simp [aAppend, kind49, size54, zero54, hb, hni, hnews]
    · rw [AH.get_push, if_neg (by simp; omega), AH.get_push, if_neg (by omega)]
  · have h2 : k < h.next := Nat.lt_of_lt_of_le h2A hkA.1
    have h3 : h.get k = some (.cells (fcells l) 54) := (hkA.2 k h2A).trans h3A
    have hne : k ≠ h.next := by omega
    have hfl := fcells_length l
    refine ⟨.sl (some (.new (h.next + 1) 0)) (l.length + 1) (l.length + 1) (some 3), ((h.push (.cells x.cells 54)).kill k).push (.cells (fcells l ++ x.cells) 54), ?_, ⟨⟨?_, fun j hj => ?_⟩, .inr ⟨h.next + 1, by have := hk.1; omega, by simp [AH.next_kill'], by simp [AH.next_kill', fcells_append, fcells_one], by simp⟩⟩, fun j hj1 hj2 => ?_⟩
    · have c1 : ¬ l.length + 1 ≤ l.length := by omega
      have c2 : (l.length + 1) * 32 ≤ 140737488355328 := by omega
      have c3 : l.length * 3 = (fcells l).length := by omega
      simp [aAppend, kind49, size54, zero54, hb, hni, hnews, hne, h3, AH.next_kill', c2, c3]
      rw [if_neg c1, if_pos (fun y hy => List.all_eq_true.1 hone y hy)]
    · simp [AH.next_kill']; have := hk.1; omega
    · have := hk.1
      rw [AH.get_push, AH.next_kill', if_neg (by simp; omega), AH.get_kill', if_neg (by omega), AH.get_push, if_neg (by omega)]
      exact hk.2 j hj
    · rw [AH.get_push, AH.next_kill', if_neg (by simp; omega), AH.get_kill', if_neg (by omega), AH.get_push, if_neg (by omega)]

theorem OwnF.keeps' {h0 h h' : AH} {v : AV} {l : List Fe} (ho : OwnF h0 h v l) (hk : Keeps h h') : OwnF h0 h' v l := by
  obtain ⟨a, b | ⟨k, c, d, e, f⟩⟩ := ho
  · exact ⟨a.trans hk, .inl b⟩
  · exact ⟨a.trans hk, .inr ⟨k, c, Nat.lt_of_lt_of_le d hk.1, (hk.2 k d).trans e, f⟩⟩

/-- The list that was made is the table's. -/
theorem store_L {W : World} {h0 h : AH} {kw kl : Nat} {v sv : AV} {l : List Fe} (hw : kw < h0.next) (ho : OwnF h0 h v l) (hg : h0.get kw = some (.cells [sv] 51)) :
    aStoreOp (CC W) h 49 (.ptr (some (.new kw 0))) v = some (h.set kw (.cells [v] 51)) ∧ ∃ kl', RefIs (h.set kw (.cells [v] 51)) kw kl' l ∧ KeepsBut2 kw kl h0 (h.set kw (.cells [v] 51)) ∧ (kl' = kl ∨ h0.next ≤ kl') := by
  have hg' : h.get kw = some (.cells [sv] 51) := (ho.1.2 kw hw).trans hg
  have hkb : KeepsBut2 kw kl h0 (h.set kw (.cells [v] 51)) := ⟨by simpa using ho.1.1, fun j hj h1 h2 => by rw [AH.get_set, if_neg h1]; exact ho.1.2 j hj⟩
  have hwn : kw < (h.set kw (.cells [v] 51)).next := by simpa using Nat.lt_of_lt_of_le hw ho.1.1
  obtain ⟨hk, ⟨rfl, rfl⟩ | ⟨k, h1, h2, h3, rfl⟩⟩ := ho
  · refine ⟨?_, kl, ⟨hwn, _, by simp, .inl ⟨rfl, rfl⟩⟩, hkb, .inl rfl⟩
    simp only [aStoreOp, aCellsOf, size49, aStore, hg']
    rfl
  · refine ⟨?_, k, ⟨hwn, _, by simp, .inr ⟨by simpa using h2, by omega, by rw [AH.get_set, if_neg (by omega)]; exact h3, rfl⟩⟩, hkb, .inr h1⟩
    simp only [aStoreOp, aCellsOf, size49, aStore, hg']
    rfl

theorem erase_step {F : List Fe} {i p : Nat} {x : Fe} (hx : F[i]? = some x) : (F.take (i + 1)).eraseIdx p = if i = p then (F.take i).eraseIdx p else (F.take i).eraseIdx p ++ [x] := by
  have hi := (List.getElem?_eq_some_iff.1 hx).1
  have e : F.take (i + 1) = F.take i ++ [x] := by rw [List.take_add_one, hx]; rfl
  have hl : (F.take i).length = i := by simp; omega
  rw [e]
  split
  · rename_i h
    subst h
    rw [List.eraseIdx_of_length_le (l := F.take i) (by omega), List.eraseIdx_append_of_length_le (by omega), hl, Nat.sub_self]
    simp
  · rename_i h
    rcases Nat.lt_or_ge p i with h1 | h1
    · rw [List.eraseIdx_append_of_lt_length (by omega)]
    · rw [List.eraseIdx_append_of_length_le (by omega), List.eraseIdx_of_length_le (l := F.take i) (by omega), hl]
      rw [List.eraseIdx_of_length_le (by simp; omega)]

def RcI (h1 : AH) (kw p : Nat) (F : List Fe) (sv : AV) (m : Nat) (e' : Env) (h' : AH) : Prop :=
  e'.length = 36 ∧ ∃ (i : Nat) (o : AV), i + m = F.length ∧ OwnF h1 h' o ((F.take i).eraseIdx p) ∧ (e'.getD 0 .undef = .ptr (some (.new kw 0)) ∧ e'.getD 5 .undef = .int .i64 p ∧ e'.getD 6 .undef = o ∧ e'.getD 17 .undef = sv ∧ e'.getD 18 .undef = .int .i64 F.length ∧ e'.getD 19 .undef = .int .i64 i)

set_option maxHeartbeats 8000000 in
set_option maxRecDepth 20000 in
theorem refClose_ret (W : World) (h : AH) (kw kl : Nat) (T : List Ent) (hT : T.length = 16) (hr : RefIs h kw kl (files T)) (fd : Int) : RetR (CC W) 26 [.ptr (some (.new kw 0)), .int .i64 fd] h kw kl (CloseQ T fd) := by
  refine acall_fin (cc_ok W) (fn26 W) (by simp only [Tryd.f26]; rfl) rfl rfl ?_
  have hq : CloseQ T fd = fun v T' => match gotT T fd with
    | some (i, _) => v = .int .i64 0 ∧ T' = T.set i ([], 0)
    | none => v = .int .i64 311 ∧ T' = T := rfl
  rw [hq]
  have hfl : (files T).length < 1099511627776 := by
    unfold files; rw [files_length]
    have : nOpen T ≤ T.length := List.countP_le_length
    omega
  simp [Wc_seq, Wc_block, Wc_scope, Wc_skip, Wc_label, Wc_exit, Wc_ret, Wc_loop, Wc_region, Wc_cond, Nx_nil, Nx_seq, Nx_seq_exit, Nx_seq_ret, Nx_block, Nx_block_exit, Nx_block_ret, Rg_nil, Rg_cons, RgE, effA, calleeA, wantedA, enterN, ev, ofV, ofVn, putE, evalN, aBin, aInt_add, aInt_sub, aInt_mul, aInt_quo, aInt_rem, aInt_eql, aInt_neq, aInt_lss, aInt_leq, aInt_gtr, aInt_geq, aExtract, finQ_ret, resOf, extU, kq_eq, thenQ_normal, thenQ_exit, thenQ_ret]
  refine callK_RetQ (by simp [fn19]) (find_ret W kw kl (files T) h hr hfl fd) fun v h1 hk1 hv => ?_
  subst hv
  have hr1 := hr.keeps hk1
  cases hg : gotT T fd with
  | none =>
    rw [files_miss hg hT]
    simp [Wc_seq, Wc_block, Wc_scope, Wc_skip, Wc_label, Wc_exit, Wc_ret, Wc_loop, Wc_region, Wc_cond, Nx_nil, Nx_seq, Nx_seq_exit, Nx_seq_ret, Nx_block, Nx_block_exit, Nx_block_ret, Rg_nil, Rg_cons, RgE, effA, calleeA, wantedA, enterN, ev, ofV, ofVn, putE, evalN, aBin, aInt_add, aInt_sub, aInt_mul, aInt_quo, aInt_rem, aInt_eql, aInt_neq, aInt_lss, aInt_leq, aInt_gtr, aInt_geq, aExtract, finQ_ret, resOf, extU, kq_eq, thenQ_normal, thenQ_exit, thenQ_ret]
    exact ⟨kl, hr1, hk1.but2, .inl rfl⟩
  | some r =>
    obtain ⟨i, x⟩ := r
    obtain ⟨hf, hx⟩ := files_got hg hT
    obtain ⟨rfl, hi, htx, hne⟩ := gotT_some hg
    obtain ⟨a, b, c, d⟩ := ref_some hr1 hx
    have hfc : files (T.set i ([], 0)) = (files T).eraseIdx (nOpen (T.take i)) := by
      unfold files; exact files_close (n := 0) htx (isOpen_of hne) rfl
    have hld := ld_L (W := W) d
    rw [hf]
    generalize nOpen (T.take i) = p at *
    have n0 : ¬ ((p : Nat) : Int) < 0 := by omega
    rw [show files T = files T from rfl] at *
    generalize hF : files T = F at *
    simp [Wc_seq, Wc_block, Wc_scope, Wc_skip, Wc_label, Wc_exit, Wc_ret, Wc_loop, Wc_region, Wc_cond, Nx_nil, Nx_seq, Nx_seq_exit, Nx_seq_ret, Nx_block, Nx_block_exit, Nx_block_ret, Rg_nil, Rg_cons, RgE, effA, calleeA, wantedA, enterN, ev, ofV, ofVn, putE, evalN, aBin, aInt_add, aInt_sub, aInt_mul, aInt_quo, aInt_rem, aInt_eql, aInt_neq, aInt_lss, aInt_leq, aInt_gtr, aInt_geq, aExtract, finQ_ret, resOf, extU, kq_eq, thenQ_normal, thenQ_exit, thenQ_ret, n0, aNilCheck, fa_L, hld, aLen, kind49]
    refine loopN (cc_ok W) (RcI h1 kw p F (.sl (some (.new kl 0)) F.length F.length (some 3))) F.length ⟨by simp, 0, .sl none 0 0 none, by simp, ⟨Keeps.refl _, .inl ⟨by simp, rfl⟩⟩, by simp⟩ ?_
    rintro m e' h' ⟨hlen, q, o, hqm, ho, hh⟩
    match e', hlen with
    | a0 :: a1 :: a2 :: a3 :: a4 :: a5 :: a6 :: a7 :: a8 :: a9 :: a10 :: a11 :: a12 :: a13 :: a14 :: a15 :: a16 :: a17 :: a18 :: a19 :: a20 :: a21 :: a22 :: a23 :: a24 :: a25 :: a26 :: a27 :: a28 :: a29 :: a30 :: a31 :: a32 :: a33 :: a34 :: a35 :: [], _ =>
      simp at hh
      obtain ⟨rfl, rfl, rfl, rfl, rfl, rfl⟩ := hh
      have c' : h'.get kl = some (.cells (fcells F) 54) := (ho.1.2 kl a).trans c
      by_cases hlt : q < F.length
      · have hlt' : (q : Int) < (F.length : Int) := by omega
        have hy : F[q]? = some F[q] := by simp [hlt]
        generalize F[q] = y at hy
        have lf := ld_f (W := W) c' hy
        have wi : IntKind.i64.wrap ((q : Int) + 1) = (q : Int) + 1 := wrap64 (by omega) (by omega)
        have hst := store_f (W := W) (h := h') (x := y)
        have hall := alloc_f (W := W) (h := h')
        have hes := erase_step (p := p) hy
        have ho1 := ho.keeps' (keeps_new (o := .cells [.int .i64 0, .int .i64 0, .str []] 54) (o' := .cells y.cells 54))
        have lfull : aLoad (CC W) ((h'.push (.cells [.int .i64 0, .int .i64 0, .str []] 54)).set h'.next (.cells y.cells 54)) 54 (.new h'.next 0) = some (.agg y.cells) := by
          have := ld_f (W := W) (h := (h'.push (.cells [.int .i64 0, .int .i64 0, .str []] 54)).set h'.next (.cells y.cells 54)) (kl := h'.next) (F := [y]) (i := 0) (x := y) (t := 54) (by rw [fcells_one]; simp) rfl
          simpa using this
        by_cases hqp : q = p
        · subst hqp
          rw [if_pos rfl] at hes
          simp [Wc_seq, Wc_block, Wc_scope, Wc_skip, Wc_label, Wc_exit, Wc_ret, Wc_loop, Wc_region, Wc_cond, Nx_nil, Nx_seq, Nx_seq_exit, Nx_seq_ret, Nx_block, Nx_block_exit, Nx_block_ret, Rg_nil, Rg_cons, RgE, effA, calleeA, wantedA, enterN, ev, ofV, ofVn, putE, evalN, aBin, aInt_add, aInt_sub, aInt_mul, aInt_quo, aInt_rem, aInt_eql, aInt_neq, aInt_lss, aInt_leq, aInt_gtr, aInt_geq, aExtract, finQ_ret, resOf, extU, kq_eq, thenQ_normal, thenQ_exit, thenQ_ret, hlt, hlt', idx_f hlt, lf, hall, hst, wi]
          exact ⟨m - 1, by omega, by simp, q + 1, a6, by omega, by rw [hes]; exact ho1, by simp⟩
        · rw [if_neg hqp] at hes
          have b1 : ((q : Int) != (p : Int)) = true := by rw [bne_iff_ne]; omega
          obtain ⟨v', h2, hap, ho2⟩ := append_f (W := W) (x := y) ho1 (by
            have := List.length_eraseIdx_le (F.take q) p
            simp at this; omega)
          simp [Wc_seq, Wc_block, Wc_scope, Wc_skip, Wc_label, Wc_exit, Wc_ret, Wc_loop, Wc_region, Wc_cond, Nx_nil, Nx_seq, Nx_seq_exit, Nx_seq_ret, Nx_block, Nx_block_exit, Nx_block_ret, Rg_nil, Rg_cons, RgE, effA, calleeA, wantedA, enterN, ev, ofV, ofVn, putE, evalN, aBin, aInt_add, aInt_sub, aInt_mul, aInt_quo, aInt_rem, aInt_eql, aInt_neq, aInt_lss, aInt_leq, aInt_gtr, aInt_geq, aExtract, finQ_ret, resOf, extU, kq_eq, thenQ_normal, thenQ_exit, thenQ_ret, hlt, hlt', idx_f hlt, lf, hall, hst, b1, hqp, lfull, build_f]
          simp at hap
          simp [Wc_seq, Wc_block, Wc_scope, Wc_skip, Wc_label, Wc_exit, Wc_ret, Wc_loop, Wc_region, Wc_cond, Nx_nil, Nx_seq, Nx_seq_exit, Nx_seq_ret, Nx_block, Nx_block_exit, Nx_block_ret, Rg_nil, Rg_cons, RgE, effA, calleeA, wantedA, enterN, ev, ofV, ofVn, putE, evalN, aBin, aInt_add, aInt_sub, aInt_mul, aInt_quo, aInt_rem, aInt_eql, aInt_neq, aInt_lss, aInt_leq, aInt_gtr, aInt_geq, aExtract, finQ_ret, resOf, extU, kq_eq, thenQ_normal, thenQ_exit, thenQ_ret, hap, wi]
          exact ⟨m - 1, by omega, by simp, q + 1, v', by omega, by rw [hes]; exact ho2, by simp⟩
      · have hlt' : ¬ (q : Int) < (F.length : Int) := by omega
        have htk : F.take q = F := List.take_of_length_le (by omega)
        rw [htk] at ho
        obtain ⟨hst, kl', hr', hkb, hkk⟩ := store_L (W := W) (kl := kl) hr1.1 ho d
        simp [Wc_seq, Wc_block, Wc_scope, Wc_skip, Wc_label, Wc_exit, Wc_ret, Wc_loop, Wc_region, Wc_cond, Nx_nil, Nx_seq, Nx_seq_exit, Nx_seq_ret, Nx_block, Nx_block_exit, Nx_block_ret, Rg_nil, Rg_cons, RgE, effA, calleeA, wantedA, enterN, ev, ofV, ofVn, putE, evalN, aBin, aInt_add, aInt_sub, aInt_mul, aInt_quo, aInt_rem, aInt_eql, aInt_neq, aInt_lss, aInt_leq, aInt_gtr, aInt_geq, aExtract, finQ_ret, resOf, extU, kq_eq, thenQ_normal, thenQ_exit, thenQ_ret, hlt, hlt', aNilCheck, fa_L, hst]
        refine ⟨kl', by rw [hfc]; exact hr', ⟨Nat.le_trans hk1.1 hkb.1, fun j hj h1' h2' => (hkb.2 j (Nat.lt_of_lt_of_le hj hk1.1) h1' h2').trans (hk1.2 j hj)⟩, ?_⟩
        rcases hkk with h | h
        · exact .inl h
        · exact .inr (Nat.le_trans hk1.1 h)

theorem filesFrom_append (n : Nat) (A B : List Ent) : filesFrom n (A ++ B) = filesFrom n A ++ filesFrom (n + A.length) B := by
  induction A generalizing n with
  | nil => simp [filesFrom]
  | cons x A ih =>
    have e : n + (x :: A).length = n + 1 + A.length := by simp; omega
    rw [List.cons_append, e]
    simp only [filesFrom, ih]
    split <;> simp
theorem filesFrom_fd {n : Nat} {A : List Ent} {y : Fe} (h : y ∈ filesFrom n A) : (n : Int) ≤ y.fd ∧ y.fd < n + A.length := by
  induction A generalizing n with
  | nil => simp [filesFrom] at h
  | cons x A ih =>
    unfold filesFrom at h
    split at h
    · simp at h
      rcases h with rfl | h
      · simp only [List.length_cons]; omega
      · have := ih h; simp only [List.length_cons]; omega
    · have := ih h; simp only [List.length_cons]; omega

/-- The document's list at a free number. -/
theorem files_free {T : List Ent} {i : Nat} {x : Ent} (hx : T[i]? = some x) (hc : x.1 = []) :
    (∀ (q : Nat) y, q < nOpen (T.take i) → (files T)[q]? = some y → y.fd < i) ∧ (∀ (q : Nat) y, nOpen (T.take i) ≤ q → (files T)[q]? = some y → (i : Int) < y.fd) ∧ nOpen (T.take i) ≤ (files T).length := by
  have hi := (List.getElem?_eq_some_iff.1 hx).1
  have e : T = T.take i ++ x :: T.drop (i + 1) := by
    have h1 := List.take_append_drop i T
    rw [List.drop_eq_getElem_cons hi] at h1
    have : T[i] = x := by rw [List.getElem?_eq_getElem hi] at hx; exact Option.some.inj hx
    rw [this] at h1
    exact h1.symm
  have hl : (T.take i).length = i := by simp; omega
  have hf : files T = filesFrom 0 (T.take i) ++ filesFrom (i + 1) (T.drop (i + 1)) := by
    unfold files
    conv => lhs; rw [e]
    rw [filesFrom_append, hl]
    congr 1
    simp only [filesFrom, notOpen_of hc, Nat.zero_add]
    simp
  have hla : (filesFrom 0 (T.take i)).length = nOpen (T.take i) := files_length 0 _
  rw [hf]
  refine ⟨fun q y hq hy => ?_, fun q y hq hy => ?_, by rw [List.length_append]; omega⟩
  · rw [List.getElem?_append_left (by omega)] at hy
    have := filesFrom_fd (List.mem_of_getElem? hy)
    rw [hl] at this; omega
  · rw [List.getElem?_append_right (by omega)] at hy
    have := filesFrom_fd (List.mem_of_getElem? hy)
    omega

theorem first_free (T : List Ent) : ∀ n : Nat, n ≤ T.length → (∀ (j : Nat) (y : Ent), j < n → T[j]? = some y → y.1 ≠ []) ∨ ∃ (i : Nat) (x : Ent), i < n ∧ T[i]? = some x ∧ x.1 = [] ∧ ∀ (j : Nat) (y : Ent), j < i → T[j]? = some y → y.1 ≠ []
  | 0, _ => .inl fun j y hj => by omega
  | n + 1, hn => by
    rcases first_free T n (by omega) with h | ⟨i, x, h1, h2⟩
    · have hx : T[n]? = some T[n] := by simp [show n < T.length by omega]
      by_cases he : (T[n]).1 = []
      · exact .inr ⟨n, T[n], by omega, hx, he, h⟩
      · refine .inl fun j y hj hy => ?_
        rcases Nat.lt_or_ge j n with h1 | h1
        · exact h j y h1 hy
        · obtain rfl : j = n := by omega
          rw [hx] at hy; simp at hy; subst hy; exact he
    · exact .inr ⟨i, x, by omega, h2⟩

/-- What the loop of Open has made. -/
def outR (F : List Fe) (pos : Nat) (new : Fe) (q : Nat) : List Fe := if q ≤ pos then F.take q else F.take pos ++ new :: (F.take q).drop pos

def RoI1 (h1 : AH) (kw : Nat) (p : List UInt8) (i : Nat) (m : Nat) (e' : Env) (h' : AH) : Prop :=
  Keeps h1 h' ∧ e'.length = 74 ∧ ∃ t : Nat, t + m = i ∧ (e'.getD 0 .undef = .ptr (some (.new kw 0)) ∧ e'.getD 1 .undef = .str p ∧ e'.getD 8 .undef = .int .i64 t)

def RoI2 (h1 : AH) (kw : Nat) (p : List UInt8) (i pos : Nat) (F : List Fe) (sv : AV) (m : Nat) (e' : Env) (h' : AH) : Prop :=
  e'.length = 74 ∧ ∃ (q : Nat) (o : AV), q + m = F.length ∧ OwnF h1 h' o (outR F pos ⟨i, 0, p⟩ q) ∧ (e'.getD 0 .undef = .ptr (some (.new kw 0)) ∧ e'.getD 1 .undef = .str p ∧ e'.getD 8 .undef = .int .i64 i ∧ e'.getD 9 .undef = o ∧ e'.getD 10 .undef = .bool (decide (pos < q)) ∧ e'.getD 36 .undef = sv ∧ e'.getD 37 .undef = .int .i64 F.length ∧ e'.getD 38 .undef = .int .i64 q)

theorem build_fe {W : World} {i : Int} {p : List UInt8} : aBuild (CC W) 54 [(0, .int .i64 i), (2, .str p)] = some (.agg (Fe.cells ⟨i, 0, p⟩)) := by
  simp only [aBuild, zero54, placeOf, kind54]; rfl

theorem out_len {F : List Fe} {pos q : Nat} {new : Fe} (hF : F.length < 1099511627775) : (outR F pos new q).length < 1099511627776 := by
  unfold outR
  split
  · simp; omega
  · simp; omega

set_option maxHeartbeats 16000000 in
set_option maxRecDepth 20000 in
theorem refOpen_ret (W : World) (h : AH) (kw kl : Nat) (T : List Ent) (hT : T.length = 16) (hr : RefIs h kw kl (files T)) (p : List UInt8) (hp : p.length < 8796093022207) : RetR (CC W) 25 [.ptr (some (.new kw 0)), .str p] h kw kl (OpenQ T p) := by
  refine acall_fin (cc_ok W) (fn25 W) (by simp only [Tryd.f25]; rfl) rfl rfl ?_
  have hn16 : nOpen T ≤ 16 := by
    have : nOpen T ≤ T.length := List.countP_le_length
    omega
  have hfl0 : (files T).length = nOpen T := files_length 0 T
  have hsplit : ∀ h0 : AH, RetQ (CC W) 9 [.str p] h0 fun v _ => ∃ sl, v = .tup [sl, .int .i64 (splitR p).2] := fun h0 =>
    ACall.mono (refSplit_ret W p hp h0) (fun v h' hh => ⟨hh.1, by obtain ⟨sl, hv, _⟩ := hh.2; exact ⟨sl, hv⟩⟩) fun _ _ h => h
  have hQ : OpenQ T p = fun v T' =>
    (splitR p).2 ≠ 0 ∧ v = .tup [.int .i64 0, .int .i64 (splitR p).2] ∧ T' = T ∨
    (splitR p).2 = 0 ∧ (∃ (i : Nat) (x : Ent), i < 16 ∧ T[i]? = some x ∧ x.1 = [] ∧ (∀ (j : Nat) (y : Ent), j < i → T[j]? = some y → y.1 ≠ []) ∧ v = .tup [.int .i64 i, .int .i64 0] ∧ T' = T.set i (p, 0)) ∨
    (splitR p).2 = 0 ∧ (∀ (j : Nat) (y : Ent), T[j]? = some y → y.1 ≠ []) ∧ v = .tup [.int .i64 0, .int .i64 5] ∧ T' = T := rfl
  have hpo : (splitR p).2 = 0 → isOpen (p, (0 : Int)) = true := fun e => isOpen_of (splitR_ne e)
  rw [hQ]
  generalize (splitR p).2 = bad at *
  simp [Wc_seq, Wc_block, Wc_scope, Wc_skip, Wc_label, Wc_exit, Wc_ret, Wc_loop, Wc_region, Wc_cond, Nx_nil, Nx_seq, Nx_seq_exit, Nx_seq_ret, Nx_block, Nx_block_exit, Nx_block_ret, Rg_nil, Rg_cons, RgE, effA, calleeA, wantedA, enterN, ev, ofV, ofVn, putE, evalN, aBin, aInt_add, aInt_sub, aInt_mul, aInt_quo, aInt_rem, aInt_eql, aInt_neq, aInt_lss, aInt_leq, aInt_gtr, aInt_geq, aExtract, finQ_ret, resOf, extU, kq_eq, thenQ_normal, thenQ_exit, thenQ_ret]
  refine callK_RetQ (by simp [fn9]) (hsplit h) fun v h1 hk1 hv => ?_
  obtain ⟨sl, rfl⟩ := hv
  have hr1 := hr.keeps hk1
  by_cases hb : bad = 0
  · subst hb
    have hpo := hpo rfl
    obtain ⟨hw1, sv, hgw, hsv⟩ := hr1
    have hld := ld_L (W := W) hgw
    have hlen : aLen (CC W) h1 49 sv = some (.int .i64 (files T).length) := by
      rcases hsv with ⟨e, rfl⟩ | ⟨_, _, _, rfl⟩
      · rw [e]; simp [aLen, kind49]
      · simp [aLen, kind49]
    have hr1 : RefIs h1 kw kl (files T) := ⟨hw1, sv, hgw, hsv⟩
    rcases first_free T 16 (by omega) with hall | ⟨i, x, hi16, htx, hxe, hno⟩
    · have hall' : ∀ (j : Nat) (y : Ent), T[j]? = some y → y.1 ≠ [] := fun j y hy => hall j y (by have := (List.getElem?_eq_some_iff.1 hy).1; omega) hy
      have h16 : (files T).length = 16 := by rw [hfl0, nOpen_all hall', hT]
      rw [h16] at hlen
      simp [Wc_seq, Wc_block, Wc_scope, Wc_skip, Wc_label, Wc_exit, Wc_ret, Wc_loop, Wc_region, Wc_cond, Nx_nil, Nx_seq, Nx_seq_exit, Nx_seq_ret, Nx_block, Nx_block_exit, Nx_block_ret, Rg_nil, Rg_cons, RgE, effA, calleeA, wantedA, enterN, ev, ofV, ofVn, putE, evalN, aBin, aInt_add, aInt_sub, aInt_mul, aInt_quo, aInt_rem, aInt_eql, aInt_neq, aInt_lss, aInt_leq, aInt_gtr, aInt_geq, aExtract, finQ_ret, resOf, extU, kq_eq, thenQ_normal, thenQ_exit, thenQ_ret, aNilCheck, fa_L, hld, hlen]
      exact ⟨T, ⟨fun j a b hy => hall' j (a, b) hy, rfl⟩, kl, hr1, hk1.but2, .inl rfl⟩
    · have hlt16 : (files T).length < 16 := by
        rw [hfl0]
        rcases Nat.lt_or_ge (nOpen T) 16 with h | h
        · exact h
        · exfalso
          have hs := nOpen_set (y := (p, (0 : Int))) htx
          rw [notOpen_of hxe, hpo] at hs
          have : nOpen (T.set i (p, 0)) ≤ (T.set i (p, 0)).length := List.countP_le_length
          simp at this hs
          omega
      obtain ⟨hlow, hhigh, hpl⟩ := files_free htx hxe
      have hfo : files (T.set i (p, 0)) = (files T).take (nOpen (T.take i)) ++ ⟨i, 0, p⟩ :: (files T).drop (nOpen (T.take i)) := by
        have := files_open (n := 0) (y := (p, (0 : Int))) htx (notOpen_of hxe) hpo
        simpa [files] using this
      have hfind : ∀ t : Nat, t ≤ i → findR (files T) t = if t < i then (nOpen (T.take t) : Int) else -1 := by
        intro t ht
        have hf := files_find (n := 0) (i := t) (T := T)
        simp only [Nat.zero_add] at hf
        unfold files
        rw [hf]
        by_cases hti : t < i
        · have hty : T[t]? = some (T[t]'(by omega)) := by simp [show t < T.length by omega]
          rw [hty, if_pos hti]
          simp only
          rw [if_pos (isOpen_of (hno t _ hti hty))]
        · obtain rfl : t = i := by omega
          rw [htx, if_neg hti]
          simp only
          rw [if_neg (by rw [notOpen_of hxe]; decide)]
      generalize nOpen (T.take i) = pos at *
      have hfl : (files T).length < 1099511627776 := by omega
      generalize hF : files T = F at *
      have g1 : ¬ (16 : Int) ≤ (F.length : Int) := by omega
      have g2 : ¬ 16 ≤ F.length := by omega
      simp [Wc_seq, Wc_block, Wc_scope, Wc_skip, Wc_label, Wc_exit, Wc_ret, Wc_loop, Wc_region, Wc_cond, Nx_nil, Nx_seq, Nx_seq_exit, Nx_seq_ret, Nx_block, Nx_block_exit, Nx_block_ret, Rg_nil, Rg_cons, RgE, effA, calleeA, wantedA, enterN, ev, ofV, ofVn, putE, evalN, aBin, aInt_add, aInt_sub, aInt_mul, aInt_quo, aInt_rem, aInt_eql, aInt_neq, aInt_lss, aInt_leq, aInt_gtr, aInt_geq, aExtract, finQ_ret, resOf, extU, kq_eq, thenQ_normal, thenQ_exit, thenQ_ret, aNilCheck, fa_L, hld, hlen, g1, g2]
      refine loopN (cc_ok W) (RoI1 h1 kw p i) i ⟨Keeps.refl _, by simp, 0, by simp, by simp⟩ ?_
      rintro m e' h' ⟨hk, hlen', t, htm, hh⟩
      match e', hlen' with
      | a0 :: a1 :: a2 :: a3 :: a4 :: a5 :: a6 :: a7 :: a8 :: a9 :: a10 :: a11 :: a12 :: a13 :: a14 :: a15 :: a16 :: a17 :: a18 :: a19 :: a20 :: a21 :: a22 :: a23 :: a24 :: a25 :: a26 :: a27 :: a28 :: a29 :: a30 :: a31 :: a32 :: a33 :: a34 :: a35 :: a36 :: a37 :: a38 :: a39 :: a40 :: a41 :: a42 :: a43 :: a44 :: a45 :: a46 :: a47 :: a48 :: a49 :: a50 :: a51 :: a52 :: a53 :: a54 :: a55 :: a56 :: a57 :: a58 :: a59 :: a60 :: a61 :: a62 :: a63 :: a64 :: a65 :: a66 :: a67 :: a68 :: a69 :: a70 :: a71 :: a72 :: a73 :: [], _ =>
        simp at hh
        obtain ⟨rfl, rfl, rfl⟩ := hh
        have hr' := hr1.keeps hk
        have hft := hfind t (by omega)
        simp [Wc_seq, Wc_block, Wc_scope, Wc_skip, Wc_label, Wc_exit, Wc_ret, Wc_loop, Wc_region, Wc_cond, Nx_nil, Nx_seq, Nx_seq_exit, Nx_seq_ret, Nx_block, Nx_block_exit, Nx_block_ret, Rg_nil, Rg_cons, RgE, effA, calleeA, wantedA, enterN, ev, ofV, ofVn, putE, evalN, aBin, aInt_add, aInt_sub, aInt_mul, aInt_quo, aInt_rem, aInt_eql, aInt_neq, aInt_lss, aInt_leq, aInt_gtr, aInt_geq, aExtract, finQ_ret, resOf, extU, kq_eq, thenQ_normal, thenQ_exit, thenQ_ret]
        refine callK_RetQ (by simp [fn19]) (find_ret W kw kl F h' hr' hfl t) fun v h2 hk2 hv => ?_
        subst hv
        rw [hft]
        by_cases hti : t < i
        · rw [if_pos hti]
          generalize nOpen (T.take t) = z
          have z0 : (0 : Int) ≤ (z : Int) := by omega
          have wt : IntKind.i64.wrap ((t : Int) + 1) = (t : Int) + 1 := wrap64 (by omega) (by omega)
          simp [Wc_seq, Wc_block, Wc_scope, Wc_skip, Wc_label, Wc_exit, Wc_ret, Wc_loop, Wc_region, Wc_cond, Nx_nil, Nx_seq, Nx_seq_exit, Nx_seq_ret, Nx_block, Nx_block_exit, Nx_block_ret, Rg_nil, Rg_cons, RgE, effA, calleeA, wantedA, enterN, ev, ofV, ofVn, putE, evalN, aBin, aInt_add, aInt_sub, aInt_mul, aInt_quo, aInt_rem, aInt_eql, aInt_neq, aInt_lss, aInt_leq, aInt_gtr, aInt_geq, aExtract, finQ_ret, resOf, extU, kq_eq, thenQ_normal, thenQ_exit, thenQ_ret, z0, wt]
          exact ⟨m - 1, by omega, hk.trans hk2, by simp, t + 1, by omega, by simp⟩
        · rw [if_neg hti]
          obtain rfl : t = i := by omega
          have hk3 := hk.trans hk2
          have hr3 := hr1.keeps hk3
          have hgw3 : h2.get kw = some (.cells [sv] 51) := (hk3.2 kw hw1).trans hgw
          have hld3 := ld_L (W := W) hgw3
          have hlen3 : aLen (CC W) h2 49 sv = some (.int .i64 F.length) := by
            rcases hsv with ⟨e, rfl⟩ | ⟨_, _, _, rfl⟩
            · rw [e]; simp [aLen, kind49]
            · simp [aLen, kind49]
          simp [Wc_seq, Wc_block, Wc_scope, Wc_skip, Wc_label, Wc_exit, Wc_ret, Wc_loop, Wc_region, Wc_cond, Nx_nil, Nx_seq, Nx_seq_exit, Nx_seq_ret, Nx_block, Nx_block_exit, Nx_block_ret, Rg_nil, Rg_cons, RgE, effA, calleeA, wantedA, enterN, ev, ofV, ofVn, putE, evalN, aBin, aInt_add, aInt_sub, aInt_mul, aInt_quo, aInt_rem, aInt_eql, aInt_neq, aInt_lss, aInt_leq, aInt_gtr, aInt_geq, aExtract, finQ_ret, resOf, extU, kq_eq, thenQ_normal, thenQ_exit, thenQ_ret, aNilCheck, fa_L, hld3, hlen3]
          refine loopN (cc_ok W) (RoI2 h2 kw p t pos F sv) F.length ⟨by simp, 0, .sl none 0 0 none, by simp, ⟨Keeps.refl _, .inl ⟨by simp [outR], rfl⟩⟩, by simp⟩ ?_
          rintro m2 e2 h3 ⟨hlen2, q, o, hqm, ho, hh2⟩
          match e2, hlen2 with
          | a0 :: a1 :: a2 :: a3 :: a4 :: a5 :: a6 :: a7 :: a8 :: a9 :: a10 :: a11 :: a12 :: a13 :: a14 :: a15 :: a16 :: a17 :: a18 :: a19 :: a20 :: a21 :: a22 :: a23 :: a24 :: a25 :: a26 :: a27 :: a28 :: a29 :: a30 :: a31 :: a32 :: a33 :: a34 :: a35 :: a36 :: a37 :: a38 :: a39 :: a40 :: a41 :: a42 :: a43 :: a44 :: a45 :: a46 :: a47 :: a48 :: a49 :: a50 :: a51 :: a52 :: a53 :: a54 :: a55 :: a56 :: a57 :: a58 :: a59 :: a60 :: a61 :: a62 :: a63 :: a64 :: a65 :: a66 :: a67 :: a68 :: a69 :: a70 :: a71 :: a72 :: a73 :: [], _ =>
            simp at hh2
            obtain ⟨rfl, rfl, rfl, rfl, hput, rfl, rfl, rfl⟩ := hh2
            subst hput
            by_cases hlt : q < F.length
            · have hlt' : (q : Int) < (F.length : Int) := by omega
              have hy : F[q]? = some F[q] := by simp [hlt]
              generalize F[q] = y at hy
              obtain ⟨ka, kb, kc, kd⟩ := ref_some hr3 hy
              have hsv2 : a36 = .sl (some (.new kl 0)) F.length F.length (some 3) := by
                rw [hgw3] at kd; simpa using kd
              subst hsv2
              have c' : h3.get kl = some (.cells (fcells F) 54) := (ho.1.2 kl ka).trans kc
              have lf := ld_f (W := W) c' hy
              have wi : IntKind.i64.wrap ((q : Int) + 1) = (q : Int) + 1 := wrap64 (by omega) (by omega)
              have hst := store_f (W := W) (h := h3) (x := y)
              have hall := alloc_f (W := W) (h := h3)
              have hk34 := keeps_new (h := h3) (o := .cells [.int .i64 0, .int .i64 0, .str []] 54) (o' := .cells y.cells 54)
              have ho1 := ho.keeps' hk34
              have lfull : aLoad (CC W) ((h3.push (.cells [.int .i64 0, .int .i64 0, .str []] 54)).set h3.next (.cells y.cells 54)) 54 (.new h3.next 0) = some (.agg y.cells) := by
                have := ld_f (W := W) (h := (h3.push (.cells [.int .i64 0, .int .i64 0, .str []] 54)).set h3.next (.cells y.cells 54)) (kl := h3.next) (F := [y]) (i := 0) (x := y) (t := 54) (by rw [fcells_one]; simp) rfl
                simpa using this
              have l0 : aLoad (CC W) ((h3.push (.cells [.int .i64 0, .int .i64 0, .str []] 54)).set h3.next (.cells y.cells 54)) 3 (.new h3.next 0) = some (.int .i64 y.fd) := by
                rw [ld_int]; simp [aCell, Fe.cells]
              have hlq : h3.next < ((h3.push (.cells [.int .i64 0, .int .i64 0, .str []] 54)).set h3.next (.cells y.cells 54)).next := by simp
              generalize (h3.push (.cells [.int .i64 0, .int .i64 0, .str []] 54)).set h3.next (.cells y.cells 54) = h4 at hst hk34 ho1 lfull l0 hlq
              generalize hjf : h3.next = jf at *
              have hFl : F.length < 1099511627775 := by omega
              rcases Nat.lt_trichotomy q pos with hqp | hqp | hqp
              · have hyl := hlow q y hqp hy
                have d0 : decide (pos < q) = false := by rw [decide_eq_false_iff_not]; omega
                have d1 : decide (pos < q + 1) = false := by rw [decide_eq_false_iff_not]; omega
                have n1 : ¬ (t : Int) < y.fd := by omega
                have hou : outR F pos ⟨t, 0, p⟩ q ++ [y] = outR F pos ⟨t, 0, p⟩ (q + 1) := by
                  unfold outR
                  rw [if_pos (by omega), if_pos (by omega), List.take_add_one, hy]; rfl
                obtain ⟨v', h5, hap, ho2⟩ := append_f (W := W) (x := y) ho1 (out_len hFl)
                rw [hou] at ho2
                rw [d0]
                simp [Wc_seq, Wc_block, Wc_scope, Wc_skip, Wc_label, Wc_exit, Wc_ret, Wc_loop, Wc_region, Wc_cond, Nx_nil, Nx_seq, Nx_seq_exit, Nx_seq_ret, Nx_block, Nx_block_exit, Nx_block_ret, Rg_nil, Rg_cons, RgE, effA, calleeA, wantedA, enterN, ev, ofV, ofVn, putE, evalN, aBin, aInt_add, aInt_sub, aInt_mul, aInt_quo, aInt_rem, aInt_eql, aInt_neq, aInt_lss, aInt_leq, aInt_gtr, aInt_geq, aExtract, finQ_ret, resOf, extU, kq_eq, thenQ_normal, thenQ_exit, thenQ_ret, hlt, hlt', idx_f hlt, lf, hall, hst, aUn, fa_f0, l0, n1, lfull, build_f, hap, wi]
                exact ⟨m2 - 1, by omega, by simp, q + 1, v', by omega, ho2, by simp [d1]⟩
              · subst hqp
                have hyl := hhigh q y (Nat.le_refl _) hy
                have d0 : decide (q < q) = false := by simp
                obtain ⟨v1, h5, hap, ho2, hkp⟩ := append_f' (W := W) (x := ⟨t, 0, p⟩) ho hk34 (out_len hFl)
                have ho2l : (outR F q ⟨t, 0, p⟩ q ++ [(⟨t, 0, p⟩ : Fe)]).length < 1099511627776 := by
                  unfold outR; rw [if_pos (Nat.le_refl _)]; simp; omega
                obtain ⟨v2, h6, hap2, ho3⟩ := append_f (W := W) (x := y) ho2 ho2l
                have hou : outR F q ⟨t, 0, p⟩ q ++ [⟨t, 0, p⟩] ++ [y] = outR F q ⟨t, 0, p⟩ (q + 1) := by
                  unfold outR
                  rw [if_pos (Nat.le_refl _), if_neg (by omega), List.take_add_one, hy]
                  have hlq2 : (F.take q).length = q := by simp; omega
                  rw [List.drop_append_of_le_length (by omega), List.drop_of_length_le (l := F.take q) (by omega)]
                  simp
                rw [hou] at ho3
                have lfull2 : aLoad (CC W) h5 54 (.new jf 0) = some (.agg y.cells) := by
                  unfold aLoad at lfull ⊢
                  rw [ty54] at lfull ⊢
                  simp only [aCells, hkp jf (Nat.le_of_eq hjf) hlq] at lfull ⊢
                  exact lfull
                rw [d0]
                simp [Wc_seq, Wc_block, Wc_scope, Wc_skip, Wc_label, Wc_exit, Wc_ret, Wc_loop, Wc_region, Wc_cond, Nx_nil, Nx_seq, Nx_seq_exit, Nx_seq_ret, Nx_block, Nx_block_exit, Nx_block_ret, Rg_nil, Rg_cons, RgE, effA, calleeA, wantedA, enterN, ev, ofV, ofVn, putE, evalN, aBin, aInt_add, aInt_sub, aInt_mul, aInt_quo, aInt_rem, aInt_eql, aInt_neq, aInt_lss, aInt_leq, aInt_gtr, aInt_geq, aExtract, finQ_ret, resOf, extU, kq_eq, thenQ_normal, thenQ_exit, thenQ_ret, hlt, hlt', idx_f hlt, lf, hall, hst, aUn, fa_f0, l0, hyl, build_fe, build_f, hap, lfull2, hap2, wi]
                exact ⟨m2 - 1, by omega, by simp, q + 1, v2, by omega, ho3, by simp⟩
              · have d0 : decide (pos < q) = true := by rw [decide_eq_true_eq]; omega
                have d1 : decide (pos < q + 1) = true := by rw [decide_eq_true_eq]; omega
                have hou : outR F pos ⟨t, 0, p⟩ q ++ [y] = outR F pos ⟨t, 0, p⟩ (q + 1) := by
                  unfold outR
                  rw [if_neg (by omega), if_neg (by omega), List.take_add_one, hy]
                  have hlq2 : (F.take q).length = q := by simp; omega
                  rw [List.drop_append_of_le_length (by omega)]
                  simp
                obtain ⟨v', h5, hap, ho2⟩ := append_f (W := W) (x := y) ho1 (out_len hFl)
                rw [hou] at ho2
                rw [d0]
                simp [Wc_seq, Wc_block, Wc_scope, Wc_skip, Wc_label, Wc_exit, Wc_ret, Wc_loop, Wc_region, Wc_cond, Nx_nil, Nx_seq, Nx_seq_exit, Nx_seq_ret, Nx_block, Nx_block_exit, Nx_block_ret, Rg_nil, Rg_cons, RgE, effA, calleeA, wantedA, enterN, ev, ofV, ofVn, putE, evalN, aBin, aInt_add, aInt_sub, aInt_mul, aInt_quo, aInt_rem, aInt_eql, aInt_neq, aInt_lss, aInt_leq, aInt_gtr, aInt_geq, aExtract, finQ_ret, resOf, extU, kq_eq, thenQ_normal, thenQ_exit, thenQ_ret, hlt, hlt', idx_f hlt, lf, hall, hst, aUn, lfull, build_f, hap, wi]
                exact ⟨m2 - 1, by omega, by simp, q + 1, v', by omega, ho2, by simp [d1]⟩
            · have hlt' : ¬ (q : Int) < (F.length : Int) := by omega
              have hqe : q = F.length := by omega
              subst hqe
              by_cases hpq : pos < F.length
              · have d0 : decide (pos < F.length) = true := by rw [decide_eq_true_eq]; exact hpq
                have hout : outR F pos ⟨t, 0, p⟩ F.length = files (T.set t (p, 0)) := by
                  rw [hfo]; unfold outR; rw [if_neg (by omega), List.take_length]
                rw [hout] at ho
                obtain ⟨hst, kl', hr', hkb, hkk⟩ := store_L (W := W) (kl := kl) hr3.1 ho hgw3
                rw [d0]
                simp [Wc_seq, Wc_block, Wc_scope, Wc_skip, Wc_label, Wc_exit, Wc_ret, Wc_loop, Wc_region, Wc_cond, Nx_nil, Nx_seq, Nx_seq_exit, Nx_seq_ret, Nx_block, Nx_block_exit, Nx_block_ret, Rg_nil, Rg_cons, RgE, effA, calleeA, wantedA, enterN, ev, ofV, ofVn, putE, evalN, aBin, aInt_add, aInt_sub, aInt_mul, aInt_quo, aInt_rem, aInt_eql, aInt_neq, aInt_lss, aInt_leq, aInt_gtr, aInt_geq, aExtract, finQ_ret, resOf, extU, kq_eq, thenQ_normal, thenQ_exit, thenQ_ret, aUn, aNilCheck, fa_L, hst]
                have hk13 := hk1.trans hk3
                refine ⟨T.set t (p, 0), ⟨t, hi16, x.1, ⟨x.2, htx⟩, hxe, fun j a b hj hy => hno j (a, b) hj hy, rfl, rfl⟩, kl', hr', ⟨Nat.le_trans hk13.1 hkb.1, fun j hj h1' h2' => (hkb.2 j (Nat.lt_of_lt_of_le hj hk13.1) h1' h2').trans (hk13.2 j hj)⟩, ?_⟩
                rcases hkk with h | h
                · exact .inl h
                · exact .inr (Nat.le_trans hk13.1 h)
              · have d0 : decide (pos < F.length) = false := by rw [decide_eq_false_iff_not]; exact hpq
                have hpe : pos = F.length := by omega
                have hou : outR F pos ⟨t, 0, p⟩ F.length ++ [⟨t, 0, p⟩] = files (T.set t (p, 0)) := by
                  rw [hfo, hpe]; unfold outR; rw [if_pos (Nat.le_refl _), List.take_length, List.drop_length]
                obtain ⟨v', h5, hap, ho2⟩ := append_f (W := W) (x := ⟨t, 0, p⟩) ho (out_len (by omega))
                rw [hou] at ho2
                obtain ⟨hst, kl', hr', hkb, hkk⟩ := store_L (W := W) (kl := kl) hr3.1 ho2 hgw3
                rw [d0]
                simp [Wc_seq, Wc_block, Wc_scope, Wc_skip, Wc_label, Wc_exit, Wc_ret, Wc_loop, Wc_region, Wc_cond, Nx_nil, Nx_seq, Nx_seq_exit, Nx_seq_ret, Nx_block, Nx_block_exit, Nx_block_ret, Rg_nil, Rg_cons, RgE, effA, calleeA, wantedA, enterN, ev, ofV, ofVn, putE, evalN, aBin, aInt_add, aInt_sub, aInt_mul, aInt_quo, aInt_rem, aInt_eql, aInt_neq, aInt_lss, aInt_leq, aInt_gtr, aInt_geq, aExtract, finQ_ret, resOf, extU, kq_eq, thenQ_normal, thenQ_exit, thenQ_ret, aUn, build_fe, build_f, hap, aNilCheck, fa_L, hst]
                have hk13 := hk1.trans hk3
                refine ⟨T.set t (p, 0), ⟨t, hi16, x.1, ⟨x.2, htx⟩, hxe, fun j a b hj hy => hno j (a, b) hj hy, rfl, rfl⟩, kl', hr', ⟨Nat.le_trans hk13.1 hkb.1, fun j hj h1' h2' => (hkb.2 j (Nat.lt_of_lt_of_le hj hk13.1) h1' h2').trans (hk13.2 j hj)⟩, ?_⟩
                rcases hkk with h | h
                · exact .inl h
                · exact .inr (Nat.le_trans hk13.1 h)
  · have b1 : (bad != 0) = true := by simp [hb]
    simp [Wc_seq, Wc_block, Wc_scope, Wc_skip, Wc_label, Wc_exit, Wc_ret, Wc_loop, Wc_region, Wc_cond, Nx_nil, Nx_seq, Nx_seq_exit, Nx_seq_ret, Nx_block, Nx_block_exit, Nx_block_ret, Rg_nil, Rg_cons, RgE, effA, calleeA, wantedA, enterN, ev, ofV, ofVn, putE, evalN, aBin, aInt_add, aInt_sub, aInt_mul, aInt_quo, aInt_rem, aInt_eql, aInt_neq, aInt_lss, aInt_leq, aInt_gtr, aInt_geq, aExtract, finQ_ret, resOf, extU, kq_eq, thenQ_normal, thenQ_exit, thenQ_ret, b1, hb]
    exact ⟨kl, hr1, hk1.but2, .inl rfl⟩
end Go.Proofs.YteedadelgpagfaaDoor.Ax
