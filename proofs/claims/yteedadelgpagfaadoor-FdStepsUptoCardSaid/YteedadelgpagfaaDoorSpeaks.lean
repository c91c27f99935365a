/- A new table; the case that each statement asks first; a nil table. -/
import Derived.Test.YteedadelgpagfaaDoorOps2
set_option linter.unusedVariables false
set_option linter.unusedSimpArgs false
namespace Go.Proofs.YteedadelgpagfaaDoor.Ax
open Go.RowKit

def tab0 : List Ent := List.replicate 16 ([], 0)

theorem zero_tab {W : World} : (CC W).zero 62 = some (tcells tab0) := _root_.id rfl
theorem build_tab {W : World} : aBuild (CC W) 62 [] = some (.agg (tcells tab0)) := by
  simp only [aBuild, zero_tab, placeOf, kind62]; rfl

theorem tab0_is {h : AH} : TabIs (h.push (.cells (tcells tab0) 62)) h.next tab0 := by
  refine ⟨by simp, by simp, rfl, fun i x hx => ?_⟩
  have : x ∈ tab0 := List.mem_of_getElem? hx
  have := List.eq_of_mem_replicate this
  subst this
  exact ⟨Int.le_refl 0, show (0 : Int) ≤ 533248 by decide⟩

set_option maxRecDepth 20000 in
theorem new_ret (W : World) (h : AH) : RetQ (CC W) 7 [] h fun w h' => w = .ptr (some (.new h.next 0)) ∧ TabIs h' h.next tab0 := by
  refine acall_fin (cc_ok W) (fn7 W) (by simp only [Tryd.f7]; rfl) rfl rfl ?_
  have hbox : aBox h 62 (.agg (tcells tab0)) = some (.ptr (some (.new h.next 0)), h.push (.cells (tcells tab0) 62)) := by
    simp only [aBox, aCellsOf]
  simp [Wc_seq, Wc_block, Wc_scope, Wc_skip, Wc_label, Wc_exit, Wc_ret, Wc_loop, Wc_region, Wc_cond, Nx_nil, Nx_seq, Nx_seq_exit, Nx_seq_ret, Nx_block, Nx_block_exit, Nx_block_ret, Rg_nil, Rg_cons, RgE, effA, calleeA, wantedA, enterN, ev, ofV, ofVn, putE, evalN, aBin, aInt_add, aInt_sub, aInt_mul, aInt_quo, aInt_rem, aInt_eql, aInt_neq, aInt_lss, aInt_leq, aInt_gtr, aInt_geq, aExtract, finQ_ret, resOf, extU, kq_eq, thenQ_normal, thenQ_exit, thenQ_ret, build_tab, hbox]
  exact ⟨Keeps.push _ _, tab0_is⟩

theorem sp_p : (splitR [47, 97]).2 = 0 := by decide +kernel

/-- What is opened first. -/
theorem open_first {v : AV} {T' : List Ent} (h : OpenQ tab0 [47, 97] v T') : v = .tup [.int .i64 0, .int .i64 0] ∧ T' = tab0.set 0 ([47, 97], 0) := by
  rcases h with ⟨h0, _⟩ | ⟨_, i, x, hi, hx, he, hno, hv, hT⟩ | ⟨_, hno, _⟩
  · exact absurd sp_p h0
  · have : i = 0 := by
      rcases Nat.eq_zero_or_pos i with h | h
      · exact h
      · exact absurd rfl (hno 0 ([], 0) h rfl)
    subst this
    exact ⟨hv, hT⟩
  · exact absurd rfl (hno 0 ([], 0) rfl)

set_option maxHeartbeats 8000000 in
set_option maxRecDepth 20000 in
theorem speaks_ret (W : World) : RetX (CC W) 12 [] (.bool true) := by
  intro h
  refine acall_fin (cc_ok W) (fn12 W) (by simp only [Tryd.f12]; rfl) rfl rfl ?_
  simp [Wc_seq, Wc_block, Wc_scope, Wc_skip, Wc_label, Wc_exit, Wc_ret, Wc_loop, Wc_region, Wc_cond, Nx_nil, Nx_seq, Nx_seq_exit, Nx_seq_ret, Nx_block, Nx_block_exit, Nx_block_ret, Rg_nil, Rg_cons, RgE, effA, calleeA, wantedA, enterN, ev, ofV, ofVn, putE, evalN, aBin, aInt_add, aInt_sub, aInt_mul, aInt_quo, aInt_rem, aInt_eql, aInt_neq, aInt_lss, aInt_leq, aInt_gtr, aInt_geq, aExtract, finQ_ret, resOf, extU, kq_eq, thenQ_normal, thenQ_exit, thenQ_ret]
  refine callK_RetQ (by simp [fn7]) (new_ret W h) fun v h1 hk1 hv => ?_
  obtain ⟨rfl, ht1⟩ := hv
  simp [Wc_seq, Wc_block, Wc_scope, Wc_skip, Wc_label, Wc_exit, Wc_ret, Wc_loop, Wc_region, Wc_cond, Nx_nil, Nx_seq, Nx_seq_exit, Nx_seq_ret, Nx_block, Nx_block_exit, Nx_block_ret, Rg_nil, Rg_cons, RgE, effA, calleeA, wantedA, enterN, ev, ofV, ofVn, putE, evalN, aBin, aInt_add, aInt_sub, aInt_mul, aInt_quo, aInt_rem, aInt_eql, aInt_neq, aInt_lss, aInt_leq, aInt_gtr, aInt_geq, aExtract, finQ_ret, resOf, extU, kq_eq, thenQ_normal, thenQ_exit, thenQ_ret]
  refine callK_RetT (by simp [fn8]) (open_ret W h1 h.next tab0 ht1 [47, 97] (by decide)) fun v h2 T2 hq hk2 ht2 => ?_
  obtain ⟨rfl, rfl⟩ := open_first hq
  simp [Wc_seq, Wc_block, Wc_scope, Wc_skip, Wc_label, Wc_exit, Wc_ret, Wc_loop, Wc_region, Wc_cond, Nx_nil, Nx_seq, Nx_seq_exit, Nx_seq_ret, Nx_block, Nx_block_exit, Nx_block_ret, Rg_nil, Rg_cons, RgE, effA, calleeA, wantedA, enterN, ev, ofV, ofVn, putE, evalN, aBin, aInt_add, aInt_sub, aInt_mul, aInt_quo, aInt_rem, aInt_eql, aInt_neq, aInt_lss, aInt_leq, aInt_gtr, aInt_geq, aExtract, finQ_ret, resOf, extU, kq_eq, thenQ_normal, thenQ_exit, thenQ_ret]
  refine callK_RetT (by simp [fn16]) (moved_ret W h2 h.next _ ht2 0 5) fun v h3 T3 hq hk3 ht3 => ?_
  have e3 : v = .int .i64 0 ∧ T3 = tab0.set 0 ([47, 97], 5) := hq
  obtain ⟨rfl, rfl⟩ := e3
  simp [Wc_seq, Wc_block, Wc_scope, Wc_skip, Wc_label, Wc_exit, Wc_ret, Wc_loop, Wc_region, Wc_cond, Nx_nil, Nx_seq, Nx_seq_exit, Nx_seq_ret, Nx_block, Nx_block_exit, Nx_block_ret, Rg_nil, Rg_cons, RgE, effA, calleeA, wantedA, enterN, ev, ofV, ofVn, putE, evalN, aBin, aInt_add, aInt_sub, aInt_mul, aInt_quo, aInt_rem, aInt_eql, aInt_neq, aInt_lss, aInt_leq, aInt_gtr, aInt_geq, aExtract, finQ_ret, resOf, extU, kq_eq, thenQ_normal, thenQ_exit, thenQ_ret]
  refine callK_RetQ (by simp [fn14]) (next_ret W h3 h.next _ ht3 0 3) fun v h4 hk4 hv => ?_
  have e4 : v = .tup [opV 5 5 3 [47, 97] [], .int .i64 0] := hv
  subst e4
  have ht4 := ht3.keeps hk4
  have hg5 : (h4.push (.cells [.int .i64 0, .int .i64 0, .int .i64 0, .str [], .str [], .str []] 41)).get h4.next = some (.cells [.int .i64 0, .int .i64 0, .int .i64 0, .str [], .str [], .str []] 41) := by simp
  have hst5 := store_op (W := W) (kind := 5) (at' := 5) (n := 3) (p := [47, 97]) (d := []) hg5
  simp [Wc_seq, Wc_block, Wc_scope, Wc_skip, Wc_label, Wc_exit, Wc_ret, Wc_loop, Wc_region, Wc_cond, Nx_nil, Nx_seq, Nx_seq_exit, Nx_seq_ret, Nx_block, Nx_block_exit, Nx_block_ret, Rg_nil, Rg_cons, RgE, effA, calleeA, wantedA, enterN, ev, ofV, ofVn, putE, evalN, aBin, aInt_add, aInt_sub, aInt_mul, aInt_quo, aInt_rem, aInt_eql, aInt_neq, aInt_lss, aInt_leq, aInt_gtr, aInt_geq, aExtract, finQ_ret, resOf, extU, kq_eq, thenQ_normal, thenQ_exit, thenQ_ret, alloc_op, hst5]
  have hlt4 := ht4.1
  have hk5 : Keeps h4 ((h4.push (.cells [.int .i64 0, .int .i64 0, .int .i64 0, .str [], .str [], .str []] 41)).set h4.next (.cells [.int .i64 5, .int .i64 5, .int .i64 3, .str [47, 97], .str [], .str []] 41)) := (Keeps.push _ _).set (Nat.le_refl _) _
  have hg6 : ((h4.push (.cells [.int .i64 0, .int .i64 0, .int .i64 0, .str [], .str [], .str []] 41)).set h4.next (.cells [.int .i64 5, .int .i64 5, .int .i64 3, .str [47, 97], .str [], .str []] 41)).get h4.next = some (.cells [.int .i64 5, .int .i64 5, .int .i64 3, .str [47, 97], .str [], .str []] 41) := by simp
  have hn6 : h4.next < ((h4.push (.cells [.int .i64 0, .int .i64 0, .int .i64 0, .str [], .str [], .str []] 41)).set h4.next (.cells [.int .i64 5, .int .i64 5, .int .i64 3, .str [47, 97], .str [], .str []] 41)).next := by simp
  generalize (h4.push (.cells [.int .i64 0, .int .i64 0, .int .i64 0, .str [], .str [], .str []] 41)).set h4.next (.cells [.int .i64 5, .int .i64 5, .int .i64 3, .str [47, 97], .str [], .str []] 41) = h5 at hk5 hg6 hn6 ⊢
  have ht5 := ht4.keeps hk5
  refine callK_RetT (by simp [fn13]) (seek_ret W h5 h.next _ ht5 0 2 (-1)) fun v h6 T6 hq hk6 ht6 => ?_
  have e6 : v = .tup [.int .i64 1, .int .i64 0] ∧ T6 = tab0.set 0 ([47, 97], 1) := hq
  obtain ⟨rfl, rfl⟩ := e6
  simp [Wc_seq, Wc_block, Wc_scope, Wc_skip, Wc_label, Wc_exit, Wc_ret, Wc_loop, Wc_region, Wc_cond, Nx_nil, Nx_seq, Nx_seq_exit, Nx_seq_ret, Nx_block, Nx_block_exit, Nx_block_ret, Rg_nil, Rg_cons, RgE, effA, calleeA, wantedA, enterN, ev, ofV, ofVn, putE, evalN, aBin, aInt_add, aInt_sub, aInt_mul, aInt_quo, aInt_rem, aInt_eql, aInt_neq, aInt_lss, aInt_leq, aInt_gtr, aInt_geq, aExtract, finQ_ret, resOf, extU, kq_eq, thenQ_normal, thenQ_exit, thenQ_ret]
  refine callK_RetT (by simp [fn10]) (close_ret W h6 h.next _ ht6 0) fun v h7 T7 hq hk7 ht7 => ?_
  have e7 : v = .int .i64 0 ∧ T7 = tab0.set 0 ([], 0) := hq
  obtain ⟨rfl, rfl⟩ := e7
  simp [Wc_seq, Wc_block, Wc_scope, Wc_skip, Wc_label, Wc_exit, Wc_ret, Wc_loop, Wc_region, Wc_cond, Nx_nil, Nx_seq, Nx_seq_exit, Nx_seq_ret, Nx_block, Nx_block_exit, Nx_block_ret, Rg_nil, Rg_cons, RgE, effA, calleeA, wantedA, enterN, ev, ofV, ofVn, putE, evalN, aBin, aInt_add, aInt_sub, aInt_mul, aInt_quo, aInt_rem, aInt_eql, aInt_neq, aInt_lss, aInt_leq, aInt_gtr, aInt_geq, aExtract, finQ_ret, resOf, extU, kq_eq, thenQ_normal, thenQ_exit, thenQ_ret]
  refine callK_RetQ (by simp [fn14]) (next_ret W h7 h.next _ ht7 0 3) fun v h8 hk8 hv => ?_
  have e8 : v = .tup [zeroOp, .int .i64 311] := hv
  subst e8
  have hne : h4.next ≠ h.next := by omega
  have hg7 : h8.get h4.next = some (.cells [.int .i64 5, .int .i64 5, .int .i64 3, .str [47, 97], .str [], .str []] 41) := by
    have l6 : h4.next < h6.next := Nat.lt_of_lt_of_le hn6 hk6.1
    have l7 : h4.next < h7.next := Nat.lt_of_lt_of_le l6 hk7.1
    rw [hk8.2 _ l7, hk7.2 _ l6 hne, hk6.2 _ hn6 hne, hg6]
  have l8 : h4.next < h8.next := Nat.lt_of_lt_of_le (Nat.lt_of_lt_of_le (Nat.lt_of_lt_of_le hn6 hk6.1) hk7.1) hk8.1
  have hg9 : (h8.push (.cells [.int .i64 0, .int .i64 0, .int .i64 0, .str [], .str [], .str []] 41)).get h8.next = some (.cells [.int .i64 0, .int .i64 0, .int .i64 0, .str [], .str [], .str []] 41) := by simp
  have hst9 := store_op (W := W) (kind := 0) (at' := 0) (n := 0) (p := []) (d := []) hg9
  have hg10 : ((h8.push (.cells [.int .i64 0, .int .i64 0, .int .i64 0, .str [], .str [], .str []] 41)).set h8.next (.cells [.int .i64 0, .int .i64 0, .int .i64 0, .str [], .str [], .str []] 41)).get h4.next = some (.cells [.int .i64 5, .int .i64 5, .int .i64 3, .str [47, 97], .str [], .str []] 41) := by
    rw [AH.get_set, if_neg (by omega), AH.get_push, if_neg (by omega), hg7]
  have hl10 := load_op (W := W) hg10
  have hb10 := build_read (W := W) (a := 5) (n := 3) (p := [47, 97])
  have heq : ∀ o1 o2, aEq (CC W) o1 o2 41 (.agg [.int .i64 5, .int .i64 5, .int .i64 3, .str [47, 97], .str [], .str []]) (.agg [.int .i64 5, .int .i64 5, .int .i64 3, .str [47, 97], .str [], .str []]) = some true := fun _ _ => by
    simp [aEq, aEqIn, aEqFs, kind41, aPart, kind3, kind9, size3, size9, AKind.isAgg]
  have hkf : Keeps h ((h8.push (.cells [.int .i64 0, .int .i64 0, .int .i64 0, .str [], .str [], .str []] 41)).set h8.next (.cells [.int .i64 0, .int .i64 0, .int .i64 0, .str [], .str [], .str []] 41)) := by
    have hkb : KeepsBut h.next h1 h8 := ((((hk2.trans hk3).trans hk4.but).trans hk5.but).trans hk6).trans hk7 |>.trans hk8.but
    refine ⟨by simp; have := hkb.1; have := hk1.1; omega, fun j hj => ?_⟩
    have h1n := hk1.1
    have h8n := hkb.1
    rw [AH.get_set, if_neg (by omega), AH.get_push, if_neg (by omega), hkb.2 j (by omega) (by omega), hk1.2 j hj]
  unfold zeroOp
  simp [Wc_seq, Wc_block, Wc_scope, Wc_skip, Wc_label, Wc_exit, Wc_ret, Wc_loop, Wc_region, Wc_cond, Nx_nil, Nx_seq, Nx_seq_exit, Nx_seq_ret, Nx_block, Nx_block_exit, Nx_block_ret, Rg_nil, Rg_cons, RgE, effA, calleeA, wantedA, enterN, ev, ofV, ofVn, putE, evalN, aBin, aInt_add, aInt_sub, aInt_mul, aInt_quo, aInt_rem, aInt_eql, aInt_neq, aInt_lss, aInt_leq, aInt_gtr, aInt_geq, aExtract, finQ_ret, resOf, extU, kq_eq, thenQ_normal, thenQ_exit, thenQ_ret, alloc_op, hst9, hl10, hb10]
  simp [Wc_seq, Wc_block, Wc_scope, Wc_skip, Wc_label, Wc_exit, Wc_ret, Wc_loop, Wc_region, Wc_cond, Nx_nil, Nx_seq, Nx_seq_exit, Nx_seq_ret, Nx_block, Nx_block_exit, Nx_block_ret, Rg_nil, Rg_cons, RgE, effA, calleeA, wantedA, enterN, ev, ofV, ofVn, putE, evalN, aBin, aInt_add, aInt_sub, aInt_mul, aInt_quo, aInt_rem, aInt_eql, aInt_neq, aInt_lss, aInt_leq, aInt_gtr, aInt_geq, aExtract, finQ_ret, resOf, extU, kq_eq, thenQ_normal, thenQ_exit, thenQ_ret, opV, heq, hkf]

set_option maxHeartbeats 8000000 in
set_option maxRecDepth 20000 in
theorem nil_ret (W : World) (p : List UInt8) (hp : p.length < 8796093022207) (n : Int) : RetA (CC W) 6 [.str p, .int .i64 n] (.bool true) := by
  intro h
  refine acall_fin (cc_ok W) (fn6 W) (by simp only [Tryd.f6]; rfl) rfl rfl ?_
  have hsplit : ∀ h1 : AH, RetQ (CC W) 9 [.str p] h1 fun v _ => ∃ sl, v = .tup [sl, .int .i64 (splitR p).2] := fun h1 =>
    ACall.mono (refSplit_ret W p hp h1) (fun v h' hh => ⟨hh.1, by obtain ⟨sl, hv, _⟩ := hh.2; exact ⟨sl, hv⟩⟩) fun _ _ h => h
  have hopen := open_nil W p hp
  generalize (splitR p).2 = bad at hsplit hopen
  simp [Wc_seq, Wc_block, Wc_scope, Wc_skip, Wc_label, Wc_exit, Wc_ret, Wc_loop, Wc_region, Wc_cond, Nx_nil, Nx_seq, Nx_seq_exit, Nx_seq_ret, Nx_block, Nx_block_exit, Nx_block_ret, Rg_nil, Rg_cons, RgE, effA, calleeA, wantedA, enterN, ev, ofV, ofVn, putE, evalN, aBin, aInt_add, aInt_sub, aInt_mul, aInt_quo, aInt_rem, aInt_eql, aInt_neq, aInt_lss, aInt_leq, aInt_gtr, aInt_geq, aExtract, finQ_ret, resOf, extU, kq_eq, thenQ_normal, thenQ_exit, thenQ_ret]
  refine callK_RetX (by simp [fn8]) hopen fun h1 hk1 => ?_
  simp [Wc_seq, Wc_block, Wc_scope, Wc_skip, Wc_label, Wc_exit, Wc_ret, Wc_loop, Wc_region, Wc_cond, Nx_nil, Nx_seq, Nx_seq_exit, Nx_seq_ret, Nx_block, Nx_block_exit, Nx_block_ret, Rg_nil, Rg_cons, RgE, effA, calleeA, wantedA, enterN, ev, ofV, ofVn, putE, evalN, aBin, aInt_add, aInt_sub, aInt_mul, aInt_quo, aInt_rem, aInt_eql, aInt_neq, aInt_lss, aInt_leq, aInt_gtr, aInt_geq, aExtract, finQ_ret, resOf, extU, kq_eq, thenQ_normal, thenQ_exit, thenQ_ret]
  refine callK_RetQ (by simp [fn9]) (hsplit h1) fun v h2 hk2 hv => ?_
  obtain ⟨sl, rfl⟩ := hv
  have hst : ∀ (h : AH), aStoreOp (CC W) (h.push (.cells [.int .i64 0, .int .i64 0, .int .i64 0, .str [], .str [], .str []] 41)) 41 (.ptr (some (.new h.next 0))) zeroOp = some ((h.push (.cells [.int .i64 0, .int .i64 0, .int .i64 0, .str [], .str [], .str []] 41)).set h.next (.cells [.int .i64 0, .int .i64 0, .int .i64 0, .str [], .str [], .str []] 41)) := fun h => store_op (kind := 0) (at' := 0) (n := 0) (p := []) (d := []) (t := 41) (c0 := .int .i64 0) (c1 := .int .i64 0) (c2 := .int .i64 0) (c3 := .str []) (c4 := .str []) (c5 := .str []) (by simp)
  by_cases h0 : bad = 0
  · subst h0
    simp [Wc_seq, Wc_block, Wc_scope, Wc_skip, Wc_label, Wc_exit, Wc_ret, Wc_loop, Wc_region, Wc_cond, Nx_nil, Nx_seq, Nx_seq_exit, Nx_seq_ret, Nx_block, Nx_block_exit, Nx_block_ret, Rg_nil, Rg_cons, RgE, effA, calleeA, wantedA, enterN, ev, ofV, ofVn, putE, evalN, aBin, aInt_add, aInt_sub, aInt_mul, aInt_quo, aInt_rem, aInt_eql, aInt_neq, aInt_lss, aInt_leq, aInt_gtr, aInt_geq, aExtract, finQ_ret, resOf, extU, kq_eq, thenQ_normal, thenQ_exit, thenQ_ret]
    refine callK_Ret (by simp [fn13]) (seek_nil W n n n) ?_
    simp [Wc_seq, Wc_block, Wc_scope, Wc_skip, Wc_label, Wc_exit, Wc_ret, Wc_loop, Wc_region, Wc_cond, Nx_nil, Nx_seq, Nx_seq_exit, Nx_seq_ret, Nx_block, Nx_block_exit, Nx_block_ret, Rg_nil, Rg_cons, RgE, effA, calleeA, wantedA, enterN, ev, ofV, ofVn, putE, evalN, aBin, aInt_add, aInt_sub, aInt_mul, aInt_quo, aInt_rem, aInt_eql, aInt_neq, aInt_lss, aInt_leq, aInt_gtr, aInt_geq, aExtract, finQ_ret, resOf, extU, kq_eq, thenQ_normal, thenQ_exit, thenQ_ret]
    refine callK_RetX (by simp [fn14]) (next_nil W n n) fun h3 hk3 => ?_
    simp [Wc_seq, Wc_block, Wc_scope, Wc_skip, Wc_label, Wc_exit, Wc_ret, Wc_loop, Wc_region, Wc_cond, Nx_nil, Nx_seq, Nx_seq_exit, Nx_seq_ret, Nx_block, Nx_block_exit, Nx_block_ret, Rg_nil, Rg_cons, RgE, effA, calleeA, wantedA, enterN, ev, ofV, ofVn, putE, evalN, aBin, aInt_add, aInt_sub, aInt_mul, aInt_quo, aInt_rem, aInt_eql, aInt_neq, aInt_lss, aInt_leq, aInt_gtr, aInt_geq, aExtract, finQ_ret, resOf, extU, kq_eq, thenQ_normal, thenQ_exit, thenQ_ret, alloc_op, hst]
    refine callK_RetX (by simp [fn15]) (write_nil W n p) fun h4 hk4 => ?_
    simp [Wc_seq, Wc_block, Wc_scope, Wc_skip, Wc_label, Wc_exit, Wc_ret, Wc_loop, Wc_region, Wc_cond, Nx_nil, Nx_seq, Nx_seq_exit, Nx_seq_ret, Nx_block, Nx_block_exit, Nx_block_ret, Rg_nil, Rg_cons, RgE, effA, calleeA, wantedA, enterN, ev, ofV, ofVn, putE, evalN, aBin, aInt_add, aInt_sub, aInt_mul, aInt_quo, aInt_rem, aInt_eql, aInt_neq, aInt_lss, aInt_leq, aInt_gtr, aInt_geq, aExtract, finQ_ret, resOf, extU, kq_eq, thenQ_normal, thenQ_exit, thenQ_ret, alloc_op, hst]
    refine callK_Ret (by simp [fn17]) (at_nil W n) ?_
    simp [Wc_seq, Wc_block, Wc_scope, Wc_skip, Wc_label, Wc_exit, Wc_ret, Wc_loop, Wc_region, Wc_cond, Nx_nil, Nx_seq, Nx_seq_exit, Nx_seq_ret, Nx_block, Nx_block_exit, Nx_block_ret, Rg_nil, Rg_cons, RgE, effA, calleeA, wantedA, enterN, ev, ofV, ofVn, putE, evalN, aBin, aInt_add, aInt_sub, aInt_mul, aInt_quo, aInt_rem, aInt_eql, aInt_neq, aInt_lss, aInt_leq, aInt_gtr, aInt_geq, aExtract, finQ_ret, resOf, extU, kq_eq, thenQ_normal, thenQ_exit, thenQ_ret]
    refine callK_Ret (by simp [fn10]) (close_nil W n) ?_
    simp [Wc_seq, Wc_block, Wc_scope, Wc_skip, Wc_label, Wc_exit, Wc_ret, Wc_loop, Wc_region, Wc_cond, Nx_nil, Nx_seq, Nx_seq_exit, Nx_seq_ret, Nx_block, Nx_block_exit, Nx_block_ret, Rg_nil, Rg_cons, RgE, effA, calleeA, wantedA, enterN, ev, ofV, ofVn, putE, evalN, aBin, aInt_add, aInt_sub, aInt_mul, aInt_quo, aInt_rem, aInt_eql, aInt_neq, aInt_lss, aInt_leq, aInt_gtr, aInt_geq, aExtract, finQ_ret, resOf, extU, kq_eq, thenQ_normal, thenQ_exit, thenQ_ret]
    refine callK_Ret (by simp [fn16]) (moved_nil W n n) ?_
    simp [Wc_seq, Wc_block, Wc_scope, Wc_skip, Wc_label, Wc_exit, Wc_ret, Wc_loop, Wc_region, Wc_cond, Nx_nil, Nx_seq, Nx_seq_exit, Nx_seq_ret, Nx_block, Nx_block_exit, Nx_block_ret, Rg_nil, Rg_cons, RgE, effA, calleeA, wantedA, enterN, ev, ofV, ofVn, putE, evalN, aBin, aInt_add, aInt_sub, aInt_mul, aInt_quo, aInt_rem, aInt_eql, aInt_neq, aInt_lss, aInt_leq, aInt_gtr, aInt_geq, aExtract, finQ_ret, resOf, extU, kq_eq, thenQ_normal, thenQ_exit, thenQ_ret]
    refine callK_Ret (by simp [fn11]) (list_nil W) ?_
    simp [Wc_seq, Wc_block, Wc_scope, Wc_skip, Wc_label, Wc_exit, Wc_ret, Wc_loop, Wc_region, Wc_cond, Nx_nil, Nx_seq, Nx_seq_exit, Nx_seq_ret, Nx_block, Nx_block_exit, Nx_block_ret, Rg_nil, Rg_cons, RgE, effA, calleeA, wantedA, enterN, ev, ofV, ofVn, putE, evalN, aBin, aInt_add, aInt_sub, aInt_mul, aInt_quo, aInt_rem, aInt_eql, aInt_neq, aInt_lss, aInt_leq, aInt_gtr, aInt_geq, aExtract, finQ_ret, resOf, extU, kq_eq, thenQ_normal, thenQ_exit, thenQ_ret, aLen, kind35]
    refine callK_RetX (by simp [fn12]) (speaks_ret W) fun h6 hk6 => ?_
    simp [Wc_seq, Wc_block, Wc_scope, Wc_skip, Wc_label, Wc_exit, Wc_ret, Wc_loop, Wc_region, Wc_cond, Nx_nil, Nx_seq, Nx_seq_exit, Nx_seq_ret, Nx_block, Nx_block_exit, Nx_block_ret, Rg_nil, Rg_cons, RgE, effA, calleeA, wantedA, enterN, ev, ofV, ofVn, putE, evalN, aBin, aInt_add, aInt_sub, aInt_mul, aInt_quo, aInt_rem, aInt_eql, aInt_neq, aInt_lss, aInt_leq, aInt_gtr, aInt_geq, aExtract, finQ_ret, resOf, extU, kq_eq, thenQ_normal, thenQ_exit, thenQ_ret]
  · have b0 : (bad == 0) = false := by rw [beq_eq_false_iff_ne]; exact h0
    rw [if_neg h0]
    simp [Wc_seq, Wc_block, Wc_scope, Wc_skip, Wc_label, Wc_exit, Wc_ret, Wc_loop, Wc_region, Wc_cond, Nx_nil, Nx_seq, Nx_seq_exit, Nx_seq_ret, Nx_block, Nx_block_exit, Nx_block_ret, Rg_nil, Rg_cons, RgE, effA, calleeA, wantedA, enterN, ev, ofV, ofVn, putE, evalN, aBin, aInt_add, aInt_sub, aInt_mul, aInt_quo, aInt_rem, aInt_eql, aInt_neq, aInt_lss, aInt_leq, aInt_gtr, aInt_geq, aExtract, finQ_ret, resOf, extU, kq_eq, thenQ_normal, thenQ_exit, thenQ_ret, b0]
    refine callK_Ret (by simp [fn13]) (seek_nil W n n n) ?_
    simp [Wc_seq, Wc_block, Wc_scope, Wc_skip, Wc_label, Wc_exit, Wc_ret, Wc_loop, Wc_region, Wc_cond, Nx_nil, Nx_seq, Nx_seq_exit, Nx_seq_ret, Nx_block, Nx_block_exit, Nx_block_ret, Rg_nil, Rg_cons, RgE, effA, calleeA, wantedA, enterN, ev, ofV, ofVn, putE, evalN, aBin, aInt_add, aInt_sub, aInt_mul, aInt_quo, aInt_rem, aInt_eql, aInt_neq, aInt_lss, aInt_leq, aInt_gtr, aInt_geq, aExtract, finQ_ret, resOf, extU, kq_eq, thenQ_normal, thenQ_exit, thenQ_ret]
    refine callK_RetX (by simp [fn14]) (next_nil W n n) fun h3 hk3 => ?_
    simp [Wc_seq, Wc_block, Wc_scope, Wc_skip, Wc_label, Wc_exit, Wc_ret, Wc_loop, Wc_region, Wc_cond, Nx_nil, Nx_seq, Nx_seq_exit, Nx_seq_ret, Nx_block, Nx_block_exit, Nx_block_ret, Rg_nil, Rg_cons, RgE, effA, calleeA, wantedA, enterN, ev, ofV, ofVn, putE, evalN, aBin, aInt_add, aInt_sub, aInt_mul, aInt_quo, aInt_rem, aInt_eql, aInt_neq, aInt_lss, aInt_leq, aInt_gtr, aInt_geq, aExtract, finQ_ret, resOf, extU, kq_eq, thenQ_normal, thenQ_exit, thenQ_ret, alloc_op, hst]
    refine callK_RetX (by simp [fn15]) (write_nil W n p) fun h4 hk4 => ?_
    simp [Wc_seq, Wc_block, Wc_scope, Wc_skip, Wc_label, Wc_exit, Wc_ret, Wc_loop, Wc_region, Wc_cond, Nx_nil, Nx_seq, Nx_seq_exit, Nx_seq_ret, Nx_block, Nx_block_exit, Nx_block_ret, Rg_nil, Rg_cons, RgE, effA, calleeA, wantedA, enterN, ev, ofV, ofVn, putE, evalN, aBin, aInt_add, aInt_sub, aInt_mul, aInt_quo, aInt_rem, aInt_eql, aInt_neq, aInt_lss, aInt_leq, aInt_gtr, aInt_geq, aExtract, finQ_ret, resOf, extU, kq_eq, thenQ_normal, thenQ_exit, thenQ_ret, alloc_op, hst]
    refine callK_Ret (by simp [fn17]) (at_nil W n) ?_
    simp [Wc_seq, Wc_block, Wc_scope, Wc_skip, Wc_label, Wc_exit, Wc_ret, Wc_loop, Wc_region, Wc_cond, Nx_nil, Nx_seq, Nx_seq_exit, Nx_seq_ret, Nx_block, Nx_block_exit, Nx_block_ret, Rg_nil, Rg_cons, RgE, effA, calleeA, wantedA, enterN, ev, ofV, ofVn, putE, evalN, aBin, aInt_add, aInt_sub, aInt_mul, aInt_quo, aInt_rem, aInt_eql, aInt_neq, aInt_lss, aInt_leq, aInt_gtr, aInt_geq, aExtract, finQ_ret, resOf, extU, kq_eq, thenQ_normal, thenQ_exit, thenQ_ret]
    refine callK_Ret (by simp [fn10]) (close_nil W n) ?_
    simp [Wc_seq, Wc_block, Wc_scope, Wc_skip, Wc_label, Wc_exit, Wc_ret, Wc_loop, Wc_region, Wc_cond, Nx_nil, Nx_seq, Nx_seq_exit, Nx_seq_ret, Nx_block, Nx_block_exit, Nx_block_ret, Rg_nil, Rg_cons, RgE, effA, calleeA, wantedA, enterN, ev, ofV, ofVn, putE, evalN, aBin, aInt_add, aInt_sub, aInt_mul, aInt_quo, aInt_rem, aInt_eql, aInt_neq, aInt_lss, aInt_leq, aInt_gtr, aInt_geq, aExtract, finQ_ret, resOf, extU, kq_eq, thenQ_normal, thenQ_exit, thenQ_ret]
    refine callK_Ret (by simp [fn16]) (moved_nil W n n) ?_
    simp [Wc_seq, Wc_block, Wc_scope, Wc_skip, Wc_label, Wc_exit, Wc_ret, Wc_loop, Wc_region, Wc_cond, Nx_nil, Nx_seq, Nx_seq_exit, Nx_seq_ret, Nx_block, Nx_block_exit, Nx_block_ret, Rg_nil, Rg_cons, RgE, effA, calleeA, wantedA, enterN, ev, ofV, ofVn, putE, evalN, aBin, aInt_add, aInt_sub, aInt_mul, aInt_quo, aInt_rem, aInt_eql, aInt_neq, aInt_lss, aInt_leq, aInt_gtr, aInt_geq, aExtract, finQ_ret, resOf, extU, kq_eq, thenQ_normal, thenQ_exit, thenQ_ret]
    refine callK_Ret (by simp [fn11]) (list_nil W) ?_
    simp [Wc_seq, Wc_block, Wc_scope, Wc_skip, Wc_label, Wc_exit, Wc_ret, Wc_loop, Wc_region, Wc_cond, Nx_nil, Nx_seq, Nx_seq_exit, Nx_seq_ret, Nx_block, Nx_block_exit, Nx_block_ret, Rg_nil, Rg_cons, RgE, effA, calleeA, wantedA, enterN, ev, ofV, ofVn, putE, evalN, aBin, aInt_add, aInt_sub, aInt_mul, aInt_quo, aInt_rem, aInt_eql, aInt_neq, aInt_lss, aInt_leq, aInt_gtr, aInt_geq, aExtract, finQ_ret, resOf, extU, kq_eq, thenQ_normal, thenQ_exit, thenQ_ret, aLen, kind35]
    refine callK_RetX (by simp [fn12]) (speaks_ret W) fun h6 hk6 => ?_
    simp [Wc_seq, Wc_block, Wc_scope, Wc_skip, Wc_label, Wc_exit, Wc_ret, Wc_loop, Wc_region, Wc_cond, Nx_nil, Nx_seq, Nx_seq_exit, Nx_seq_ret, Nx_block, Nx_block_exit, Nx_block_ret, Rg_nil, Rg_cons, RgE, effA, calleeA, wantedA, enterN, ev, ofV, ofVn, putE, evalN, aBin, aInt_add, aInt_sub, aInt_mul, aInt_quo, aInt_rem, aInt_eql, aInt_neq, aInt_lss, aInt_leq, aInt_gtr, aInt_geq, aExtract, finQ_ret, resOf, extU, kq_eq, thenQ_normal, thenQ_exit, thenQ_ret]
end Go.Proofs.YteedadelgpagfaaDoor.Ax
