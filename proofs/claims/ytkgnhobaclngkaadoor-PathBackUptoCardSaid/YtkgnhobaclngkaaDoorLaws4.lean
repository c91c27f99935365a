/- What PathBack gives. -/
import Derived.Test.YtkgnhobaclngkaaDoorLaws
import Derived.Test.YtkgnhobaclngkaaDoorPlain
set_option linter.unusedVariables false
set_option linter.unusedSimpArgs false
namespace Go.Proofs.YtkgnhobaclngkaaDoor.Ax
open Go.RowKit

theorem nine_lt {n : Nat} (h : n ≤ 8) : n < 8796093022207 := Nat.lt_of_le_of_lt h (by decide)

theorem joinR_len {l : List (List UInt8)} (h : ∀ x ∈ l, nameR x = 0) (h8 : l.length ≤ 8) : (joinR l).1.length < 8796093022207 := by
  have := catR_len h
  rw [joinR_ok h, if_neg (Nat.not_lt.2 h8)]
  simp only
  split
  · decide
  · generalize (catR l).length = n at this
    omega

/-- All that PathBack asks of a path. -/
theorem back_path (p : List UInt8) (e0 : (splitR p).2 = 0) (hr : p ≠ [47]) : ∃ up nm, parentR p = (up, nm, 0) ∧ up.length < 8796093022207 ∧ belowR p up = (true, 0) ∧ splitR up = ((splitR p).1.dropLast, 0) ∧ nameR nm = 0 ∧ 1 ≤ (splitR p).1.length := by
  have hl := parent_laws e0 hr
  obtain ⟨h0, h8⟩ := splitR_ok e0
  have hx := last_get (l := (splitR p).1) (fun e => hr ((split_root e0).1 e))
  obtain ⟨x, hx, hg⟩ := hx
  have hpr : parentR p = ((joinR (splitR p).1.dropLast).1, x, 0) := by simp [parentR, e0, hx]
  rw [hpr] at hl
  exact ⟨_, _, hpr, joinR_len (fun y hy => h0 y (List.dropLast_subset _ hy)) (Nat.le_trans (by rw [List.length_dropLast]; exact Nat.sub_le _ _) h8), hl.2.1, hl.2.2.1, hl.2.2.2.1, hl.2.2.2.2⟩

set_option maxHeartbeats 8000000 in
set_option maxRecDepth 20000 in
theorem back_ret (W : World) (h : AH) (p : List UInt8) (hp : p.length < 8796093022207) (vn : AV) (l : List (List UInt8)) (hn : StrS W h vn l) (hln : l.length < 8796093022207) :
    ACall (CC W) 6 [.str p, vn] h (fun v _ => v = .bool true) (fun _ _ => False) := by
  have hback := back_path p
  have hsj := split_join (p := p)
  have hbs := below_self (p := p)
  have hok := fun e => (splitR_ok (p := p) e).2
  have hpr0 := parent_root (p := p)
  have hpar : RetX (CC W) 11 [.str p] (.tup [.str (parentR p).1, .str (parentR p).2.1, .int .i64 (parentR p).2.2]) := parent_ret W p hp
  have hbel : ∀ q : List UInt8, q.length < 8796093022207 → RetX (CC W) 21 [.str p, .str q] (.tup [.bool (belowR p q).1, .int .i64 (belowR p q).2]) := fun q hq => below_ret W p q hp hq
  have hjn : ∀ (h1 : AH) (v : AV), StrS W h1 v l → RetQ (CC W) 17 [v] h1 fun w _ => w = .tup [.str (joinR l).1, .int .i64 (joinR l).2] := fun h1 v hv => join_ret W h1 v l hv hln
  have hjs := join_split (l := l)
  have hje := joinR_err (l := l)
  have hspl : ∀ (h1 : AH), (joinR l).2 = 0 → RetQ (CC W) 9 [.str (joinR l).1] h1 fun v h => ∃ sl, v = .tup [sl, .int .i64 0] ∧ StrS W h sl l := by
    intro h1 e
    have := hjs e
    have hlen := joinR_len this.2.1 this.2.2
    have hr := split_ret W _ hlen h1
    refine hr.mono (fun v h' hh => ⟨hh.1, ?_⟩) fun _ _ h => h
    obtain ⟨sl, hv, hs⟩ := hh.2
    rw [this.1] at hv hs
    exact ⟨sl, hv, hs⟩
  have hsup : ∀ (h1 : AH) up, up.length < 8796093022207 → splitR up = ((splitR p).1.dropLast, 0) → RetQ (CC W) 9 [.str up] h1 fun v h => ∃ sl, v = .tup [sl, .int .i64 0] ∧ StrS W h sl (splitR p).1.dropLast := by
    intro h1 up hlen e
    have hr := split_ret W _ hlen h1
    refine hr.mono (fun v h' hh => ⟨hh.1, ?_⟩) fun _ _ h => h
    obtain ⟨sl, hv, hs⟩ := hh.2
    rw [e] at hv hs
    exact ⟨sl, hv, hs⟩
  have hlj : ∀ h1 v, StrS W h1 v (splitR p).1 → (splitR p).2 = 0 → RetQ (CC W) 17 [v] h1 fun w _ => w = .tup [.str p, .int .i64 0] := by
    intro h1 v hv e
    have := join_ret W h1 v _ hv (nine_lt (hok e))
    rw [hsj e] at this
    exact this
  refine acall_fin (cc_ok W) (fn6 W) (by simp only [Tryd.f6]; rfl) rfl rfl ?_
  simp [Wc_seq, Wc_block, Wc_scope, Wc_skip, Wc_label, Wc_exit, Wc_ret, Wc_loop, Wc_region, Wc_cond, Nx_nil, Nx_seq, Nx_seq_exit, Nx_seq_ret, Nx_block, Nx_block_exit, Nx_block_ret, Rg_nil, Rg_cons, RgE, effA, calleeA, wantedA, enterN, ev, ofV, ofVn, putE, evalN, aBin, aInt_add, aInt_sub, aInt_mul, aInt_quo, aInt_rem, aInt_eql, aInt_neq, aInt_lss, aInt_leq, aInt_gtr, aInt_geq, aExtract, finQ_ret, resOf, extU, kq_eq, thenQ_normal, thenQ_exit, thenQ_ret]
  refine callK_RetQ (by simp [fn9]) (split_ret W p hp h) fun v h1 hk1 hv => ?_
  obtain ⟨sa, rfl, hsa⟩ := hv
  have hn1 := hn.keeps hk1
  generalize splitR p = sp at *
  obtain ⟨ls, es⟩ := sp
  generalize joinR l = jl at *
  obtain ⟨jq, je⟩ := jl
  generalize parentR p = pr at *
  generalize belowR p = br at *
  simp only at hsa hsj hbs hok hback hspl hsup hlj hje hjn
  by_cases e0 : es = 0
  · subst e0
    have hok := hok rfl
    obtain ⟨pa, ca, ga, rfl⟩ := hsa.len
    simp [Wc_seq, Wc_block, Wc_scope, Wc_skip, Wc_label, Wc_exit, Wc_ret, Wc_loop, Wc_region, Wc_cond, Nx_nil, Nx_seq, Nx_seq_exit, Nx_seq_ret, Nx_block, Nx_block_exit, Nx_block_ret, Rg_nil, Rg_cons, RgE, effA, calleeA, wantedA, enterN, ev, ofV, ofVn, putE, evalN, aBin, aInt_add, aInt_sub, aInt_mul, aInt_quo, aInt_rem, aInt_eql, aInt_neq, aInt_lss, aInt_leq, aInt_gtr, aInt_geq, aExtract, finQ_ret, resOf, extU, kq_eq, thenQ_normal, thenQ_exit, thenQ_ret]
    refine callK_RetQ (by simp [fn17]) (hlj h1 _ hsa rfl) fun u h2 hk2 hu => ?_
    subst hu
    have hn2 := hn1.keeps hk2
    simp [Wc_seq, Wc_block, Wc_scope, Wc_skip, Wc_label, Wc_exit, Wc_ret, Wc_loop, Wc_region, Wc_cond, Nx_nil, Nx_seq, Nx_seq_exit, Nx_seq_ret, Nx_block, Nx_block_exit, Nx_block_ret, Rg_nil, Rg_cons, RgE, effA, calleeA, wantedA, enterN, ev, ofV, ofVn, putE, evalN, aBin, aInt_add, aInt_sub, aInt_mul, aInt_quo, aInt_rem, aInt_eql, aInt_neq, aInt_lss, aInt_leq, aInt_gtr, aInt_geq, aExtract, finQ_ret, resOf, extU, kq_eq, thenQ_normal, thenQ_exit, thenQ_ret]
    refine callK_RetX (by simp [fn21]) (hbel p hp) fun h3 hk3 => ?_
    have hn3 := hn2.keeps hk3
    rw [hbs rfl]
    simp [Wc_seq, Wc_block, Wc_scope, Wc_skip, Wc_label, Wc_exit, Wc_ret, Wc_loop, Wc_region, Wc_cond, Nx_nil, Nx_seq, Nx_seq_exit, Nx_seq_ret, Nx_block, Nx_block_exit, Nx_block_ret, Rg_nil, Rg_cons, RgE, effA, calleeA, wantedA, enterN, ev, ofV, ofVn, putE, evalN, aBin, aInt_add, aInt_sub, aInt_mul, aInt_quo, aInt_rem, aInt_eql, aInt_neq, aInt_lss, aInt_leq, aInt_gtr, aInt_geq, aExtract, finQ_ret, resOf, extU, kq_eq, thenQ_normal, thenQ_exit, thenQ_ret, aStr]
    refine callK_RetX (by simp [fn11]) hpar fun h4 hk4 => ?_
    have hn4 := hn3.keeps hk4
    by_cases hr : p = [47]
    · have hpr := hpr0 hr
      obtain ⟨q1, q2, q3⟩ := pr
      simp only at hpr
      subst hpr
      have hb1 : (p == [47]) = true := by rw [beq_iff_eq]; exact hr
      simp [Wc_seq, Wc_block, Wc_scope, Wc_skip, Wc_label, Wc_exit, Wc_ret, Wc_loop, Wc_region, Wc_cond, Nx_nil, Nx_seq, Nx_seq_exit, Nx_seq_ret, Nx_block, Nx_block_exit, Nx_block_ret, Rg_nil, Rg_cons, RgE, effA, calleeA, wantedA, enterN, ev, ofV, ofVn, putE, evalN, aBin, aInt_add, aInt_sub, aInt_mul, aInt_quo, aInt_rem, aInt_eql, aInt_neq, aInt_lss, aInt_leq, aInt_gtr, aInt_geq, aExtract, finQ_ret, resOf, extU, kq_eq, thenQ_normal, thenQ_exit, thenQ_ret, aStr, hb1, aEq, aEq1, isConst, kindEq1, kind4]
      refine callK_RetQ (by simp [fn17]) (hjn h4 vn hn4) fun u g2 gk2 gu => ?_
      subst gu
      have gn2 := hn4.keeps gk2
      by_cases hj : je = 0
      · subst hj
        simp [Wc_seq, Wc_block, Wc_scope, Wc_skip, Wc_label, Wc_exit, Wc_ret, Wc_loop, Wc_region, Wc_cond, Nx_nil, Nx_seq, Nx_seq_exit, Nx_seq_ret, Nx_block, Nx_block_exit, Nx_block_ret, Rg_nil, Rg_cons, RgE, effA, calleeA, wantedA, enterN, ev, ofV, ofVn, putE, evalN, aBin, aInt_add, aInt_sub, aInt_mul, aInt_quo, aInt_rem, aInt_eql, aInt_neq, aInt_lss, aInt_leq, aInt_gtr, aInt_geq, aExtract, finQ_ret, resOf, extU, kq_eq, thenQ_normal, thenQ_exit, thenQ_ret]
        refine callK_RetQ (by simp [fn9]) (hspl g2 rfl) fun u g3 gk3 gu => ?_
        obtain ⟨sb, rfl, gsb⟩ := gu
        simp [Wc_seq, Wc_block, Wc_scope, Wc_skip, Wc_label, Wc_exit, Wc_ret, Wc_loop, Wc_region, Wc_cond, Nx_nil, Nx_seq, Nx_seq_exit, Nx_seq_ret, Nx_block, Nx_block_exit, Nx_block_ret, Rg_nil, Rg_cons, RgE, effA, calleeA, wantedA, enterN, ev, ofV, ofVn, putE, evalN, aBin, aInt_add, aInt_sub, aInt_mul, aInt_quo, aInt_rem, aInt_eql, aInt_neq, aInt_lss, aInt_leq, aInt_gtr, aInt_geq, aExtract, finQ_ret, resOf, extU, kq_eq, thenQ_normal, thenQ_exit, thenQ_ret]
        refine callK_RetH (by simp [fn13]) (texts_ret W g3 sb vn _ _ gsb (gn2.keeps gk3) (Nat.lt_trans hln (by decide))) ?_
        simp [Wc_seq, Wc_block, Wc_scope, Wc_skip, Wc_label, Wc_exit, Wc_ret, Wc_loop, Wc_region, Wc_cond, Nx_nil, Nx_seq, Nx_seq_exit, Nx_seq_ret, Nx_block, Nx_block_exit, Nx_block_ret, Rg_nil, Rg_cons, RgE, effA, calleeA, wantedA, enterN, ev, ofV, ofVn, putE, evalN, aBin, aInt_add, aInt_sub, aInt_mul, aInt_quo, aInt_rem, aInt_eql, aInt_neq, aInt_lss, aInt_leq, aInt_gtr, aInt_geq, aExtract, finQ_ret, resOf, extU, kq_eq, thenQ_normal, thenQ_exit, thenQ_ret]
        refine callK_RetX (by simp [fn16]) (speaks_ret W) fun g6 gk6 => ?_
        simp [Wc_seq, Wc_block, Wc_scope, Wc_skip, Wc_label, Wc_exit, Wc_ret, Wc_loop, Wc_region, Wc_cond, Nx_nil, Nx_seq, Nx_seq_exit, Nx_seq_ret, Nx_block, Nx_block_exit, Nx_block_ret, Rg_nil, Rg_cons, RgE, effA, calleeA, wantedA, enterN, ev, ofV, ofVn, putE, evalN, aBin, aInt_add, aInt_sub, aInt_mul, aInt_quo, aInt_rem, aInt_eql, aInt_neq, aInt_lss, aInt_leq, aInt_gtr, aInt_geq, aExtract, finQ_ret, resOf, extU, kq_eq, thenQ_normal, thenQ_exit, thenQ_ret]
      · have hne2 : (je != 0) = true := by simp [hj]
        have hjq := hje hj
        subst hjq
        simp [Wc_seq, Wc_block, Wc_scope, Wc_skip, Wc_label, Wc_exit, Wc_ret, Wc_loop, Wc_region, Wc_cond, Nx_nil, Nx_seq, Nx_seq_exit, Nx_seq_ret, Nx_block, Nx_block_exit, Nx_block_ret, Rg_nil, Rg_cons, RgE, effA, calleeA, wantedA, enterN, ev, ofV, ofVn, putE, evalN, aBin, aInt_add, aInt_sub, aInt_mul, aInt_quo, aInt_rem, aInt_eql, aInt_neq, aInt_lss, aInt_leq, aInt_gtr, aInt_geq, aExtract, finQ_ret, resOf, extU, kq_eq, thenQ_normal, thenQ_exit, thenQ_ret, hne2, aStr]
        refine callK_RetX (by simp [fn16]) (speaks_ret W) fun g6 gk6 => ?_
        simp [Wc_seq, Wc_block, Wc_scope, Wc_skip, Wc_label, Wc_exit, Wc_ret, Wc_loop, Wc_region, Wc_cond, Nx_nil, Nx_seq, Nx_seq_exit, Nx_seq_ret, Nx_block, Nx_block_exit, Nx_block_ret, Rg_nil, Rg_cons, RgE, effA, calleeA, wantedA, enterN, ev, ofV, ofVn, putE, evalN, aBin, aInt_add, aInt_sub, aInt_mul, aInt_quo, aInt_rem, aInt_eql, aInt_neq, aInt_lss, aInt_leq, aInt_gtr, aInt_geq, aExtract, finQ_ret, resOf, extU, kq_eq, thenQ_normal, thenQ_exit, thenQ_ret]
    · have hb1 : (p == [47]) = false := by rw [beq_eq_false_iff_ne]; exact hr
      obtain ⟨up, nm, hpr, hlu, hbu, hsu, hnm, hpos⟩ := hback rfl hr
      subst hpr
      simp [Wc_seq, Wc_block, Wc_scope, Wc_skip, Wc_label, Wc_exit, Wc_ret, Wc_loop, Wc_region, Wc_cond, Nx_nil, Nx_seq, Nx_seq_exit, Nx_seq_ret, Nx_block, Nx_block_exit, Nx_block_ret, Rg_nil, Rg_cons, RgE, effA, calleeA, wantedA, enterN, ev, ofV, ofVn, putE, evalN, aBin, aInt_add, aInt_sub, aInt_mul, aInt_quo, aInt_rem, aInt_eql, aInt_neq, aInt_lss, aInt_leq, aInt_gtr, aInt_geq, aExtract, finQ_ret, resOf, extU, kq_eq, thenQ_normal, thenQ_exit, thenQ_ret, aStr, hb1, aEq, aEq1, isConst, kindEq1, kind4]
      refine callK_RetX (by simp [fn21]) (hbel up hlu) fun h5 hk5 => ?_
      have hn5 := hn4.keeps hk5
      rw [hbu]
      simp [Wc_seq, Wc_block, Wc_scope, Wc_skip, Wc_label, Wc_exit, Wc_ret, Wc_loop, Wc_region, Wc_cond, Nx_nil, Nx_seq, Nx_seq_exit, Nx_seq_ret, Nx_block, Nx_block_exit, Nx_block_ret, Rg_nil, Rg_cons, RgE, effA, calleeA, wantedA, enterN, ev, ofV, ofVn, putE, evalN, aBin, aInt_add, aInt_sub, aInt_mul, aInt_quo, aInt_rem, aInt_eql, aInt_neq, aInt_lss, aInt_leq, aInt_gtr, aInt_geq, aExtract, finQ_ret, resOf, extU, kq_eq, thenQ_normal, thenQ_exit, thenQ_ret]
      refine callK_RetQ (by simp [fn9]) (hsup h5 up hlu hsu) fun u h6 hk6 hu => ?_
      have hn6 := hn5.keeps hk6
      obtain ⟨sb, rfl, hsb⟩ := hu
      obtain ⟨pb, cb, gb, rfl⟩ := hsb.len
      have w1 : IntKind.i64.wrap ((ls.length : Int) - 1) = ((ls.length - 1 : Nat) : Int) := by rw [wrap64 (by omega) (by omega)]; omega
      simp [Wc_seq, Wc_block, Wc_scope, Wc_skip, Wc_label, Wc_exit, Wc_ret, Wc_loop, Wc_region, Wc_cond, Nx_nil, Nx_seq, Nx_seq_exit, Nx_seq_ret, Nx_block, Nx_block_exit, Nx_block_ret, Rg_nil, Rg_cons, RgE, effA, calleeA, wantedA, enterN, ev, ofV, ofVn, putE, evalN, aBin, aInt_add, aInt_sub, aInt_mul, aInt_quo, aInt_rem, aInt_eql, aInt_neq, aInt_lss, aInt_leq, aInt_gtr, aInt_geq, aExtract, finQ_ret, resOf, extU, kq_eq, thenQ_normal, thenQ_exit, thenQ_ret, aUn, aLen, kind22, w1]
      refine callK_RetX (by simp [fn14]) (name_ret W nm) fun h7 hk7 => ?_
      have hn7 := hn6.keeps hk7
      rw [hnm]
      simp [Wc_seq, Wc_block, Wc_scope, Wc_skip, Wc_label, Wc_exit, Wc_ret, Wc_loop, Wc_region, Wc_cond, Nx_nil, Nx_seq, Nx_seq_exit, Nx_seq_ret, Nx_block, Nx_block_exit, Nx_block_ret, Rg_nil, Rg_cons, RgE, effA, calleeA, wantedA, enterN, ev, ofV, ofVn, putE, evalN, aBin, aInt_add, aInt_sub, aInt_mul, aInt_quo, aInt_rem, aInt_eql, aInt_neq, aInt_lss, aInt_leq, aInt_gtr, aInt_geq, aExtract, finQ_ret, resOf, extU, kq_eq, thenQ_normal, thenQ_exit, thenQ_ret]
      refine callK_RetQ (by simp [fn17]) (hjn h7 vn hn7) fun u g2 gk2 gu => ?_
      subst gu
      have gn2 := hn7.keeps gk2
      by_cases hj : je = 0
      · subst hj
        simp [Wc_seq, Wc_block, Wc_scope, Wc_skip, Wc_label, Wc_exit, Wc_ret, Wc_loop, Wc_region, Wc_cond, Nx_nil, Nx_seq, Nx_seq_exit, Nx_seq_ret, Nx_block, Nx_block_exit, Nx_block_ret, Rg_nil, Rg_cons, RgE, effA, calleeA, wantedA, enterN, ev, ofV, ofVn, putE, evalN, aBin, aInt_add, aInt_sub, aInt_mul, aInt_quo, aInt_rem, aInt_eql, aInt_neq, aInt_lss, aInt_leq, aInt_gtr, aInt_geq, aExtract, finQ_ret, resOf, extU, kq_eq, thenQ_normal, thenQ_exit, thenQ_ret]
        refine callK_RetQ (by simp [fn9]) (hspl g2 rfl) fun u g3 gk3 gu => ?_
        obtain ⟨sb, rfl, gsb⟩ := gu
        simp [Wc_seq, Wc_block, Wc_scope, Wc_skip, Wc_label, Wc_exit, Wc_ret, Wc_loop, Wc_region, Wc_cond, Nx_nil, Nx_seq, Nx_seq_exit, Nx_seq_ret, Nx_block, Nx_block_exit, Nx_block_ret, Rg_nil, Rg_cons, RgE, effA, calleeA, wantedA, enterN, ev, ofV, ofVn, putE, evalN, aBin, aInt_add, aInt_sub, aInt_mul, aInt_quo, aInt_rem, aInt_eql, aInt_neq, aInt_lss, aInt_leq, aInt_gtr, aInt_geq, aExtract, finQ_ret, resOf, extU, kq_eq, thenQ_normal, thenQ_exit, thenQ_ret]
        refine callK_RetH (by simp [fn13]) (texts_ret W g3 sb vn _ _ gsb (gn2.keeps gk3) (Nat.lt_trans hln (by decide))) ?_
        simp [Wc_seq, Wc_block, Wc_scope, Wc_skip, Wc_label, Wc_exit, Wc_ret, Wc_loop, Wc_region, Wc_cond, Nx_nil, Nx_seq, Nx_seq_exit, Nx_seq_ret, Nx_block, Nx_block_exit, Nx_block_ret, Rg_nil, Rg_cons, RgE, effA, calleeA, wantedA, enterN, ev, ofV, ofVn, putE, evalN, aBin, aInt_add, aInt_sub, aInt_mul, aInt_quo, aInt_rem, aInt_eql, aInt_neq, aInt_lss, aInt_leq, aInt_gtr, aInt_geq, aExtract, finQ_ret, resOf, extU, kq_eq, thenQ_normal, thenQ_exit, thenQ_ret]
        refine callK_RetX (by simp [fn16]) (speaks_ret W) fun g6 gk6 => ?_
        simp [Wc_seq, Wc_block, Wc_scope, Wc_skip, Wc_label, Wc_exit, Wc_ret, Wc_loop, Wc_region, Wc_cond, Nx_nil, Nx_seq, Nx_seq_exit, Nx_seq_ret, Nx_block, Nx_block_exit, Nx_block_ret, Rg_nil, Rg_cons, RgE, effA, calleeA, wantedA, enterN, ev, ofV, ofVn, putE, evalN, aBin, aInt_add, aInt_sub, aInt_mul, aInt_quo, aInt_rem, aInt_eql, aInt_neq, aInt_lss, aInt_leq, aInt_gtr, aInt_geq, aExtract, finQ_ret, resOf, extU, kq_eq, thenQ_normal, thenQ_exit, thenQ_ret]
      · have hne2 : (je != 0) = true := by simp [hj]
        have hjq := hje hj
        subst hjq
        simp [Wc_seq, Wc_block, Wc_scope, Wc_skip, Wc_label, Wc_exit, Wc_ret, Wc_loop, Wc_region, Wc_cond, Nx_nil, Nx_seq, Nx_seq_exit, Nx_seq_ret, Nx_block, Nx_block_exit, Nx_block_ret, Rg_nil, Rg_cons, RgE, effA, calleeA, wantedA, enterN, ev, ofV, ofVn, putE, evalN, aBin, aInt_add, aInt_sub, aInt_mul, aInt_quo, aInt_rem, aInt_eql, aInt_neq, aInt_lss, aInt_leq, aInt_gtr, aInt_geq, aExtract, finQ_ret, resOf, extU, kq_eq, thenQ_normal, thenQ_exit, thenQ_ret, hne2, aStr]
        refine callK_RetX (by simp [fn16]) (speaks_ret W) fun g6 gk6 => ?_
        simp [Wc_seq, Wc_block, Wc_scope, Wc_skip, Wc_label, Wc_exit, Wc_ret, Wc_loop, Wc_region, Wc_cond, Nx_nil, Nx_seq, Nx_seq_exit, Nx_seq_ret, Nx_block, Nx_block_exit, Nx_block_ret, Rg_nil, Rg_cons, RgE, effA, calleeA, wantedA, enterN, ev, ofV, ofVn, putE, evalN, aBin, aInt_add, aInt_sub, aInt_mul, aInt_quo, aInt_rem, aInt_eql, aInt_neq, aInt_lss, aInt_leq, aInt_gtr, aInt_geq, aExtract, finQ_ret, resOf, extU, kq_eq, thenQ_normal, thenQ_exit, thenQ_ret]
  · have hne : (es == 0) = false := by simp [e0]
    simp [Wc_seq, Wc_block, Wc_scope, Wc_skip, Wc_label, Wc_exit, Wc_ret, Wc_loop, Wc_region, Wc_cond, Nx_nil, Nx_seq, Nx_seq_exit, Nx_seq_ret, Nx_block, Nx_block_exit, Nx_block_ret, Rg_nil, Rg_cons, RgE, effA, calleeA, wantedA, enterN, ev, ofV, ofVn, putE, evalN, aBin, aInt_add, aInt_sub, aInt_mul, aInt_quo, aInt_rem, aInt_eql, aInt_neq, aInt_lss, aInt_leq, aInt_gtr, aInt_geq, aExtract, finQ_ret, resOf, extU, kq_eq, thenQ_normal, thenQ_exit, thenQ_ret, hne]
    refine callK_RetQ (by simp [fn17]) (hjn h1 vn hn1) fun u g2 gk2 gu => ?_
    subst gu
    have gn2 := hn1.keeps gk2
    by_cases hj : je = 0
    · subst hj
      simp [Wc_seq, Wc_block, Wc_scope, Wc_skip, Wc_label, Wc_exit, Wc_ret, Wc_loop, Wc_region, Wc_cond, Nx_nil, Nx_seq, Nx_seq_exit, Nx_seq_ret, Nx_block, Nx_block_exit, Nx_block_ret, Rg_nil, Rg_cons, RgE, effA, calleeA, wantedA, enterN, ev, ofV, ofVn, putE, evalN, aBin, aInt_add, aInt_sub, aInt_mul, aInt_quo, aInt_rem, aInt_eql, aInt_neq, aInt_lss, aInt_leq, aInt_gtr, aInt_geq, aExtract, finQ_ret, resOf, extU, kq_eq, thenQ_normal, thenQ_exit, thenQ_ret]
      refine callK_RetQ (by simp [fn9]) (hspl g2 rfl) fun u g3 gk3 gu => ?_
      obtain ⟨sb, rfl, gsb⟩ := gu
      simp [Wc_seq, Wc_block, Wc_scope, Wc_skip, Wc_label, Wc_exit, Wc_ret, Wc_loop, Wc_region, Wc_cond, Nx_nil, Nx_seq, Nx_seq_exit, Nx_seq_ret, Nx_block, Nx_block_exit, Nx_block_ret, Rg_nil, Rg_cons, RgE, effA, calleeA, wantedA, enterN, ev, ofV, ofVn, putE, evalN, aBin, aInt_add, aInt_sub, aInt_mul, aInt_quo, aInt_rem, aInt_eql, aInt_neq, aInt_lss, aInt_leq, aInt_gtr, aInt_geq, aExtract, finQ_ret, resOf, extU, kq_eq, thenQ_normal, thenQ_exit, thenQ_ret]
      refine callK_RetH (by simp [fn13]) (texts_ret W g3 sb vn _ _ gsb (gn2.keeps gk3) (Nat.lt_trans hln (by decide))) ?_
      simp [Wc_seq, Wc_block, Wc_scope, Wc_skip, Wc_label, Wc_exit, Wc_ret, Wc_loop, Wc_region, Wc_cond, Nx_nil, Nx_seq, Nx_seq_exit, Nx_seq_ret, Nx_block, Nx_block_exit, Nx_block_ret, Rg_nil, Rg_cons, RgE, effA, calleeA, wantedA, enterN, ev, ofV, ofVn, putE, evalN, aBin, aInt_add, aInt_sub, aInt_mul, aInt_quo, aInt_rem, aInt_eql, aInt_neq, aInt_lss, aInt_leq, aInt_gtr, aInt_geq, aExtract, finQ_ret, resOf, extU, kq_eq, thenQ_normal, thenQ_exit, thenQ_ret]
      refine callK_RetX (by simp [fn16]) (speaks_ret W) fun g6 gk6 => ?_
      simp [Wc_seq, Wc_block, Wc_scope, Wc_skip, Wc_label, Wc_exit, Wc_ret, Wc_loop, Wc_region, Wc_cond, Nx_nil, Nx_seq, Nx_seq_exit, Nx_seq_ret, Nx_block, Nx_block_exit, Nx_block_ret, Rg_nil, Rg_cons, RgE, effA, calleeA, wantedA, enterN, ev, ofV, ofVn, putE, evalN, aBin, aInt_add, aInt_sub, aInt_mul, aInt_quo, aInt_rem, aInt_eql, aInt_neq, aInt_lss, aInt_leq, aInt_gtr, aInt_geq, aExtract, finQ_ret, resOf, extU, kq_eq, thenQ_normal, thenQ_exit, thenQ_ret]
    · have hne2 : (je != 0) = true := by simp [hj]
      have hjq := hje hj
      subst hjq
      simp [Wc_seq, Wc_block, Wc_scope, Wc_skip, Wc_label, Wc_exit, Wc_ret, Wc_loop, Wc_region, Wc_cond, Nx_nil, Nx_seq, Nx_seq_exit, Nx_seq_ret, Nx_block, Nx_block_exit, Nx_block_ret, Rg_nil, Rg_cons, RgE, effA, calleeA, wantedA, enterN, ev, ofV, ofVn, putE, evalN, aBin, aInt_add, aInt_sub, aInt_mul, aInt_quo, aInt_rem, aInt_eql, aInt_neq, aInt_lss, aInt_leq, aInt_gtr, aInt_geq, aExtract, finQ_ret, resOf, extU, kq_eq, thenQ_normal, thenQ_exit, thenQ_ret, hne2, aStr]
      refine callK_RetX (by simp [fn16]) (speaks_ret W) fun g6 gk6 => ?_
      simp [Wc_seq, Wc_block, Wc_scope, Wc_skip, Wc_label, Wc_exit, Wc_ret, Wc_loop, Wc_region, Wc_cond, Nx_nil, Nx_seq, Nx_seq_exit, Nx_seq_ret, Nx_block, Nx_block_exit, Nx_block_ret, Rg_nil, Rg_cons, RgE, effA, calleeA, wantedA, enterN, ev, ofV, ofVn, putE, evalN, aBin, aInt_add, aInt_sub, aInt_mul, aInt_quo, aInt_rem, aInt_eql, aInt_neq, aInt_lss, aInt_leq, aInt_gtr, aInt_geq, aExtract, finQ_ret, resOf, extU, kq_eq, thenQ_normal, thenQ_exit, thenQ_ret]
end Go.Proofs.YtkgnhobaclngkaaDoor.Ax
