/- Parents, and what is below what. -/
import Derived.Test.YtkgnhobaclngkaaDoorEqual
import Derived.Test.YtkgnhobaclngkaaDoorJoin
import Derived.Test.YtkgnhobaclngkaaDoorRefSplit
set_option linter.unusedVariables false
set_option linter.unusedSimpArgs false
namespace Go.Proofs.YtkgnhobaclngkaaDoor.Ax
open Go.RowKit

def orR (e f : Int) : Int := if e = 0 then f else e

theorem aLoad_errno {W : World} {h : AH} {k o : Nat} {cs : List AV} {t : TypeId} {x : Int} (hg : h.get k = some (.cells cs t)) (hx : cs[o]? = some (.int .i64 x)) : aLoad (CC W) h 23 (.new k o) = some (.int .i64 x) := by
  have : aLoad (CC W) h 23 (.new k o) = aCell (CC W) h (.new k o) := by unfold aLoad; rw [ty23]; rfl
  rw [this]; simp only [aCell, hg]; exact hx
theorem idx_errno {W : World} {k i : Nat} (hi : i < 2) : aIndexAddr (CC W) 67 (.sl (some (.new k 0)) 2 2 none) (.int .i64 (i : Int)) = some (.ptr (some (.new k i))) := by
  simp only [aIndexAddr, kind67, size23]
  rw [if_pos (by omega)]
  simp [AA.add]

def OrI (e f : Int) (k : Nat) (h : AH) (m : Nat) (e' : Env) (h' : AH) : Prop :=
  h' = h ∧ e'.length = 18 ∧ ∃ i : Nat, i + m = 2 ∧ (1 ≤ i → e = 0) ∧ (i = 2 → f = 0) ∧ (e'.getD 3 .undef = .int .i64 0 ∧ e'.getD 6 .undef = .sl (some (.new k 0)) 2 2 none ∧ e'.getD 7 .undef = .int .i64 2 ∧ e'.getD 8 .undef = .int .i64 i)

set_option maxHeartbeats 4000000 in
set_option maxRecDepth 20000 in
theorem or_ret (W : World) (h : AH) (k : Nat) (e f : Int) (t : TypeId) (hg : h.get k = some (.cells [.int .i64 e, .int .i64 f] t)) :
    RetH (CC W) 29 [.sl (some (.new k 0)) 2 2 none] h (.int .i64 (orR e f)) := by
  refine acall_fin (cc_ok W) (fn29 W) (by simp only [Tryd.f29]; rfl) rfl rfl ?_
  simp [Wc_seq, Wc_block, Wc_scope, Wc_skip, Wc_label, Wc_exit, Wc_ret, Wc_loop, Wc_region, Wc_cond, Nx_nil, Nx_seq, Nx_seq_exit, Nx_seq_ret, Nx_block, Nx_block_exit, Nx_block_ret, Rg_nil, Rg_cons, RgE, effA, calleeA, wantedA, enterN, ev, ofV, ofVn, putE, evalN, aBin, aInt_add, aInt_sub, aInt_mul, aInt_quo, aInt_rem, aInt_eql, aInt_neq, aInt_lss, aInt_leq, aInt_gtr, aInt_geq, aExtract, finQ_ret, resOf, extU, kq_eq, thenQ_normal, thenQ_exit, thenQ_ret, aLen, kind67]
  refine loopN (cc_ok W) (OrI e f k h) 2 ⟨rfl, by simp, 0, by simp, by simp, by simp, by simp⟩ ?_
  rintro m e' h' ⟨rfl, hl, i, him, he, hf, hh⟩
  match e', hl with
  | a0 :: a1 :: a2 :: a3 :: a4 :: a5 :: a6 :: a7 :: a8 :: a9 :: a10 :: a11 :: a12 :: a13 :: a14 :: a15 :: a16 :: a17 :: [], _ =>
    simp at hh
    obtain ⟨rfl, rfl, rfl, rfl⟩ := hh
    have hi : i = 0 ∨ i = 1 ∨ i = 2 := by omega
    have w1 : IntKind.i64.wrap ((0 : Int) + 1) = 1 := by decide
    have w2 : IntKind.i64.wrap ((1 : Int) + 1) = 2 := by decide
    have w1' : IntKind.i64.wrap (1 : Int) = 1 := by decide
    have w2' : IntKind.i64.wrap (2 : Int) = 2 := by decide
    have l0 := aLoad_errno (W := W) (o := 0) hg rfl
    have l1 := aLoad_errno (W := W) (o := 1) hg rfl
    have i0 := idx_errno (W := W) (k := k) (i := 0) (by decide)
    have i1 := idx_errno (W := W) (k := k) (i := 1) (by decide)
    simp only [Int.natCast_zero, Int.natCast_one] at i0 i1
    rcases hi with rfl | rfl | rfl
    · by_cases h0 : e = 0
      · subst h0
        simp [Wc_seq, Wc_block, Wc_scope, Wc_skip, Wc_label, Wc_exit, Wc_ret, Wc_loop, Wc_region, Wc_cond, Nx_nil, Nx_seq, Nx_seq_exit, Nx_seq_ret, Nx_block, Nx_block_exit, Nx_block_ret, Rg_nil, Rg_cons, RgE, effA, calleeA, wantedA, enterN, ev, ofV, ofVn, putE, evalN, aBin, aInt_add, aInt_sub, aInt_mul, aInt_quo, aInt_rem, aInt_eql, aInt_neq, aInt_lss, aInt_leq, aInt_gtr, aInt_geq, aExtract, finQ_ret, resOf, extU, kq_eq, thenQ_normal, thenQ_exit, thenQ_ret, i0, l0, w1, w1']
        exact ⟨1, by omega, rfl, by simp, 1, by omega, by simp, by simp, by simp⟩
      · have hne : (e != 0) = true := by simp [h0]
        simp [Wc_seq, Wc_block, Wc_scope, Wc_skip, Wc_label, Wc_exit, Wc_ret, Wc_loop, Wc_region, Wc_cond, Nx_nil, Nx_seq, Nx_seq_exit, Nx_seq_ret, Nx_block, Nx_block_exit, Nx_block_ret, Rg_nil, Rg_cons, RgE, effA, calleeA, wantedA, enterN, ev, ofV, ofVn, putE, evalN, aBin, aInt_add, aInt_sub, aInt_mul, aInt_quo, aInt_rem, aInt_eql, aInt_neq, aInt_lss, aInt_leq, aInt_gtr, aInt_geq, aExtract, finQ_ret, resOf, extU, kq_eq, thenQ_normal, thenQ_exit, thenQ_ret, i0, l0, hne, orR, h0]
    · have h0 := he (by omega)
      subst h0
      by_cases h1 : f = 0
      · subst h1
        simp [Wc_seq, Wc_block, Wc_scope, Wc_skip, Wc_label, Wc_exit, Wc_ret, Wc_loop, Wc_region, Wc_cond, Nx_nil, Nx_seq, Nx_seq_exit, Nx_seq_ret, Nx_block, Nx_block_exit, Nx_block_ret, Rg_nil, Rg_cons, RgE, effA, calleeA, wantedA, enterN, ev, ofV, ofVn, putE, evalN, aBin, aInt_add, aInt_sub, aInt_mul, aInt_quo, aInt_rem, aInt_eql, aInt_neq, aInt_lss, aInt_leq, aInt_gtr, aInt_geq, aExtract, finQ_ret, resOf, extU, kq_eq, thenQ_normal, thenQ_exit, thenQ_ret, i1, l1, w2, w2']
        exact ⟨0, by omega, rfl, by simp, 2, by omega, by simp, by simp, by simp⟩
      · have hne : (f != 0) = true := by simp [h1]
        simp [Wc_seq, Wc_block, Wc_scope, Wc_skip, Wc_label, Wc_exit, Wc_ret, Wc_loop, Wc_region, Wc_cond, Nx_nil, Nx_seq, Nx_seq_exit, Nx_seq_ret, Nx_block, Nx_block_exit, Nx_block_ret, Rg_nil, Rg_cons, RgE, effA, calleeA, wantedA, enterN, ev, ofV, ofVn, putE, evalN, aBin, aInt_add, aInt_sub, aInt_mul, aInt_quo, aInt_rem, aInt_eql, aInt_neq, aInt_lss, aInt_leq, aInt_gtr, aInt_geq, aExtract, finQ_ret, resOf, extU, kq_eq, thenQ_normal, thenQ_exit, thenQ_ret, i1, l1, hne, orR, h1]
    · have h0 := he (by omega)
      have h1 := hf rfl
      subst h0 h1
      simp [Wc_seq, Wc_block, Wc_scope, Wc_skip, Wc_label, Wc_exit, Wc_ret, Wc_loop, Wc_region, Wc_cond, Nx_nil, Nx_seq, Nx_seq_exit, Nx_seq_ret, Nx_block, Nx_block_exit, Nx_block_ret, Rg_nil, Rg_cons, RgE, effA, calleeA, wantedA, enterN, ev, ofV, ofVn, putE, evalN, aBin, aInt_add, aInt_sub, aInt_mul, aInt_quo, aInt_rem, aInt_eql, aInt_neq, aInt_lss, aInt_leq, aInt_gtr, aInt_geq, aExtract, finQ_ret, resOf, extU, kq_eq, thenQ_normal, thenQ_exit, thenQ_ret, orR]

theorem build_errno {W : World} {h : AH} {e f : Int} : aBuildSlice (CC W) h 67 2 [(0, .int .i64 e), (1, .int .i64 f)] = some (.sl (some (.new h.next 0)) 2 2 none, h.push (.cells [.int .i64 e, .int .i64 f] 23)) := by
  simp only [aBuildSlice, kind67, size23, zero23]
  rfl

theorem judge_nil {l : List (List UInt8)} (h : (judge l).2 ≠ 0) : (judge l).1 = [] := by
  unfold judge at *
  split
  · rfl
  · rename_i hf
    rw [hf] at h
    split
    · rfl
    · rename_i h8
      simp only [if_neg h8] at h
      exact absurd rfl h

theorem judge_fine {l : List (List UInt8)} (h : (judge l).2 = 0) : (judge l).1 = l ∧ (∀ x ∈ l, nameR x = 0) ∧ l.length ≤ 8 := by
  unfold judge at *
  split
  · rename_i s hf
    rw [hf] at h
    simp only at h
    have := List.find?_some hf
    simp [h] at this
  · rename_i hf
    rw [hf] at h
    rw [List.find?_eq_none] at hf
    split
    · rename_i h8
      simp [h8] at h
    · rename_i h8
      exact ⟨rfl, fun x hx => by simpa using hf x hx, by omega⟩

theorem splitR_cons {r : List UInt8} (h : r ≠ []) : splitR (47 :: r) = judge (pieces r) := by simp [splitR, h]
theorem splitR_root : splitR [47] = ([], 0) := rfl
theorem splitR_other {c : UInt8} {r : List UInt8} (h : c ≠ 47) : splitR (c :: r) = ([], 309) := by simp [splitR, h]

theorem splitR_nil {p : List UInt8} (h : (splitR p).2 ≠ 0) : (splitR p).1 = [] := by
  cases p with
  | nil => rfl
  | cons c r =>
    by_cases hc : c = 47
    · subst hc
      by_cases hr : r = []
      · subst hr; rfl
      · rw [splitR_cons hr] at *; exact judge_nil h
    · rw [splitR_other hc]

/-- The names of a good path are good. -/
theorem splitR_ok {p : List UInt8} (h : (splitR p).2 = 0) : (∀ x ∈ (splitR p).1, nameR x = 0) ∧ (splitR p).1.length ≤ 8 := by
  cases p with
  | nil => simp [splitR] at h
  | cons c r =>
    by_cases hc : c = 47
    · subst hc
      by_cases hr : r = []
      · subst hr; simp [splitR]
      · rw [splitR_cons hr] at *
        obtain ⟨h1, h2, h3⟩ := judge_fine h
        rw [h1]; exact ⟨h2, h3⟩
    · rw [splitR_other hc] at h; simp at h

/-- A path without its last name, and that. -/
def parentR (p : List UInt8) : List UInt8 × List UInt8 × Int :=
  if (splitR p).2 ≠ 0 then ([], [], (splitR p).2) else match (splitR p).1.getLast? with
    | none => ([], [], 309)
    | some x => ((joinR (splitR p).1.dropLast).1, x, 0)

def belowR (p q : List UInt8) : Bool × Int :=
  if (splitR p).2 ≠ 0 then (false, (splitR p).2) else if (splitR q).2 ≠ 0 then (false, (splitR q).2) else (decide ((splitR q).1.length < (splitR p).1.length) && decide ((splitR p).1.take (splitR q).1.length = (splitR q).1), 0)

set_option maxHeartbeats 4000000 in
set_option maxRecDepth 20000 in
theorem below_ret (W : World) (p q : List UInt8) (hp : p.length < 8796093022207) (hq : q.length < 8796093022207) : RetX (CC W) 21 [.str p, .str q] (.tup [.bool (belowR p q).1, .int .i64 (belowR p q).2]) := by
  intro h
  refine acall_fin (cc_ok W) (fn21 W) (by simp only [Tryd.f21]; rfl) rfl rfl ?_
  simp [Wc_seq, Wc_block, Wc_scope, Wc_skip, Wc_label, Wc_exit, Wc_ret, Wc_loop, Wc_region, Wc_cond, Nx_nil, Nx_seq, Nx_seq_exit, Nx_seq_ret, Nx_block, Nx_block_exit, Nx_block_ret, Rg_nil, Rg_cons, RgE, effA, calleeA, wantedA, enterN, ev, ofV, ofVn, putE, evalN, aBin, aInt_add, aInt_sub, aInt_mul, aInt_quo, aInt_rem, aInt_eql, aInt_neq, aInt_lss, aInt_leq, aInt_gtr, aInt_geq, aExtract, finQ_ret, resOf, extU, kq_eq, thenQ_normal, thenQ_exit, thenQ_ret]
  refine callK_RetQ (by simp [fn9]) (split_ret W p hp h) fun v h1 hk1 hv => ?_
  obtain ⟨sa, rfl, hsa⟩ := hv
  simp [Wc_seq, Wc_block, Wc_scope, Wc_skip, Wc_label, Wc_exit, Wc_ret, Wc_loop, Wc_region, Wc_cond, Nx_nil, Nx_seq, Nx_seq_exit, Nx_seq_ret, Nx_block, Nx_block_exit, Nx_block_ret, Rg_nil, Rg_cons, RgE, effA, calleeA, wantedA, enterN, ev, ofV, ofVn, putE, evalN, aBin, aInt_add, aInt_sub, aInt_mul, aInt_quo, aInt_rem, aInt_eql, aInt_neq, aInt_lss, aInt_leq, aInt_gtr, aInt_geq, aExtract, finQ_ret, resOf, extU, kq_eq, thenQ_normal, thenQ_exit, thenQ_ret]
  refine callK_RetQ (by simp [fn9]) (split_ret W q hq h1) fun v h2 hk2 hv => ?_
  obtain ⟨sb, rfl, hsb⟩ := hv
  have hsa2 := hsa.keeps hk2
  simp [Wc_seq, Wc_block, Wc_scope, Wc_skip, Wc_label, Wc_exit, Wc_ret, Wc_loop, Wc_region, Wc_cond, Nx_nil, Nx_seq, Nx_seq_exit, Nx_seq_ret, Nx_block, Nx_block_exit, Nx_block_ret, Rg_nil, Rg_cons, RgE, effA, calleeA, wantedA, enterN, ev, ofV, ofVn, putE, evalN, aBin, aInt_add, aInt_sub, aInt_mul, aInt_quo, aInt_rem, aInt_eql, aInt_neq, aInt_lss, aInt_leq, aInt_gtr, aInt_geq, aExtract, finQ_ret, resOf, extU, kq_eq, thenQ_normal, thenQ_exit, thenQ_ret, build_errno]
  refine callK_RetH (by simp [fn29]) (or_ret W _ h2.next (splitR p).2 (splitR q).2 23 (by simp)) ?_
  have hk3 : Keeps h (h2.push (.cells [.int .i64 (splitR p).2, .int .i64 (splitR q).2] 23)) := (hk1.trans hk2).trans (Keeps.push _ _)
  have hsa3 := hsa2.keeps (Keeps.push _ (.cells [.int .i64 (splitR p).2, .int .i64 (splitR q).2] 23))
  have hsb3 := hsb.keeps (Keeps.push _ (.cells [.int .i64 (splitR p).2, .int .i64 (splitR q).2] 23))
  generalize h2.push (.cells [.int .i64 (splitR p).2, .int .i64 (splitR q).2] 23) = h3 at hk3 hsa3 hsb3 ⊢
  by_cases e0 : (splitR p).2 = 0
  · by_cases f0 : (splitR q).2 = 0
    · have hb : belowR p q = (decide ((splitR q).1.length < (splitR p).1.length) && decide ((splitR p).1.take (splitR q).1.length = (splitR q).1), 0) := by simp [belowR, e0, f0]
      rw [hb]
      obtain ⟨hok, hl8⟩ := splitR_ok e0
      obtain ⟨hokb, hlb8⟩ := splitR_ok f0
      obtain ⟨pa, ca, ga, rfl⟩ := hsa3.len
      obtain ⟨pb, cb, gb, rfl⟩ := hsb3.len
      generalize (splitR p).1 = a at *
      generalize (splitR q).1 = b at *
      by_cases hlt : b.length < a.length
      · have hlt' : (b.length : Int) < (a.length : Int) := by omega
        obtain ⟨v, hv, hvs⟩ := hsa3.slice (show b.length ≤ a.length by omega)
        simp [Wc_seq, Wc_block, Wc_scope, Wc_skip, Wc_label, Wc_exit, Wc_ret, Wc_loop, Wc_region, Wc_cond, Nx_nil, Nx_seq, Nx_seq_exit, Nx_seq_ret, Nx_block, Nx_block_exit, Nx_block_ret, Rg_nil, Rg_cons, RgE, effA, calleeA, wantedA, enterN, ev, ofV, ofVn, putE, evalN, aBin, aInt_add, aInt_sub, aInt_mul, aInt_quo, aInt_rem, aInt_eql, aInt_neq, aInt_lss, aInt_leq, aInt_gtr, aInt_geq, aExtract, finQ_ret, resOf, extU, kq_eq, thenQ_normal, thenQ_exit, thenQ_ret, orR, e0, f0, aLen, kind22, hlt, hlt', hv]
        refine callK_RetH (by simp [fn30]) (equal_ret W h3 _ _ _ _ hvs hsb3 (by simp; omega)) ?_
        simp [Wc_seq, Wc_block, Wc_scope, Wc_skip, Wc_label, Wc_exit, Wc_ret, Wc_loop, Wc_region, Wc_cond, Nx_nil, Nx_seq, Nx_seq_exit, Nx_seq_ret, Nx_block, Nx_block_exit, Nx_block_ret, Rg_nil, Rg_cons, RgE, effA, calleeA, wantedA, enterN, ev, ofV, ofVn, putE, evalN, aBin, aInt_add, aInt_sub, aInt_mul, aInt_quo, aInt_rem, aInt_eql, aInt_neq, aInt_lss, aInt_leq, aInt_gtr, aInt_geq, aExtract, finQ_ret, resOf, extU, kq_eq, thenQ_normal, thenQ_exit, thenQ_ret, hk3]
      · have hlt' : ¬ (b.length : Int) < (a.length : Int) := by omega
        simp [Wc_seq, Wc_block, Wc_scope, Wc_skip, Wc_label, Wc_exit, Wc_ret, Wc_loop, Wc_region, Wc_cond, Nx_nil, Nx_seq, Nx_seq_exit, Nx_seq_ret, Nx_block, Nx_block_exit, Nx_block_ret, Rg_nil, Rg_cons, RgE, effA, calleeA, wantedA, enterN, ev, ofV, ofVn, putE, evalN, aBin, aInt_add, aInt_sub, aInt_mul, aInt_quo, aInt_rem, aInt_eql, aInt_neq, aInt_lss, aInt_leq, aInt_gtr, aInt_geq, aExtract, finQ_ret, resOf, extU, kq_eq, thenQ_normal, thenQ_exit, thenQ_ret, orR, e0, f0, aLen, kind22, hlt, hlt', hk3]
    · have hb : belowR p q = (false, (splitR q).2) := by simp [belowR, e0, f0]
      have hne : ((splitR q).2 != 0) = true := by simp [f0]
      rw [hb]
      simp [Wc_seq, Wc_block, Wc_scope, Wc_skip, Wc_label, Wc_exit, Wc_ret, Wc_loop, Wc_region, Wc_cond, Nx_nil, Nx_seq, Nx_seq_exit, Nx_seq_ret, Nx_block, Nx_block_exit, Nx_block_ret, Rg_nil, Rg_cons, RgE, effA, calleeA, wantedA, enterN, ev, ofV, ofVn, putE, evalN, aBin, aInt_add, aInt_sub, aInt_mul, aInt_quo, aInt_rem, aInt_eql, aInt_neq, aInt_lss, aInt_leq, aInt_gtr, aInt_geq, aExtract, finQ_ret, resOf, extU, kq_eq, thenQ_normal, thenQ_exit, thenQ_ret, orR, e0, f0, hne, hk3]
  · have hb : belowR p q = (false, (splitR p).2) := by simp [belowR, e0]
    have hne : ((splitR p).2 != 0) = true := by simp [e0]
    rw [hb]
    simp [Wc_seq, Wc_block, Wc_scope, Wc_skip, Wc_label, Wc_exit, Wc_ret, Wc_loop, Wc_region, Wc_cond, Nx_nil, Nx_seq, Nx_seq_exit, Nx_seq_ret, Nx_block, Nx_block_exit, Nx_block_ret, Rg_nil, Rg_cons, RgE, effA, calleeA, wantedA, enterN, ev, ofV, ofVn, putE, evalN, aBin, aInt_add, aInt_sub, aInt_mul, aInt_quo, aInt_rem, aInt_eql, aInt_neq, aInt_lss, aInt_leq, aInt_gtr, aInt_geq, aExtract, finQ_ret, resOf, extU, kq_eq, thenQ_normal, thenQ_exit, thenQ_ret, orR, e0, hne, hk3]

set_option maxHeartbeats 4000000 in
set_option maxRecDepth 20000 in
theorem refBelow_ret (W : World) (p q : List UInt8) (hp : p.length < 8796093022207) (hq : q.length < 8796093022207) : RetX (CC W) 22 [.str p, .str q] (.tup [.bool (belowR p q).1, .int .i64 (belowR p q).2]) := by
  intro h
  refine acall_fin (cc_ok W) (fn22 W) (by simp only [Tryd.f22]; rfl) rfl rfl ?_
  simp [Wc_seq, Wc_block, Wc_scope, Wc_skip, Wc_label, Wc_exit, Wc_ret, Wc_loop, Wc_region, Wc_cond, Nx_nil, Nx_seq, Nx_seq_exit, Nx_seq_ret, Nx_block, Nx_block_exit, Nx_block_ret, Rg_nil, Rg_cons, RgE, effA, calleeA, wantedA, enterN, ev, ofV, ofVn, putE, evalN, aBin, aInt_add, aInt_sub, aInt_mul, aInt_quo, aInt_rem, aInt_eql, aInt_neq, aInt_lss, aInt_leq, aInt_gtr, aInt_geq, aExtract, finQ_ret, resOf, extU, kq_eq, thenQ_normal, thenQ_exit, thenQ_ret]
  refine callK_RetQ (by simp [fn10]) (refSplit_ret W p hp h) fun v h1 hk1 hv => ?_
  obtain ⟨sa, rfl, hsa⟩ := hv
  by_cases e0 : (splitR p).2 = 0
  · simp [Wc_seq, Wc_block, Wc_scope, Wc_skip, Wc_label, Wc_exit, Wc_ret, Wc_loop, Wc_region, Wc_cond, Nx_nil, Nx_seq, Nx_seq_exit, Nx_seq_ret, Nx_block, Nx_block_exit, Nx_block_ret, Rg_nil, Rg_cons, RgE, effA, calleeA, wantedA, enterN, ev, ofV, ofVn, putE, evalN, aBin, aInt_add, aInt_sub, aInt_mul, aInt_quo, aInt_rem, aInt_eql, aInt_neq, aInt_lss, aInt_leq, aInt_gtr, aInt_geq, aExtract, finQ_ret, resOf, extU, kq_eq, thenQ_normal, thenQ_exit, thenQ_ret, e0]
    refine callK_RetQ (by simp [fn10]) (refSplit_ret W q hq h1) fun v h2 hk2 hv => ?_
    obtain ⟨sb, rfl, hsb⟩ := hv
    have hsa2 := hsa.keeps hk2
    have hk3 := hk1.trans hk2
    by_cases f0 : (splitR q).2 = 0
    · have hb : belowR p q = (decide ((splitR q).1.length < (splitR p).1.length) && decide ((splitR p).1.take (splitR q).1.length = (splitR q).1), 0) := by simp [belowR, e0, f0]
      rw [hb]
      obtain ⟨hok, hl8⟩ := splitR_ok e0
      obtain ⟨hokb, hlb8⟩ := splitR_ok f0
      obtain ⟨pa, ca, ga, rfl⟩ := hsa2.len
      obtain ⟨pb, cb, gb, rfl⟩ := hsb.len
      generalize (splitR p).1 = a at *
      generalize (splitR q).1 = b at *
      by_cases hlt : b.length < a.length
      · have hlt' : (b.length : Int) < (a.length : Int) := by omega
        simp [Wc_seq, Wc_block, Wc_scope, Wc_skip, Wc_label, Wc_exit, Wc_ret, Wc_loop, Wc_region, Wc_cond, Nx_nil, Nx_seq, Nx_seq_exit, Nx_seq_ret, Nx_block, Nx_block_exit, Nx_block_ret, Rg_nil, Rg_cons, RgE, effA, calleeA, wantedA, enterN, ev, ofV, ofVn, putE, evalN, aBin, aInt_add, aInt_sub, aInt_mul, aInt_quo, aInt_rem, aInt_eql, aInt_neq, aInt_lss, aInt_leq, aInt_gtr, aInt_geq, aExtract, finQ_ret, resOf, extU, kq_eq, thenQ_normal, thenQ_exit, thenQ_ret, e0, f0, aLen, kind22, hlt, hlt']
        refine callK_RetH (by simp [fn31]) (begins_ret W h2 _ _ _ _ hsa2 hsb (by omega)) ?_
        simp [Wc_seq, Wc_block, Wc_scope, Wc_skip, Wc_label, Wc_exit, Wc_ret, Wc_loop, Wc_region, Wc_cond, Nx_nil, Nx_seq, Nx_seq_exit, Nx_seq_ret, Nx_block, Nx_block_exit, Nx_block_ret, Rg_nil, Rg_cons, RgE, effA, calleeA, wantedA, enterN, ev, ofV, ofVn, putE, evalN, aBin, aInt_add, aInt_sub, aInt_mul, aInt_quo, aInt_rem, aInt_eql, aInt_neq, aInt_lss, aInt_leq, aInt_gtr, aInt_geq, aExtract, finQ_ret, resOf, extU, kq_eq, thenQ_normal, thenQ_exit, thenQ_ret, hk3, beginsR]
      · have hlt' : ¬ (b.length : Int) < (a.length : Int) := by omega
        simp [Wc_seq, Wc_block, Wc_scope, Wc_skip, Wc_label, Wc_exit, Wc_ret, Wc_loop, Wc_region, Wc_cond, Nx_nil, Nx_seq, Nx_seq_exit, Nx_seq_ret, Nx_block, Nx_block_exit, Nx_block_ret, Rg_nil, Rg_cons, RgE, effA, calleeA, wantedA, enterN, ev, ofV, ofVn, putE, evalN, aBin, aInt_add, aInt_sub, aInt_mul, aInt_quo, aInt_rem, aInt_eql, aInt_neq, aInt_lss, aInt_leq, aInt_gtr, aInt_geq, aExtract, finQ_ret, resOf, extU, kq_eq, thenQ_normal, thenQ_exit, thenQ_ret, e0, f0, aLen, kind22, hlt, hlt', hk3]
    · have hb : belowR p q = (false, (splitR q).2) := by simp [belowR, e0, f0]
      have hne : ((splitR q).2 != 0) = true := by simp [f0]
      rw [hb]
      simp [Wc_seq, Wc_block, Wc_scope, Wc_skip, Wc_label, Wc_exit, Wc_ret, Wc_loop, Wc_region, Wc_cond, Nx_nil, Nx_seq, Nx_seq_exit, Nx_seq_ret, Nx_block, Nx_block_exit, Nx_block_ret, Rg_nil, Rg_cons, RgE, effA, calleeA, wantedA, enterN, ev, ofV, ofVn, putE, evalN, aBin, aInt_add, aInt_sub, aInt_mul, aInt_quo, aInt_rem, aInt_eql, aInt_neq, aInt_lss, aInt_leq, aInt_gtr, aInt_geq, aExtract, finQ_ret, resOf, extU, kq_eq, thenQ_normal, thenQ_exit, thenQ_ret, e0, f0, hne, hk3]
  · have hb : belowR p q = (false, (splitR p).2) := by simp [belowR, e0]
    have hne : ((splitR p).2 != 0) = true := by simp [e0]
    rw [hb]
    simp [Wc_seq, Wc_block, Wc_scope, Wc_skip, Wc_label, Wc_exit, Wc_ret, Wc_loop, Wc_region, Wc_cond, Nx_nil, Nx_seq, Nx_seq_exit, Nx_seq_ret, Nx_block, Nx_block_exit, Nx_block_ret, Rg_nil, Rg_cons, RgE, effA, calleeA, wantedA, enterN, ev, ofV, ofVn, putE, evalN, aBin, aInt_add, aInt_sub, aInt_mul, aInt_quo, aInt_rem, aInt_eql, aInt_neq, aInt_lss, aInt_leq, aInt_gtr, aInt_geq, aExtract, finQ_ret, resOf, extU, kq_eq, thenQ_normal, thenQ_exit, thenQ_ret, e0, hne, hk1]

theorem last_get {l : List (List UInt8)} (h : l ≠ []) : ∃ x, l.getLast? = some x ∧ l[l.length - 1]? = some x := by
  refine ⟨l.getLast h, List.getLast?_eq_some_getLast h, ?_⟩
  rw [← List.getLast?_eq_getElem?, List.getLast?_eq_some_getLast h]

set_option maxHeartbeats 4000000 in
set_option maxRecDepth 20000 in
theorem parent_ret (W : World) (p : List UInt8) (hp : p.length < 8796093022207) : RetX (CC W) 11 [.str p] (.tup [.str (parentR p).1, .str (parentR p).2.1, .int .i64 (parentR p).2.2]) := by
  intro h
  refine acall_fin (cc_ok W) (fn11 W) (by simp only [Tryd.f11]; rfl) rfl rfl ?_
  simp [Wc_seq, Wc_block, Wc_scope, Wc_skip, Wc_label, Wc_exit, Wc_ret, Wc_loop, Wc_region, Wc_cond, Nx_nil, Nx_seq, Nx_seq_exit, Nx_seq_ret, Nx_block, Nx_block_exit, Nx_block_ret, Rg_nil, Rg_cons, RgE, effA, calleeA, wantedA, enterN, ev, ofV, ofVn, putE, evalN, aBin, aInt_add, aInt_sub, aInt_mul, aInt_quo, aInt_rem, aInt_eql, aInt_neq, aInt_lss, aInt_leq, aInt_gtr, aInt_geq, aExtract, finQ_ret, resOf, extU, kq_eq, thenQ_normal, thenQ_exit, thenQ_ret]
  refine callK_RetQ (by simp [fn9]) (split_ret W p hp h) fun v h1 hk1 hv => ?_
  obtain ⟨sa, rfl, hsa⟩ := hv
  by_cases e0 : (splitR p).2 = 0
  · obtain ⟨hok, hl8⟩ := splitR_ok e0
    obtain ⟨pa, ca, ga, rfl⟩ := hsa.len
    by_cases hl : (splitR p).1 = []
    · have hr : parentR p = ([], [], 309) := by simp [parentR, e0, hl]
      have w1 : IntKind.i64.wrap ((0 : Int) - 1) = -1 := by decide
      have w1' : IntKind.i64.wrap (-1 : Int) = -1 := by decide
      rw [hr]
      simp [Wc_seq, Wc_block, Wc_scope, Wc_skip, Wc_label, Wc_exit, Wc_ret, Wc_loop, Wc_region, Wc_cond, Nx_nil, Nx_seq, Nx_seq_exit, Nx_seq_ret, Nx_block, Nx_block_exit, Nx_block_ret, Rg_nil, Rg_cons, RgE, effA, calleeA, wantedA, enterN, ev, ofV, ofVn, putE, evalN, aBin, aInt_add, aInt_sub, aInt_mul, aInt_quo, aInt_rem, aInt_eql, aInt_neq, aInt_lss, aInt_leq, aInt_gtr, aInt_geq, aExtract, finQ_ret, resOf, extU, kq_eq, thenQ_normal, thenQ_exit, thenQ_ret, e0, aLen, kind22, hl, w1, w1', hk1]
    · obtain ⟨x, hx, hg⟩ := last_get hl
      have hr : parentR p = ((joinR (splitR p).1.dropLast).1, x, 0) := by simp [parentR, e0, hx]
      have hpos : 0 < (splitR p).1.length := List.length_pos_iff.2 hl
      rw [hr, List.dropLast_eq_take]
      generalize (splitR p).1 = a at *
      have w1 : IntKind.i64.wrap ((a.length : Int) - 1) = ((a.length - 1 : Nat) : Int) := by rw [wrap64 (by omega) (by omega)]; omega
      have hnn : ¬ (((a.length - 1 : Nat) : Int) < 0) := by omega
      obtain ⟨v, hv, hvs⟩ := hsa.slice (show a.length - 1 ≤ a.length by omega)
      have hlen : (a.take (a.length - 1)).length < 8796093022207 := by simp; omega
      generalize hj : a.length - 1 = j at *
      simp [Wc_seq, Wc_block, Wc_scope, Wc_skip, Wc_label, Wc_exit, Wc_ret, Wc_loop, Wc_region, Wc_cond, Nx_nil, Nx_seq, Nx_seq_exit, Nx_seq_ret, Nx_block, Nx_block_exit, Nx_block_ret, Rg_nil, Rg_cons, RgE, effA, calleeA, wantedA, enterN, ev, ofV, ofVn, putE, evalN, aBin, aInt_add, aInt_sub, aInt_mul, aInt_quo, aInt_rem, aInt_eql, aInt_neq, aInt_lss, aInt_leq, aInt_gtr, aInt_geq, aExtract, finQ_ret, resOf, extU, kq_eq, thenQ_normal, thenQ_exit, thenQ_ret, e0, aLen, kind22, w1, hnn, hv]
      refine callK_RetQ (by simp [fn17]) (join_ret W h1 v _ hvs hlen) fun u h2 hk2 hu => ?_
      subst hu
      obtain ⟨a', hix, hld⟩ := (hsa.keeps hk2).at hg
      have hk3 := hk1.trans hk2
      simp [Wc_seq, Wc_block, Wc_scope, Wc_skip, Wc_label, Wc_exit, Wc_ret, Wc_loop, Wc_region, Wc_cond, Nx_nil, Nx_seq, Nx_seq_exit, Nx_seq_ret, Nx_block, Nx_block_exit, Nx_block_ret, Rg_nil, Rg_cons, RgE, effA, calleeA, wantedA, enterN, ev, ofV, ofVn, putE, evalN, aBin, aInt_add, aInt_sub, aInt_mul, aInt_quo, aInt_rem, aInt_eql, aInt_neq, aInt_lss, aInt_leq, aInt_gtr, aInt_geq, aExtract, finQ_ret, resOf, extU, kq_eq, thenQ_normal, thenQ_exit, thenQ_ret]
      refine draw1 (cc_ok W) [0, 1, 2, 3, 4, 5, 6, 7] (by kernel_rfl) (by kernel_rfl) (by kernel_rfl) rfl ?_
      simp [Wc_seq, Wc_block, Wc_scope, Wc_skip, Wc_label, Wc_exit, Wc_ret, Wc_loop, Wc_region, Wc_cond, Nx_nil, Nx_seq, Nx_seq_exit, Nx_seq_ret, Nx_block, Nx_block_exit, Nx_block_ret, Rg_nil, Rg_cons, RgE, effA, calleeA, wantedA, enterN, ev, ofV, ofVn, putE, evalN, aBin, aInt_add, aInt_sub, aInt_mul, aInt_quo, aInt_rem, aInt_eql, aInt_neq, aInt_lss, aInt_leq, aInt_gtr, aInt_geq, aExtract, finQ_ret, resOf, extU, kq_eq, thenQ_normal, thenQ_exit, thenQ_ret, hix, hld, hk3]
  · have hr : parentR p = ([], [], (splitR p).2) := by simp [parentR, e0]
    have hne : ((splitR p).2 != 0) = true := by simp [e0]
    rw [hr]
    simp [Wc_seq, Wc_block, Wc_scope, Wc_skip, Wc_label, Wc_exit, Wc_ret, Wc_loop, Wc_region, Wc_cond, Nx_nil, Nx_seq, Nx_seq_exit, Nx_seq_ret, Nx_block, Nx_block_exit, Nx_block_ret, Rg_nil, Rg_cons, RgE, effA, calleeA, wantedA, enterN, ev, ofV, ofVn, putE, evalN, aBin, aInt_add, aInt_sub, aInt_mul, aInt_quo, aInt_rem, aInt_eql, aInt_neq, aInt_lss, aInt_leq, aInt_gtr, aInt_geq, aExtract, finQ_ret, resOf, extU, kq_eq, thenQ_normal, thenQ_exit, thenQ_ret, e0, hne, hk1]

theorem nameR_small {l : List (List UInt8)} (h : ∀ x ∈ l, nameR x = 0) : ∀ x ∈ l, x.length < 9223372036854775808 := fun x hx => by have := nameR_len (h x hx); omega

set_option maxHeartbeats 4000000 in
set_option maxRecDepth 20000 in
theorem refParent_ret (W : World) (p : List UInt8) (hp : p.length < 8796093022207) : RetX (CC W) 12 [.str p] (.tup [.str (parentR p).1, .str (parentR p).2.1, .int .i64 (parentR p).2.2]) := by
  intro h
  refine acall_fin (cc_ok W) (fn12 W) (by simp only [Tryd.f12]; rfl) rfl rfl ?_
  simp [Wc_seq, Wc_block, Wc_scope, Wc_skip, Wc_label, Wc_exit, Wc_ret, Wc_loop, Wc_region, Wc_cond, Nx_nil, Nx_seq, Nx_seq_exit, Nx_seq_ret, Nx_block, Nx_block_exit, Nx_block_ret, Rg_nil, Rg_cons, RgE, effA, calleeA, wantedA, enterN, ev, ofV, ofVn, putE, evalN, aBin, aInt_add, aInt_sub, aInt_mul, aInt_quo, aInt_rem, aInt_eql, aInt_neq, aInt_lss, aInt_leq, aInt_gtr, aInt_geq, aExtract, finQ_ret, resOf, extU, kq_eq, thenQ_normal, thenQ_exit, thenQ_ret]
  refine callK_RetQ (by simp [fn10]) (refSplit_ret W p hp h) fun v h1 hk1 hv => ?_
  obtain ⟨sa, rfl, hsa⟩ := hv
  by_cases e0 : (splitR p).2 = 0
  · obtain ⟨hok, hl8⟩ := splitR_ok e0
    obtain ⟨pa, ca, ga, rfl⟩ := hsa.len
    by_cases hl : (splitR p).1 = []
    · have hr : parentR p = ([], [], 309) := by simp [parentR, e0, hl]
      rw [hr]
      simp [Wc_seq, Wc_block, Wc_scope, Wc_skip, Wc_label, Wc_exit, Wc_ret, Wc_loop, Wc_region, Wc_cond, Nx_nil, Nx_seq, Nx_seq_exit, Nx_seq_ret, Nx_block, Nx_block_exit, Nx_block_ret, Rg_nil, Rg_cons, RgE, effA, calleeA, wantedA, enterN, ev, ofV, ofVn, putE, evalN, aBin, aInt_add, aInt_sub, aInt_mul, aInt_quo, aInt_rem, aInt_eql, aInt_neq, aInt_lss, aInt_leq, aInt_gtr, aInt_geq, aExtract, finQ_ret, resOf, extU, kq_eq, thenQ_normal, thenQ_exit, thenQ_ret, e0, aLen, kind22, hl, hk1]
    · obtain ⟨x, hx, hg⟩ := last_get hl
      have hr : parentR p = ((joinR (splitR p).1.dropLast).1, x, 0) := by simp [parentR, e0, hx]
      have hpos : 0 < (splitR p).1.length := List.length_pos_iff.2 hl
      rw [hr, List.dropLast_eq_take]
      generalize (splitR p).1 = a at *
      have w1 : IntKind.i64.wrap ((a.length : Int) - 1) = ((a.length - 1 : Nat) : Int) := by rw [wrap64 (by omega) (by omega)]; omega
      have hnz : ((a.length : Int) == 0) = false := by rw [beq_eq_false_iff_ne]; omega
      obtain ⟨v, hv, hvs⟩ := hsa.slice (show a.length - 1 ≤ a.length by omega)
      have hlen : (a.take (a.length - 1)).length < 8796093022207 := by simp; omega
      have hsm := nameR_small fun y hy => hok y (List.mem_of_mem_take (i := a.length - 1) hy)
      obtain ⟨a', hix, hld⟩ := hsa.at hg
      generalize hj : a.length - 1 = j at *
      simp [Wc_seq, Wc_block, Wc_scope, Wc_skip, Wc_label, Wc_exit, Wc_ret, Wc_loop, Wc_region, Wc_cond, Nx_nil, Nx_seq, Nx_seq_exit, Nx_seq_ret, Nx_block, Nx_block_exit, Nx_block_ret, Rg_nil, Rg_cons, RgE, effA, calleeA, wantedA, enterN, ev, ofV, ofVn, putE, evalN, aBin, aInt_add, aInt_sub, aInt_mul, aInt_quo, aInt_rem, aInt_eql, aInt_neq, aInt_lss, aInt_leq, aInt_gtr, aInt_geq, aExtract, finQ_ret, resOf, extU, kq_eq, thenQ_normal, thenQ_exit, thenQ_ret, e0, aLen, kind22, w1, hnz, hl, hv]
      refine callK_RetH (by simp [fn18]) (refJoin_ret W h1 v _ hvs hlen hsm) ?_
      simp [Wc_seq, Wc_block, Wc_scope, Wc_skip, Wc_label, Wc_exit, Wc_ret, Wc_loop, Wc_region, Wc_cond, Nx_nil, Nx_seq, Nx_seq_exit, Nx_seq_ret, Nx_block, Nx_block_exit, Nx_block_ret, Rg_nil, Rg_cons, RgE, effA, calleeA, wantedA, enterN, ev, ofV, ofVn, putE, evalN, aBin, aInt_add, aInt_sub, aInt_mul, aInt_quo, aInt_rem, aInt_eql, aInt_neq, aInt_lss, aInt_leq, aInt_gtr, aInt_geq, aExtract, finQ_ret, resOf, extU, kq_eq, thenQ_normal, thenQ_exit, thenQ_ret]
      refine draw1 (cc_ok W) [0, 1, 2, 3, 4, 5, 6, 7, 8, 9] (by kernel_rfl) (by kernel_rfl) (by kernel_rfl) rfl ?_
      simp [Wc_seq, Wc_block, Wc_scope, Wc_skip, Wc_label, Wc_exit, Wc_ret, Wc_loop, Wc_region, Wc_cond, Nx_nil, Nx_seq, Nx_seq_exit, Nx_seq_ret, Nx_block, Nx_block_exit, Nx_block_ret, Rg_nil, Rg_cons, RgE, effA, calleeA, wantedA, enterN, ev, ofV, ofVn, putE, evalN, aBin, aInt_add, aInt_sub, aInt_mul, aInt_quo, aInt_rem, aInt_eql, aInt_neq, aInt_lss, aInt_leq, aInt_gtr, aInt_geq, aExtract, finQ_ret, resOf, extU, kq_eq, thenQ_normal, thenQ_exit, thenQ_ret, aLen, kind22, w1, hix, hld, hk1]
  · have hr : parentR p = ([], [], (splitR p).2) := by simp [parentR, e0]
    have hne : ((splitR p).2 != 0) = true := by simp [e0]
    rw [hr]
    simp [Wc_seq, Wc_block, Wc_scope, Wc_skip, Wc_label, Wc_exit, Wc_ret, Wc_loop, Wc_region, Wc_cond, Nx_nil, Nx_seq, Nx_seq_exit, Nx_seq_ret, Nx_block, Nx_block_exit, Nx_block_ret, Rg_nil, Rg_cons, RgE, effA, calleeA, wantedA, enterN, ev, ofV, ofVn, putE, evalN, aBin, aInt_add, aInt_sub, aInt_mul, aInt_quo, aInt_rem, aInt_eql, aInt_neq, aInt_lss, aInt_leq, aInt_gtr, aInt_geq, aExtract, finQ_ret, resOf, extU, kq_eq, thenQ_normal, thenQ_exit, thenQ_ret, e0, hne, hk1]
end Go.Proofs.YtkgnhobaclngkaaDoor.Ax
