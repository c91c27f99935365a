/- Lists of texts: the same, which is ahead, which begins with which. -/
import Derived.Test.YtkgnhobaclngkaaDoorSl
set_option linter.unusedVariables false
set_option linter.unusedSimpArgs false
namespace Go.Proofs.YtkgnhobaclngkaaDoor.Ax
open Go.RowKit

/-- A comparison that tells an order. -/
structure Ord3 {α : Type} (c : α → α → Int) : Prop where
  eq : ∀ x y, c x y = 0 ↔ x = y
  anti : ∀ x y, c y x = - c x y
  trans : ∀ x y z, c x y < 0 → c y z < 0 → c x z < 0

def lexC {α : Type} (c : α → α → Int) : List α → List α → Int
  | [], [] => 0
  | [], _ :: _ => -1
  | _ :: _, [] => 1
  | x :: a, y :: b => if c x y = 0 then lexC c a b else c x y

theorem Ord3.lex {α : Type} {c : α → α → Int} (h : Ord3 c) : Ord3 (lexC c) where
  eq := by
    intro x
    induction x with
    | nil => intro y; cases y <;> simp [lexC]
    | cons a x ih =>
      intro y
      cases y with
      | nil => simp [lexC]
      | cons b y =>
        simp only [lexC]
        split
        · rename_i h0
          rw [ih y, (h.eq a b).1 h0]
          simp
        · rename_i h0
          constructor
          · intro e; exact absurd e h0
          · intro e; simp only [List.cons.injEq] at e; exact absurd ((h.eq a b).2 e.1) h0
  anti := by
    intro x
    induction x with
    | nil => intro y; cases y <;> simp [lexC]
    | cons a x ih =>
      intro y
      cases y with
      | nil => simp [lexC]
      | cons b y =>
        simp only [lexC]
        have := h.anti a b
        by_cases h0 : c a b = 0
        · rw [if_pos h0, if_pos (by omega), ih y]
        · rw [if_neg h0, if_neg (by omega), this]
  trans := by
    intro x
    induction x with
    | nil =>
      intro y z h1 h2
      cases y with
      | nil => simp [lexC] at h1
      | cons b y => cases z with
        | nil => simp [lexC] at h2
        | cons d z => simp [lexC]
    | cons a x ih =>
      intro y z h1 h2
      cases y with
      | nil => simp [lexC] at h1
      | cons b y =>
        cases z with
        | nil => simp [lexC] at h2
        | cons d z =>
          simp only [lexC] at h1 h2 ⊢
          by_cases e1 : c a b = 0
          · rw [if_pos e1] at h1
            obtain rfl := (h.eq a b).1 e1
            by_cases e2 : c a d = 0
            · rw [if_pos e2] at h2 ⊢
              exact ih y z h1 h2
            · rw [if_neg e2] at h2 ⊢
              exact h2
          · rw [if_neg e1] at h1
            by_cases e2 : c b d = 0
            · obtain rfl := (h.eq b d).1 e2
              rw [if_neg e1]; exact h1
            · rw [if_neg e2] at h2
              have h3 := h.trans a b d h1 h2
              rw [if_neg (by omega)]; exact h3

def byteC (x y : UInt8) : Int := if x < y then -1 else if y < x then 1 else 0

theorem byteC_ord : Ord3 byteC := by
  refine ⟨fun x y => ?_, fun x y => ?_, fun x y z h1 h2 => ?_⟩
  · unfold byteC
    simp only [UInt8.lt_iff_toNat_lt, ← UInt8.toNat_inj]
    split
    · simp; omega
    · split
      · simp; omega
      · simp; omega
  · unfold byteC
    simp only [UInt8.lt_iff_toNat_lt]
    by_cases h1 : x.toNat < y.toNat
    · rw [if_neg (by omega), if_pos h1, if_pos h1]; rfl
    · by_cases h2 : y.toNat < x.toNat
      · rw [if_pos h2, if_neg h1, if_pos h2]
      · rw [if_neg h2, if_neg h1, if_neg h1, if_neg h2]; rfl
  · unfold byteC at *
    simp only [UInt8.lt_iff_toNat_lt] at *
    have a1 : x.toNat < y.toNat := by
      by_cases h : x.toNat < y.toNat
      · exact h
      · rw [if_neg h] at h1; split at h1 <;> simp at h1
    have a2 : y.toNat < z.toNat := by
      by_cases h : y.toNat < z.toNat
      · exact h
      · rw [if_neg h] at h2; split at h2 <;> simp at h2
    rw [if_pos (by omega)]; decide

theorem compareBytes_lex : ∀ x y : List UInt8, Lib.compareBytes x y = lexC byteC x y
  | [], [] => rfl
  | [], _ :: _ => rfl
  | _ :: _, [] => rfl
  | x :: a, y :: b => by
    have ih := compareBytes_lex a b
    unfold Lib.compareBytes lexC
    rw [ih]
    unfold byteC
    by_cases h1 : x < y
    · simp [h1]
    · by_cases h2 : y < x
      · simp [h1, h2]
      · simp [h1, h2]

/-- Which text is ahead. -/
def txtC (x y : List UInt8) : Int := Lib.compareBytes x y
theorem txtC_ord : Ord3 txtC := by
  have : txtC = lexC byteC := by funext x y; exact compareBytes_lex x y
  rw [this]; exact byteC_ord.lex

theorem less_txt : ∀ x y : List UInt8, Op.bytesLess x y = decide (txtC x y < 0)
  | [], [] => rfl
  | [], _ :: _ => rfl
  | _ :: _, [] => rfl
  | x :: a, y :: b => by
    have ih := less_txt a b
    unfold txtC at ih ⊢
    unfold Op.bytesLess Lib.compareBytes
    rw [ih]
    by_cases h1 : x < y
    · simp [h1]
    · by_cases h2 : y < x
      · have : (x == y) = false := by rw [beq_eq_false_iff_ne]; intro e; subst e; exact UInt8.lt_irrefl x h2
        simp [h1, h2, this]
      · have : x = y := by
          apply UInt8.toNat_inj.1
          simp only [UInt8.lt_iff_toNat_lt] at h1 h2
          omega
        simp [h1, h2, this]

/-- Which list of texts is ahead. -/
def txtsC : List (List UInt8) → List (List UInt8) → Int := lexC txtC
theorem txtsC_ord : Ord3 txtsC := txtC_ord.lex

set_option maxRecDepth 20000 in
theorem compare_ret (W : World) (s u : List UInt8) : Ret (CC W) 37 [.str s, .str u] (.int .i64 (txtC s u)) := by
  intro h
  refine acall_fin (cc_ok W) (fn37 W) (by simp only [Tryd.f37]; rfl) rfl rfl ?_
  simp [Wc_seq, Wc_block, Wc_scope, Wc_skip, Wc_label, Wc_exit, Wc_ret, Wc_loop, Wc_region, Wc_cond, Nx_nil, Nx_seq, Nx_seq_exit, Nx_seq_ret, Nx_block, Nx_block_exit, Nx_block_ret, Rg_nil, Rg_cons, RgE, effA, calleeA, wantedA, enterN, ev, ofV, ofVn, putE, evalN, aBin, aInt_add, aInt_sub, aInt_mul, aInt_quo, aInt_rem, aInt_eql, aInt_neq, aInt_lss, aInt_leq, aInt_gtr, aInt_geq, aExtract, finQ_ret, resOf, extU, kq_eq, thenQ_normal, thenQ_exit, thenQ_ret, cmpA, txtC]
set_option maxRecDepth 20000 in
theorem Compare_ret (W : World) (s u : List UInt8) : Ret (CC W) 28 [.str s, .str u] (.int .i64 (txtC s u)) := by
  intro h
  refine acall_fin (cc_ok W) (fn28 W) (by simp only [Tryd.f28]; rfl) rfl rfl ?_
  simp [Wc_seq, Wc_block, Wc_scope, Wc_skip, Wc_label, Wc_exit, Wc_ret, Wc_loop, Wc_region, Wc_cond, Nx_nil, Nx_seq, Nx_seq_exit, Nx_seq_ret, Nx_block, Nx_block_exit, Nx_block_ret, Rg_nil, Rg_cons, RgE, effA, calleeA, wantedA, enterN, ev, ofV, ofVn, putE, evalN, aBin, aInt_add, aInt_sub, aInt_mul, aInt_quo, aInt_rem, aInt_eql, aInt_neq, aInt_lss, aInt_leq, aInt_gtr, aInt_geq, aExtract, finQ_ret, resOf, extU, kq_eq, thenQ_normal, thenQ_exit, thenQ_ret]
  refine callK_Ret (by simp [fn37]) (compare_ret W s u) ?_
  simp [Wc_seq, Wc_block, Wc_scope, Wc_skip, Wc_label, Wc_exit, Wc_ret, Wc_loop, Wc_region, Wc_cond, Nx_nil, Nx_seq, Nx_seq_exit, Nx_seq_ret, Nx_block, Nx_block_exit, Nx_block_ret, Rg_nil, Rg_cons, RgE, effA, calleeA, wantedA, enterN, ev, ofV, ofVn, putE, evalN, aBin, aInt_add, aInt_sub, aInt_mul, aInt_quo, aInt_rem, aInt_eql, aInt_neq, aInt_lss, aInt_leq, aInt_gtr, aInt_geq, aExtract, finQ_ret, resOf, extU, kq_eq, thenQ_normal, thenQ_exit, thenQ_ret]
set_option maxRecDepth 20000 in
theorem cmp_ret (W : World) (s u : List UInt8) : Ret (CC W) 27 [.str s, .str u] (.int .i64 (txtC s u)) := by
  intro h
  refine acall_fin (cc_ok W) (fn27 W) (by simp only [Tryd.f27]; rfl) rfl rfl ?_
  simp [Wc_seq, Wc_block, Wc_scope, Wc_skip, Wc_label, Wc_exit, Wc_ret, Wc_loop, Wc_region, Wc_cond, Nx_nil, Nx_seq, Nx_seq_exit, Nx_seq_ret, Nx_block, Nx_block_exit, Nx_block_ret, Rg_nil, Rg_cons, RgE, effA, calleeA, wantedA, enterN, ev, ofV, ofVn, putE, evalN, aBin, aInt_add, aInt_sub, aInt_mul, aInt_quo, aInt_rem, aInt_eql, aInt_neq, aInt_lss, aInt_leq, aInt_gtr, aInt_geq, aExtract, finQ_ret, resOf, extU, kq_eq, thenQ_normal, thenQ_exit, thenQ_ret]
  refine callK_Ret (by simp [fn28]) (Compare_ret W s u) ?_
  simp [Wc_seq, Wc_block, Wc_scope, Wc_skip, Wc_label, Wc_exit, Wc_ret, Wc_loop, Wc_region, Wc_cond, Nx_nil, Nx_seq, Nx_seq_exit, Nx_seq_ret, Nx_block, Nx_block_exit, Nx_block_ret, Rg_nil, Rg_cons, RgE, effA, calleeA, wantedA, enterN, ev, ofV, ofVn, putE, evalN, aBin, aInt_add, aInt_sub, aInt_mul, aInt_quo, aInt_rem, aInt_eql, aInt_neq, aInt_lss, aInt_leq, aInt_gtr, aInt_geq, aExtract, finQ_ret, resOf, extU, kq_eq, thenQ_normal, thenQ_exit, thenQ_ret]

def CfI (va vb : AV) (a b : List (List UInt8)) (h : AH) (m : Nat) (e' : Env) (h' : AH) : Prop :=
  h' = h ∧ e'.length = 39 ∧ ∃ k : Nat, k + m = a.length ∧ k ≤ b.length ∧ txtsC a b = txtsC (a.drop k) (b.drop k) ∧ (e'.getD 0 .undef = va ∧ e'.getD 1 .undef = vb ∧ e'.getD 2 .undef = .fn (.func 27) [] [] ∧ e'.getD 11 .undef = va ∧ e'.getD 12 .undef = .int .i64 a.length ∧ e'.getD 13 .undef = .int .i64 k)

theorem drop_cons {a : List (List UInt8)} {k : Nat} {x : List UInt8} (h : a[k]? = some x) : a.drop k = x :: a.drop (k + 1) := by
  obtain ⟨hk, rfl⟩ := List.getElem?_eq_some_iff.1 h
  exact List.drop_eq_getElem_cons hk

set_option maxHeartbeats 4000000 in
set_option maxRecDepth 20000 in
theorem compareFunc_ret (W : World) (h : AH) (va vb : AV) (a b : List (List UInt8)) (ha : StrS W h va a) (hb : StrS W h vb b) (hla : a.length < 9223372036854775808) (hlb : b.length < 9223372036854775808) :
    RetH (CC W) 26 [va, vb, .fn (.func 27) [] []] h (.int .i64 (txtsC a b)) := by
  refine acall_fin (cc_ok W) (fn26 W) (by simp only [Tryd.f26]; rfl) rfl rfl ?_
  obtain ⟨pa, ca, ga, rfl⟩ := ha.len
  obtain ⟨pb, cb, gb, rfl⟩ := hb.len
  simp [Wc_seq, Wc_block, Wc_scope, Wc_skip, Wc_label, Wc_exit, Wc_ret, Wc_loop, Wc_region, Wc_cond, Nx_nil, Nx_seq, Nx_seq_exit, Nx_seq_ret, Nx_block, Nx_block_exit, Nx_block_ret, Rg_nil, Rg_cons, RgE, effA, calleeA, wantedA, enterN, ev, ofV, ofVn, putE, evalN, aBin, aInt_add, aInt_sub, aInt_mul, aInt_quo, aInt_rem, aInt_eql, aInt_neq, aInt_lss, aInt_leq, aInt_gtr, aInt_geq, aExtract, finQ_ret, resOf, extU, kq_eq, thenQ_normal, thenQ_exit, thenQ_ret, aLen, kind22]
  refine loopN (cc_ok W) (CfI (.sl pa a.length ca ga) (.sl pb b.length cb gb) a b h) a.length ⟨rfl, by simp, 0, by simp, by simp, rfl, by simp⟩ ?_
  rintro m e' h' ⟨rfl, hl, k, hkm, hkb, hc, hh⟩
  match e', hl with
  | a0 :: a1 :: a2 :: a3 :: a4 :: a5 :: a6 :: a7 :: a8 :: a9 :: a10 :: a11 :: a12 :: a13 :: a14 :: a15 :: a16 :: a17 :: a18 :: a19 :: a20 :: a21 :: a22 :: a23 :: a24 :: a25 :: a26 :: a27 :: a28 :: a29 :: a30 :: a31 :: a32 :: a33 :: a34 :: a35 :: a36 :: a37 :: a38 :: [], _ =>
    simp at hh
    obtain ⟨rfl, rfl, rfl, rfl, rfl, rfl⟩ := hh
    by_cases hlt : k < a.length
    · have hlt' : (k : Int) < (a.length : Int) := by omega
      have hx : a[k]? = some a[k] := by simp [hlt]
      obtain ⟨a', hix, hld⟩ := ha.at hx
      rw [drop_cons hx] at hc
      generalize a[k] = x at hx hld hc
      by_cases hlb2 : k < b.length
      · have hge : ¬ (b.length : Int) ≤ (k : Int) := by omega
        have hge' : ¬ b.length ≤ k := by omega
        have hy : b[k]? = some b[k] := by simp [hlb2]
        obtain ⟨b', hiy, hldy⟩ := hb.at hy
        rw [drop_cons hy] at hc
        generalize b[k] = y at hy hldy hc
        have wk : IntKind.i64.wrap ((k : Int) + 1) = (k : Int) + 1 := wrap64 (by omega) (by omega)
        simp [Wc_seq, Wc_block, Wc_scope, Wc_skip, Wc_label, Wc_exit, Wc_ret, Wc_loop, Wc_region, Wc_cond, Nx_nil, Nx_seq, Nx_seq_exit, Nx_seq_ret, Nx_block, Nx_block_exit, Nx_block_ret, Rg_nil, Rg_cons, RgE, effA, calleeA, wantedA, enterN, ev, ofV, ofVn, putE, evalN, aBin, aInt_add, aInt_sub, aInt_mul, aInt_quo, aInt_rem, aInt_eql, aInt_neq, aInt_lss, aInt_leq, aInt_gtr, aInt_geq, aExtract, finQ_ret, resOf, extU, kq_eq, thenQ_normal, thenQ_exit, thenQ_ret, hlt, hlt', hix, hld, aLen, kind22, hge, hge', hiy, hldy]
        refine callK_Ret (by simp [fn27]) (cmp_ret W x y) ?_
        by_cases h0 : txtC x y = 0
        · simp [Wc_seq, Wc_block, Wc_scope, Wc_skip, Wc_label, Wc_exit, Wc_ret, Wc_loop, Wc_region, Wc_cond, Nx_nil, Nx_seq, Nx_seq_exit, Nx_seq_ret, Nx_block, Nx_block_exit, Nx_block_ret, Rg_nil, Rg_cons, RgE, effA, calleeA, wantedA, enterN, ev, ofV, ofVn, putE, evalN, aBin, aInt_add, aInt_sub, aInt_mul, aInt_quo, aInt_rem, aInt_eql, aInt_neq, aInt_lss, aInt_leq, aInt_gtr, aInt_geq, aExtract, finQ_ret, resOf, extU, kq_eq, thenQ_normal, thenQ_exit, thenQ_ret, h0, wk]
          refine ⟨m - 1, by omega, rfl, by simp, k + 1, by omega, by omega, ?_, by simp⟩
          rw [hc]
          simp only [txtsC, lexC, h0, if_true]
        · have : txtsC a b = txtC x y := by
            rw [hc]; simp only [txtsC, lexC, if_neg h0]
          simp [Wc_seq, Wc_block, Wc_scope, Wc_skip, Wc_label, Wc_exit, Wc_ret, Wc_loop, Wc_region, Wc_cond, Nx_nil, Nx_seq, Nx_seq_exit, Nx_seq_ret, Nx_block, Nx_block_exit, Nx_block_ret, Rg_nil, Rg_cons, RgE, effA, calleeA, wantedA, enterN, ev, ofV, ofVn, putE, evalN, aBin, aInt_add, aInt_sub, aInt_mul, aInt_quo, aInt_rem, aInt_eql, aInt_neq, aInt_lss, aInt_leq, aInt_gtr, aInt_geq, aExtract, finQ_ret, resOf, extU, kq_eq, thenQ_normal, thenQ_exit, thenQ_ret, h0, this]
      · have hge : (b.length : Int) ≤ (k : Int) := by omega
        have hge' : b.length ≤ k := by omega
        have : txtsC a b = 1 := by
          rw [hc, List.drop_eq_nil_of_le hge']; rfl
        simp [Wc_seq, Wc_block, Wc_scope, Wc_skip, Wc_label, Wc_exit, Wc_ret, Wc_loop, Wc_region, Wc_cond, Nx_nil, Nx_seq, Nx_seq_exit, Nx_seq_ret, Nx_block, Nx_block_exit, Nx_block_ret, Rg_nil, Rg_cons, RgE, effA, calleeA, wantedA, enterN, ev, ofV, ofVn, putE, evalN, aBin, aInt_add, aInt_sub, aInt_mul, aInt_quo, aInt_rem, aInt_eql, aInt_neq, aInt_lss, aInt_leq, aInt_gtr, aInt_geq, aExtract, finQ_ret, resOf, extU, kq_eq, thenQ_normal, thenQ_exit, thenQ_ret, hlt, hlt', hix, hld, aLen, kind22, hge, hge', this]
    · have hlt' : ¬ (k : Int) < (a.length : Int) := by omega
      have hka : k = a.length := by omega
      rw [List.drop_eq_nil_of_le (show a.length ≤ k by omega)] at hc
      by_cases hll : a.length < b.length
      · have hll' : (a.length : Int) < (b.length : Int) := by omega
        have : txtsC a b = -1 := by
          rw [hc]
          cases hd : b.drop k with
          | nil => have := congrArg List.length hd; simp at this; omega
          | cons y r => rfl
        simp [Wc_seq, Wc_block, Wc_scope, Wc_skip, Wc_label, Wc_exit, Wc_ret, Wc_loop, Wc_region, Wc_cond, Nx_nil, Nx_seq, Nx_seq_exit, Nx_seq_ret, Nx_block, Nx_block_exit, Nx_block_ret, Rg_nil, Rg_cons, RgE, effA, calleeA, wantedA, enterN, ev, ofV, ofVn, putE, evalN, aBin, aInt_add, aInt_sub, aInt_mul, aInt_quo, aInt_rem, aInt_eql, aInt_neq, aInt_lss, aInt_leq, aInt_gtr, aInt_geq, aExtract, finQ_ret, resOf, extU, kq_eq, thenQ_normal, thenQ_exit, thenQ_ret, hlt, hlt', aLen, kind22, hll, hll', this]
      · have hll' : ¬ (a.length : Int) < (b.length : Int) := by omega
        have : txtsC a b = 0 := by
          rw [hc, List.drop_eq_nil_of_le (by omega)]; rfl
        simp [Wc_seq, Wc_block, Wc_scope, Wc_skip, Wc_label, Wc_exit, Wc_ret, Wc_loop, Wc_region, Wc_cond, Nx_nil, Nx_seq, Nx_seq_exit, Nx_seq_ret, Nx_block, Nx_block_exit, Nx_block_ret, Rg_nil, Rg_cons, RgE, effA, calleeA, wantedA, enterN, ev, ofV, ofVn, putE, evalN, aBin, aInt_add, aInt_sub, aInt_mul, aInt_quo, aInt_rem, aInt_eql, aInt_neq, aInt_lss, aInt_leq, aInt_gtr, aInt_geq, aExtract, finQ_ret, resOf, extU, kq_eq, thenQ_normal, thenQ_exit, thenQ_ret, hlt, hlt', aLen, kind22, hll, hll', this]

set_option maxRecDepth 20000 in
theorem less_ret (W : World) (h : AH) (va vb : AV) (a b : List (List UInt8)) (ha : StrS W h va a) (hb : StrS W h vb b) (hla : a.length < 9223372036854775808) (hlb : b.length < 9223372036854775808) :
    RetH (CC W) 19 [va, vb] h (.bool (decide (txtsC a b < 0))) := by
  refine acall_fin (cc_ok W) (fn19 W) (by simp only [Tryd.f19]; rfl) rfl rfl ?_
  simp [Wc_seq, Wc_block, Wc_scope, Wc_skip, Wc_label, Wc_exit, Wc_ret, Wc_loop, Wc_region, Wc_cond, Nx_nil, Nx_seq, Nx_seq_exit, Nx_seq_ret, Nx_block, Nx_block_exit, Nx_block_ret, Rg_nil, Rg_cons, RgE, effA, calleeA, wantedA, enterN, ev, ofV, ofVn, putE, evalN, aBin, aInt_add, aInt_sub, aInt_mul, aInt_quo, aInt_rem, aInt_eql, aInt_neq, aInt_lss, aInt_leq, aInt_gtr, aInt_geq, aExtract, finQ_ret, resOf, extU, kq_eq, thenQ_normal, thenQ_exit, thenQ_ret]
  refine callK_RetH (by simp [fn26]) (compareFunc_ret W h va vb a b ha hb hla hlb) ?_
  simp [Wc_seq, Wc_block, Wc_scope, Wc_skip, Wc_label, Wc_exit, Wc_ret, Wc_loop, Wc_region, Wc_cond, Nx_nil, Nx_seq, Nx_seq_exit, Nx_seq_ret, Nx_block, Nx_block_exit, Nx_block_ret, Rg_nil, Rg_cons, RgE, effA, calleeA, wantedA, enterN, ev, ofV, ofVn, putE, evalN, aBin, aInt_add, aInt_sub, aInt_mul, aInt_quo, aInt_rem, aInt_eql, aInt_neq, aInt_lss, aInt_leq, aInt_gtr, aInt_geq, aExtract, finQ_ret, resOf, extU, kq_eq, thenQ_normal, thenQ_exit, thenQ_ret]
end Go.Proofs.YtkgnhobaclngkaaDoor.Ax
