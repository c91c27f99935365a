/- The path of names. -/
import Derived.Test.YtkgnhobaclngkaaDoorName
import Derived.Test.YtkgnhobaclngkaaDoorLess
import Derived.Test.YtkgnhobaclngkaaDoorShelf
set_option linter.unusedVariables false
set_option linter.unusedSimpArgs false
namespace Go.Proofs.YtkgnhobaclngkaaDoor.Ax
open Go.RowKit

/-- What grows behind the own blocks changes nothing. -/
theorem Rel.belowEnd {W0 W W' : World} {ρ : Rho} {h : AH} (R : Rel W0 ρ h W) (hb : Below W.heap.size W W') : Rel W0 ρ h W' where
  below := R.below.trans (hb.mono R.below.size)
  len := R.len
  live := fun k o hk => by
    obtain ⟨r, h1, h2, h3⟩ := R.live k o hk
    exact ⟨r, h1, h2, h3.world (hb.block _ h3.lt)⟩
  inj := R.inj

/-- A call whose contract is the kit's. -/
theorem retH_of_calls {C : Cx} {f : FuncId} {args : List AV} {h : AH} {v : AV} (hc : ∀ ρ W (vs : Array Value), Rel C.W0 ρ h W → VsRel ρ args vs.toList → Calls C.P f vs W fun e W' => (∃ V, e = .returned V ∧ VRel ρ v V) ∧ Below W.heap.size W W') : RetH C f args h v := by
  intro ρ W vs R hv
  refine (hc ρ W vs R hv).mono fun e W' ⟨⟨V, he, hV⟩, hb⟩ => ?_
  subst he
  exact ⟨ρ, v, h, List.prefix_refl _, R.belowEnd hb, hV, rfl, rfl⟩

theorem ARel.form {ρ : Rho} {a : AA} {A : Addr} (h : ARel ρ a A) : ∃ b o, A = ⟨b, o, none⟩ := by
  cases a with
  | base b o => exact ⟨b, o, h⟩
  | new k o => obtain ⟨r, _, hA⟩ := h; exact ⟨_, _, hA⟩

theorem cap_of {ρ : Rho} {a : AA} {len cap : Nat} {gr : Option Nat} {X : Value} (hx : VRel ρ (.sl (some a) len cap gr) X) (hl : 0 < len) (hc : len ≤ cap) : ∃ A cap', X = .slice (some A) len cap' ∧ ARel ρ a A ∧ len ≤ cap' := by
  cases a with
  | base b o => simp only [VRel] at hx; exact ⟨_, _, hx.2, rfl, hc⟩
  | new k o =>
    simp only [VRel] at hx
    obtain ⟨r, A, cap', hr, hX, h1, h2, h3, h4⟩ := hx
    rcases h4 with ⟨hA, _⟩ | h0
    · exact ⟨A, cap', hX, ⟨r, hr, hA⟩, h1⟩
    · omega

theorem sl_zero {ρ : Rho} {a : Option AA} {cap : Nat} {gr : Option Nat} {X : Value} (hx : VRel ρ (.sl a 0 cap gr) X) : ∃ A cap', X = .slice A 0 cap' := by
  cases a with
  | none => simp only [VRel] at hx; exact ⟨_, _, hx.2.2.2⟩
  | some a => cases a with
    | base b o => simp only [VRel] at hx; exact ⟨_, _, hx.2⟩
    | new k o => simp only [VRel] at hx; obtain ⟨r, A, cap', hr, hX, _⟩ := hx; exact ⟨_, _, hX⟩

theorem gojoin_ret (W : World) (h : AH) (v : AV) (l : List (List UInt8)) (hs : StrS W h v l) (hl : (Lib.join l [47]).length < 8796093022207) (hn : l.length < 8796093022207) :
    RetH (CC W) 25 [v, .str [47]] h (.str (Lib.join l [47])) := by
  refine retH_of_calls fun ρ W1 vs R hv => ?_
  obtain ⟨a, c, gr, rfl, ⟨hcl, _⟩, hc⟩ := hs
  simp only [VsRel] at hv
  obtain ⟨X, r1, e1, hX, Y, r2, e2, hY, e3⟩ := hv
  subst e3
  have eY := str_rel hY
  rw [e2] at e1
  by_cases h0 : l = []
  · subst h0
    obtain ⟨A, cap', rfl⟩ := sl_zero hX
    have ev : vs = #[.slice A 0 cap', .string ⟨#[47]⟩] := Array.toList_inj.1 (by rw [e1, eY])
    rw [ev]
    refine (Sh.strings_Join_none A cap' ⟨#[47]⟩ W1).mono fun e W' ⟨he, hw⟩ => ⟨⟨_, he, by simp [VRel, Lib.join_nil]⟩, hw ▸ Below.refl _ _⟩
  · have hpos : 0 < l.length := List.length_pos_iff.2 h0
    obtain ⟨a', ha, _, hc0⟩ := hc 0 l[0] (by simp [hpos])
    subst ha
    obtain ⟨A, cap', rfl, hA, hcap⟩ := cap_of hX hpos hcl
    obtain ⟨b, o, rfl⟩ := hA.form
    have hcells : ∀ (j : Nat) x, l[j]? = some x → W1.cell? ⟨b, o + j, none⟩ = some (.string ⟨x.toArray⟩) := by
      intro j x hx
      obtain ⟨a2, h2, _, hcell⟩ := hc j x hx
      cases h2
      obtain ⟨V, hV, hr⟩ := cell_rel R (hA.add j) hcell
      rw [add_addr] at hV
      rw [hV, str_rel hr]
    have ev : vs = #[.slice (some ⟨b, o, none⟩) l.length cap', .string ⟨#[47]⟩] := Array.toList_inj.1 (by rw [e1, eY])
    have hm : (l.map fun x => (⟨x.toArray⟩ : ByteArray)).map (·.data.toList) = l := by
      rw [List.map_map]; simp [Function.comp_def]
    have := Sh.strings_Join b o cap' (l.map fun x => (⟨x.toArray⟩ : ByteArray)) ⟨#[47]⟩ W1 (fun j x hx => by
        rw [List.getElem?_map, Option.map_eq_some_iff] at hx
        obtain ⟨y, hy, rfl⟩ := hx
        exact hcells j y hy)
      (World.block_lt_of_cell? _ _ (hcells 0 l[0] (by simp [hpos]))) (by simp; omega) (by simpa using hcap) (by rw [hm]; show (Lib.join l [47]).length ≤ _; omega)
    rw [hm, List.length_map] at this
    rw [ev]
    exact this.mono fun e W' ⟨he, hw⟩ => ⟨⟨_, he, by simp [VRel]⟩, hw⟩

/-- The names one behind the other, each behind a slash. -/
def catR (l : List (List UInt8)) : List UInt8 := (l.map fun x => 47 :: x).flatten

theorem join_cat (l : List (List UInt8)) (h : l ≠ []) : 47 :: Lib.join l [47] = catR l := by
  cases l with
  | nil => exact absurd rfl h
  | cons x r => rw [Lib.join_cons]; simp [catR, Lib.joinTail]

/-- What a Join tells. -/
def joinR (l : List (List UInt8)) : List UInt8 × Int := match l.find? (fun s => nameR s != 0) with
  | some s => ([], nameR s)
  | none => if 8 < l.length then ([], 308) else (if l = [] then [47] else catR l, 0)

theorem joinR_bad {l r : List (List UInt8)} {s : List UInt8} (h : ∀ x ∈ l, nameR x = 0) (hs : nameR s ≠ 0) : joinR (l ++ s :: r) = ([], nameR s) := by
  have : (l ++ s :: r).find? (fun s => nameR s != 0) = some s := by
    rw [List.find?_append]
    have : l.find? (fun s => nameR s != 0) = none := by
      rw [List.find?_eq_none]; intro x hx; simp [h x hx]
    simp [this, hs]
  simp [joinR, this]
theorem joinR_ok {l : List (List UInt8)} (h : ∀ x ∈ l, nameR x = 0) : joinR l = if 8 < l.length then ([], 308) else (if l = [] then [47] else catR l, 0) := by
  have : l.find? (fun s => nameR s != 0) = none := by
    rw [List.find?_eq_none]; intro x hx; simp [h x hx]
  simp [joinR, this]

theorem nameR_len {x : List UInt8} (h : nameR x = 0) : x.length ≤ 24 := by
  unfold nameR at h
  split at h
  · simp at h
  · split at h
    · simp at h
    · split at h
      · simp at h
      · omega

theorem catR_len : ∀ {l : List (List UInt8)}, (∀ x ∈ l, nameR x = 0) → (catR l).length ≤ 25 * l.length
  | [], _ => by simp [catR]
  | x :: r, h => by
    have h1 := nameR_len (h x (by simp))
    have h2 := catR_len (l := r) fun y hy => h y (by simp [hy])
    have e : catR (x :: r) = 47 :: x ++ catR r := by simp [catR]
    rw [e]
    simp
    omega

theorem split_at {l : List (List UInt8)} {k : Nat} {x : List UInt8} (hx : l[k]? = some x) : l = l.take k ++ x :: l.drop (k + 1) := by
  obtain ⟨hlt, rfl⟩ := List.getElem?_eq_some_iff.1 hx
  have h1 := List.take_append_drop k l
  rw [List.drop_eq_getElem_cons hlt] at h1
  exact h1.symm
theorem take_all {l : List (List UInt8)} {k : Nat} (hno : ∀ j x, j < k → l[j]? = some x → nameR x = 0) : ∀ y ∈ l.take k, nameR y = 0 := by
  intro y hy
  obtain ⟨j, hj⟩ := List.getElem?_of_mem hy
  rw [List.getElem?_take] at hj
  split at hj
  · rename_i hjk; exact hno j y hjk hj
  · simp at hj

theorem str_add {x y : List UInt8} (h : x.length + y.length < 4611686018427387904) : aStr .add x y = some (.str (x ++ y)) := by
  have hm : IntKind.i64.max = 9223372036854775807 := by decide
  simp only [aStr, hm]
  rw [if_neg (by omega)]

def JnI (h : AH) (v : AV) (l : List (List UInt8)) (m : Nat) (e' : Env) (h' : AH) : Prop :=
  Keeps h h' ∧ e'.length = 25 ∧ ∃ k : Nat, k + m = l.length ∧ (∀ j x, j < k → l[j]? = some x → nameR x = 0) ∧ (e'.getD 0 .undef = v ∧ e'.getD 7 .undef = v ∧ e'.getD 8 .undef = .int .i64 l.length ∧ e'.getD 9 .undef = .int .i64 k)

set_option maxHeartbeats 4000000 in
set_option maxRecDepth 20000 in
theorem join_ret (W : World) (h : AH) (v : AV) (l : List (List UInt8)) (hs : StrS W h v l) (hn : l.length < 8796093022207) : RetQ (CC W) 17 [v] h fun w _ => w = .tup [.str (joinR l).1, .int .i64 (joinR l).2] := by
  refine acall_fin (cc_ok W) (fn17 W) (by simp only [Tryd.f17]; rfl) rfl rfl ?_
  obtain ⟨a, cp, gr, rfl⟩ := hs.len
  simp [Wc_seq, Wc_block, Wc_scope, Wc_skip, Wc_label, Wc_exit, Wc_ret, Wc_loop, Wc_region, Wc_cond, Nx_nil, Nx_seq, Nx_seq_exit, Nx_seq_ret, Nx_block, Nx_block_exit, Nx_block_ret, Rg_nil, Rg_cons, RgE, effA, calleeA, wantedA, enterN, ev, ofV, ofVn, putE, evalN, aBin, aInt_add, aInt_sub, aInt_mul, aInt_quo, aInt_rem, aInt_eql, aInt_neq, aInt_lss, aInt_leq, aInt_gtr, aInt_geq, aExtract, finQ_ret, resOf, extU, kq_eq, thenQ_normal, thenQ_exit, thenQ_ret, aLen, kind22]
  refine loopN (cc_ok W) (JnI h (.sl a l.length cp gr) l) l.length ⟨Keeps.refl _, by simp, 0, by simp, fun j x hj => by omega, by simp⟩ ?_
  rintro m e' h' ⟨hk2, hl, k, hkm, hno, hh⟩
  match e', hl with
  | a0 :: a1 :: a2 :: a3 :: a4 :: a5 :: a6 :: a7 :: a8 :: a9 :: a10 :: a11 :: a12 :: a13 :: a14 :: a15 :: a16 :: a17 :: a18 :: a19 :: a20 :: a21 :: a22 :: a23 :: a24 :: [], _ =>
    simp at hh
    obtain ⟨rfl, rfl, rfl, rfl⟩ := hh
    by_cases hlt : k < l.length
    · have hx : l[k]? = some l[k] := by simp [hlt]
      obtain ⟨a', hix, hld⟩ := (hs.keeps hk2).at hx
      have hlt' : (k : Int) < (l.length : Int) := by omega
      have wk : IntKind.i64.wrap ((k : Int) + 1) = (k : Int) + 1 := wrap64 (by omega) (by omega)
      generalize l[k] = x at hx hld
      simp [Wc_seq, Wc_block, Wc_scope, Wc_skip, Wc_label, Wc_exit, Wc_ret, Wc_loop, Wc_region, Wc_cond, Nx_nil, Nx_seq, Nx_seq_exit, Nx_seq_ret, Nx_block, Nx_block_exit, Nx_block_ret, Rg_nil, Rg_cons, RgE, effA, calleeA, wantedA, enterN, ev, ofV, ofVn, putE, evalN, aBin, aInt_add, aInt_sub, aInt_mul, aInt_quo, aInt_rem, aInt_eql, aInt_neq, aInt_lss, aInt_leq, aInt_gtr, aInt_geq, aExtract, finQ_ret, resOf, extU, kq_eq, thenQ_normal, thenQ_exit, thenQ_ret, hlt, hlt', hix, hld]
      refine callK_RetX (by simp [fn14]) (name_ret W x) fun h3 hk3 => ?_
      by_cases hnx : nameR x = 0
      · simp [Wc_seq, Wc_block, Wc_scope, Wc_skip, Wc_label, Wc_exit, Wc_ret, Wc_loop, Wc_region, Wc_cond, Nx_nil, Nx_seq, Nx_seq_exit, Nx_seq_ret, Nx_block, Nx_block_exit, Nx_block_ret, Rg_nil, Rg_cons, RgE, effA, calleeA, wantedA, enterN, ev, ofV, ofVn, putE, evalN, aBin, aInt_add, aInt_sub, aInt_mul, aInt_quo, aInt_rem, aInt_eql, aInt_neq, aInt_lss, aInt_leq, aInt_gtr, aInt_geq, aExtract, finQ_ret, resOf, extU, kq_eq, thenQ_normal, thenQ_exit, thenQ_ret, hnx, wk]
        refine ⟨m - 1, by omega, hk2.trans hk3, by simp, k + 1, by omega, fun j y hj hy => ?_, by simp⟩
        rcases Nat.lt_or_ge j k with h | h
        · exact hno j y h hy
        · obtain rfl : j = k := by omega
          rw [hx] at hy; simp at hy; subst hy; exact hnx
      · have hj : joinR l = ([], nameR x) := by
          rw [split_at hx]
          exact joinR_bad (take_all hno) hnx
        simp [Wc_seq, Wc_block, Wc_scope, Wc_skip, Wc_label, Wc_exit, Wc_ret, Wc_loop, Wc_region, Wc_cond, Nx_nil, Nx_seq, Nx_seq_exit, Nx_seq_ret, Nx_block, Nx_block_exit, Nx_block_ret, Rg_nil, Rg_cons, RgE, effA, calleeA, wantedA, enterN, ev, ofV, ofVn, putE, evalN, aBin, aInt_add, aInt_sub, aInt_mul, aInt_quo, aInt_rem, aInt_eql, aInt_neq, aInt_lss, aInt_leq, aInt_gtr, aInt_geq, aExtract, finQ_ret, resOf, extU, kq_eq, thenQ_normal, thenQ_exit, thenQ_ret, hnx, hj]
        exact hk2.trans hk3
    · have hall : ∀ x ∈ l, nameR x = 0 := by
        intro x hx
        obtain ⟨j, hj⟩ := List.getElem?_of_mem hx
        exact hno j x (by have := (List.getElem?_eq_some_iff.1 hj).1; omega) hj
      have hlt' : ¬ (k : Int) < (l.length : Int) := by omega
      by_cases h8 : 8 < l.length
      · have hj : joinR l = ([], 308) := by rw [joinR_ok hall, if_pos h8]
        have h8' : (8 : Int) < (l.length : Int) := by omega
        simp [Wc_seq, Wc_block, Wc_scope, Wc_skip, Wc_label, Wc_exit, Wc_ret, Wc_loop, Wc_region, Wc_cond, Nx_nil, Nx_seq, Nx_seq_exit, Nx_seq_ret, Nx_block, Nx_block_exit, Nx_block_ret, Rg_nil, Rg_cons, RgE, effA, calleeA, wantedA, enterN, ev, ofV, ofVn, putE, evalN, aBin, aInt_add, aInt_sub, aInt_mul, aInt_quo, aInt_rem, aInt_eql, aInt_neq, aInt_lss, aInt_leq, aInt_gtr, aInt_geq, aExtract, finQ_ret, resOf, extU, kq_eq, thenQ_normal, thenQ_exit, thenQ_ret, hlt, hlt', aLen, kind22, h8, h8', hj]
        exact hk2
      · have hj : joinR l = (47 :: Lib.join l [47], 0) := by
          rw [joinR_ok hall, if_neg h8]
          by_cases h0 : l = []
          · subst h0; rfl
          · rw [if_neg h0, join_cat l h0]
        have h8' : ¬ (8 : Int) < (l.length : Int) := by omega
        have hjl : (Lib.join l [47]).length < 8796093022207 := by
          by_cases h0 : l = []
          · subst h0; simp [Lib.join_nil]
          · have := catR_len hall
            rw [← join_cat l h0] at this
            simp at this; omega
        simp [Wc_seq, Wc_block, Wc_scope, Wc_skip, Wc_label, Wc_exit, Wc_ret, Wc_loop, Wc_region, Wc_cond, Nx_nil, Nx_seq, Nx_seq_exit, Nx_seq_ret, Nx_block, Nx_block_exit, Nx_block_ret, Rg_nil, Rg_cons, RgE, effA, calleeA, wantedA, enterN, ev, ofV, ofVn, putE, evalN, aBin, aInt_add, aInt_sub, aInt_mul, aInt_quo, aInt_rem, aInt_eql, aInt_neq, aInt_lss, aInt_leq, aInt_gtr, aInt_geq, aExtract, finQ_ret, resOf, extU, kq_eq, thenQ_normal, thenQ_exit, thenQ_ret, hlt, hlt', aLen, kind22, h8, h8', hj]
        refine callK_RetH (by simp [fn25]) (gojoin_ret W h' _ l (hs.keeps hk2) hjl hn) ?_
        have hadd := str_add (x := [47]) (y := Lib.join l [47]) (by simp; omega)
        simp [Wc_seq, Wc_block, Wc_scope, Wc_skip, Wc_label, Wc_exit, Wc_ret, Wc_loop, Wc_region, Wc_cond, Nx_nil, Nx_seq, Nx_seq_exit, Nx_seq_ret, Nx_block, Nx_block_exit, Nx_block_ret, Rg_nil, Rg_cons, RgE, effA, calleeA, wantedA, enterN, ev, ofV, ofVn, putE, evalN, aBin, aInt_add, aInt_sub, aInt_mul, aInt_quo, aInt_rem, aInt_eql, aInt_neq, aInt_lss, aInt_leq, aInt_gtr, aInt_geq, aExtract, finQ_ret, resOf, extU, kq_eq, thenQ_normal, thenQ_exit, thenQ_ret, hadd]
        exact hk2

theorem catR_snoc (l : List (List UInt8)) (x : List UInt8) : catR (l ++ [x]) = catR l ++ 47 :: x := by simp [catR]
theorem catR_nil {l : List (List UInt8)} : catR l = [] ↔ l = [] := by
  cases l <;> simp [catR]

def RjI (h : AH) (v : AV) (l : List (List UInt8)) (m : Nat) (e' : Env) (h' : AH) : Prop :=
  h' = h ∧ e'.length = 30 ∧ ∃ k : Nat, k + m = l.length ∧ (∀ j x, j < k → l[j]? = some x → nameR x = 0) ∧ (e'.getD 0 .undef = v ∧ e'.getD 4 .undef = .str (catR (l.take k)) ∧ e'.getD 8 .undef = v ∧ e'.getD 9 .undef = .int .i64 l.length ∧ e'.getD 10 .undef = .int .i64 k)

set_option maxHeartbeats 4000000 in
set_option maxRecDepth 20000 in
theorem refJoin_ret (W : World) (h : AH) (v : AV) (l : List (List UInt8)) (hs : StrS W h v l) (hn : l.length < 8796093022207) (hsm : ∀ x ∈ l, x.length < 9223372036854775808) : RetH (CC W) 18 [v] h (.tup [.str (joinR l).1, .int .i64 (joinR l).2]) := by
  refine acall_fin (cc_ok W) (fn18 W) (by simp only [Tryd.f18]; rfl) rfl rfl ?_
  obtain ⟨a, cp, gr, rfl⟩ := hs.len
  simp [Wc_seq, Wc_block, Wc_scope, Wc_skip, Wc_label, Wc_exit, Wc_ret, Wc_loop, Wc_region, Wc_cond, Nx_nil, Nx_seq, Nx_seq_exit, Nx_seq_ret, Nx_block, Nx_block_exit, Nx_block_ret, Rg_nil, Rg_cons, RgE, effA, calleeA, wantedA, enterN, ev, ofV, ofVn, putE, evalN, aBin, aInt_add, aInt_sub, aInt_mul, aInt_quo, aInt_rem, aInt_eql, aInt_neq, aInt_lss, aInt_leq, aInt_gtr, aInt_geq, aExtract, finQ_ret, resOf, extU, kq_eq, thenQ_normal, thenQ_exit, thenQ_ret, aLen, kind22]
  refine loopN (cc_ok W) (RjI h (.sl a l.length cp gr) l) l.length ⟨rfl, by simp, 0, by simp, fun j x hj => by omega, by simp [catR]⟩ ?_
  rintro m e' h' ⟨rfl, hl, k, hkm, hno, hh⟩
  match e', hl with
  | a0 :: a1 :: a2 :: a3 :: a4 :: a5 :: a6 :: a7 :: a8 :: a9 :: a10 :: a11 :: a12 :: a13 :: a14 :: a15 :: a16 :: a17 :: a18 :: a19 :: a20 :: a21 :: a22 :: a23 :: a24 :: a25 :: a26 :: a27 :: a28 :: a29 :: [], _ =>
    simp at hh
    obtain ⟨rfl, rfl, rfl, rfl, rfl⟩ := hh
    by_cases hlt : k < l.length
    · have hx : l[k]? = some l[k] := by simp [hlt]
      obtain ⟨a', hix, hld⟩ := hs.at hx
      have hlt' : (k : Int) < (l.length : Int) := by omega
      have wk : IntKind.i64.wrap ((k : Int) + 1) = (k : Int) + 1 := wrap64 (by omega) (by omega)
      have hxs := hsm l[k] (List.getElem_mem hlt)
      generalize l[k] = x at hx hld hxs
      simp [Wc_seq, Wc_block, Wc_scope, Wc_skip, Wc_label, Wc_exit, Wc_ret, Wc_loop, Wc_region, Wc_cond, Nx_nil, Nx_seq, Nx_seq_exit, Nx_seq_ret, Nx_block, Nx_block_exit, Nx_block_ret, Rg_nil, Rg_cons, RgE, effA, calleeA, wantedA, enterN, ev, ofV, ofVn, putE, evalN, aBin, aInt_add, aInt_sub, aInt_mul, aInt_quo, aInt_rem, aInt_eql, aInt_neq, aInt_lss, aInt_leq, aInt_gtr, aInt_geq, aExtract, finQ_ret, resOf, extU, kq_eq, thenQ_normal, thenQ_exit, thenQ_ret, hlt, hlt', hix, hld]
      refine callK_Ret (by simp [fn15]) (refName_ret W x hxs) ?_
      by_cases hnx : nameR x = 0
      · have hcl := catR_len (take_all hno)
        have hxl := nameR_len hnx
        have htl : (l.take k).length ≤ l.length := by simp; omega
        have a1 := str_add (x := catR (l.take k)) (y := [47]) (by simp; omega)
        have a2 := str_add (x := catR (l.take k) ++ [47]) (y := x) (by simp; omega)
        simp [Wc_seq, Wc_block, Wc_scope, Wc_skip, Wc_label, Wc_exit, Wc_ret, Wc_loop, Wc_region, Wc_cond, Nx_nil, Nx_seq, Nx_seq_exit, Nx_seq_ret, Nx_block, Nx_block_exit, Nx_block_ret, Rg_nil, Rg_cons, RgE, effA, calleeA, wantedA, enterN, ev, ofV, ofVn, putE, evalN, aBin, aInt_add, aInt_sub, aInt_mul, aInt_quo, aInt_rem, aInt_eql, aInt_neq, aInt_lss, aInt_leq, aInt_gtr, aInt_geq, aExtract, finQ_ret, resOf, extU, kq_eq, thenQ_normal, thenQ_exit, thenQ_ret, hnx, wk, a1, a2]
        have htc : catR (l.take k) ++ 47 :: x = catR (l.take (k + 1)) := by
          rw [← catR_snoc, List.take_add_one, hx]; rfl
        refine ⟨m - 1, by omega, rfl, by simp, k + 1, by omega, fun j y hj hy => ?_, by simp [htc]⟩
        rcases Nat.lt_or_ge j k with h | h
        · exact hno j y h hy
        · obtain rfl : j = k := by omega
          rw [hx] at hy; simp at hy; subst hy; exact hnx
      · have hj : joinR l = ([], nameR x) := by
          rw [split_at hx]
          exact joinR_bad (take_all hno) hnx
        simp [Wc_seq, Wc_block, Wc_scope, Wc_skip, Wc_label, Wc_exit, Wc_ret, Wc_loop, Wc_region, Wc_cond, Nx_nil, Nx_seq, Nx_seq_exit, Nx_seq_ret, Nx_block, Nx_block_exit, Nx_block_ret, Rg_nil, Rg_cons, RgE, effA, calleeA, wantedA, enterN, ev, ofV, ofVn, putE, evalN, aBin, aInt_add, aInt_sub, aInt_mul, aInt_quo, aInt_rem, aInt_eql, aInt_neq, aInt_lss, aInt_leq, aInt_gtr, aInt_geq, aExtract, finQ_ret, resOf, extU, kq_eq, thenQ_normal, thenQ_exit, thenQ_ret, hnx, hj]
    · have hall : ∀ x ∈ l, nameR x = 0 := by
        intro x hx
        obtain ⟨j, hj⟩ := List.getElem?_of_mem hx
        exact hno j x (by have := (List.getElem?_eq_some_iff.1 hj).1; omega) hj
      have hlt' : ¬ (k : Int) < (l.length : Int) := by omega
      have htk : l.take k = l := List.take_of_length_le (by omega)
      rw [htk] at *
      by_cases h8 : 8 < l.length
      · have hj : joinR l = ([], 308) := by rw [joinR_ok hall, if_pos h8]
        have h8' : (8 : Int) < (l.length : Int) := by omega
        simp [Wc_seq, Wc_block, Wc_scope, Wc_skip, Wc_label, Wc_exit, Wc_ret, Wc_loop, Wc_region, Wc_cond, Nx_nil, Nx_seq, Nx_seq_exit, Nx_seq_ret, Nx_block, Nx_block_exit, Nx_block_ret, Rg_nil, Rg_cons, RgE, effA, calleeA, wantedA, enterN, ev, ofV, ofVn, putE, evalN, aBin, aInt_add, aInt_sub, aInt_mul, aInt_quo, aInt_rem, aInt_eql, aInt_neq, aInt_lss, aInt_leq, aInt_gtr, aInt_geq, aExtract, finQ_ret, resOf, extU, kq_eq, thenQ_normal, thenQ_exit, thenQ_ret, hlt, hlt', aLen, kind22, h8, h8', hj]
      · have h8' : ¬ (8 : Int) < (l.length : Int) := by omega
        by_cases h0 : l = []
        · have hj : joinR l = ([47], 0) := by rw [joinR_ok hall, if_neg h8, if_pos h0]
          have hc0 : (catR l == []) = true := by rw [beq_iff_eq, catR_nil]; exact h0
          simp [Wc_seq, Wc_block, Wc_scope, Wc_skip, Wc_label, Wc_exit, Wc_ret, Wc_loop, Wc_region, Wc_cond, Nx_nil, Nx_seq, Nx_seq_exit, Nx_seq_ret, Nx_block, Nx_block_exit, Nx_block_ret, Rg_nil, Rg_cons, RgE, effA, calleeA, wantedA, enterN, ev, ofV, ofVn, putE, evalN, aBin, aInt_add, aInt_sub, aInt_mul, aInt_quo, aInt_rem, aInt_eql, aInt_neq, aInt_lss, aInt_leq, aInt_gtr, aInt_geq, aExtract, finQ_ret, resOf, extU, kq_eq, thenQ_normal, thenQ_exit, thenQ_ret, hlt, hlt', aLen, kind22, h8, h8', hj, hc0, aStr]
        · have hj : joinR l = (catR l, 0) := by rw [joinR_ok hall, if_neg h8, if_neg h0]
          have hc0 : (catR l == []) = false := by rw [beq_eq_false_iff_ne]; intro e; exact h0 (catR_nil.1 e)
          simp [Wc_seq, Wc_block, Wc_scope, Wc_skip, Wc_label, Wc_exit, Wc_ret, Wc_loop, Wc_region, Wc_cond, Nx_nil, Nx_seq, Nx_seq_exit, Nx_seq_ret, Nx_block, Nx_block_exit, Nx_block_ret, Rg_nil, Rg_cons, RgE, effA, calleeA, wantedA, enterN, ev, ofV, ofVn, putE, evalN, aBin, aInt_add, aInt_sub, aInt_mul, aInt_quo, aInt_rem, aInt_eql, aInt_neq, aInt_lss, aInt_leq, aInt_gtr, aInt_geq, aExtract, finQ_ret, resOf, extU, kq_eq, thenQ_normal, thenQ_exit, thenQ_ret, hlt, hlt', aLen, kind22, h8, h8', hj, hc0, aStr]
end Go.Proofs.YtkgnhobaclngkaaDoor.Ax
