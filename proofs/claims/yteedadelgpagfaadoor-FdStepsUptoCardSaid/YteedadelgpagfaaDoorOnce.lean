/- No number is twice open. -/
import Derived.Test.YteedadelgpagfaaDoorSteps
set_option linter.unusedVariables false
set_option linter.unusedSimpArgs false
namespace Go.Proofs.YteedadelgpagfaaDoor.Ax
open Go.RowKit

def isOpen (x : Ent) : Bool := !(x.1 == [])
def nOpen (T : List Ent) : Nat := T.countP isOpen

theorem isOpen_of {x : Ent} (h : x.1 ≠ []) : isOpen x = true := by simp [isOpen, h]
theorem notOpen_of {x : Ent} (h : x.1 = []) : isOpen x = false := by simp [isOpen, h]

theorem nOpen_set {T : List Ent} {i : Nat} {x y : Ent} (h : T[i]? = some x) : nOpen (T.set i y) + (if isOpen x = true then 1 else 0) = nOpen T + (if isOpen y = true then 1 else 0) := by
  induction T generalizing i with
  | nil => simp at h
  | cons z T ih =>
    cases i with
    | zero =>
      simp at h; subst h
      simp only [nOpen, List.set_cons_zero, List.countP_cons]
      omega
    | succ i =>
      have := ih (i := i) (by simpa using h)
      simp only [nOpen, List.set_cons_succ, List.countP_cons] at this ⊢
      omega

theorem nOpen_all {T : List Ent} (h : ∀ (j : Nat) (y : Ent), T[j]? = some y → y.1 ≠ []) : nOpen T = T.length := by
  unfold nOpen
  rw [List.countP_eq_length]
  intro x hx
  obtain ⟨j, hj⟩ := List.getElem?_of_mem hx
  exact isOpen_of (h j x hj)

theorem nOpen_take {T : List Ent} {i : Nat} {x : Ent} (h : T[i]? = some x) : nOpen (T.take (i + 1)) = nOpen (T.take i) + (if isOpen x = true then 1 else 0) := by
  unfold nOpen
  rw [List.take_add_one, h, List.countP_append]
  simp [List.countP_cons]

/-! ### numbers that were appended one by one -/
def OwnI (h0 h : AH) (v : AV) (l : List Int) : Prop :=
  Keeps h0 h ∧ (l = [] ∧ v = .sl none 0 0 none ∨ ∃ k, h0.next ≤ k ∧ k < h.next ∧ h.get k = some (.cells (l.map (.int .i64)) 3) ∧ v = .sl (some (.new k 0)) l.length l.length (some 1))

theorem OwnI.len {h0 h : AH} {v : AV} {l : List Int} (ho : OwnI h0 h v l) : ∃ a c gr, v = .sl a l.length c gr := by
  obtain ⟨_, ⟨rfl, rfl⟩ | ⟨k, h1, h2, h3, rfl⟩⟩ := ho <;> exact ⟨_, _, _, rfl⟩

theorem build_int {W : World} {h : AH} {x : Int} : aBuildSlice (CC W) h 35 1 [(0, .int .i64 x)] = some (.sl (some (.new h.next 0)) 1 1 none, h.push (.cells [.int .i64 x] 3)) := by
  simp only [aBuildSlice, kind35, size3, zero3]
  rfl

theorem append_int {W : World} {h0 h : AH} {v : AV} {l : List Int} {x : Int} (ho : OwnI h0 h v l) (hl : l.length < 1099511627776) :
    ∃ v' h', aAppend (CC W) (h.push (.cells [.int .i64 x] 3)) #[35, 35] v (.sl (some (.new h.next 0)) 1 1 none) = some (v', h') ∧ OwnI h0 h' v' (l ++ [x]) := by
  obtain ⟨hk, ho⟩ := ho
  have hb : (CC W).bytes 3 = 8 := _root_.id rfl
  have hni : niOK (CC W) #[35, 35] = true := _root_.id rfl
  have hnews : aNews (CC W) (h.push (.cells [.int .i64 x] 3)) 1 (.sl (some (.new h.next 0)) 1 1 none) = some (1, [.int .i64 x]) := by
    simp [aNews, aCells]
  rcases ho with ⟨rfl, rfl⟩ | ⟨k, h1, h2, h3, rfl⟩
  · refine ⟨.sl (some (.new (h.next + 1) 0)) 1 1 (some 1), (h.push (.cells [.int .i64 x] 3)).push (.cells [.int .i64 x] 3), ?_, (hk.trans (Keeps.push _ _)).trans (Keeps.push _ _), .inr ⟨h.next + 1, by have := hk.1; omega, by simp, by simp, by simp⟩⟩
    simp [aAppend, kind35, size3, zero3, hb, hni, hnews]
  · have hne : k ≠ h.next := by omega
    refine ⟨.sl (some (.new (h.next + 1) 0)) (l.length + 1) (l.length + 1) (some 1), ((h.push (.cells [.int .i64 x] 3)).kill k).push (.cells (l.map (.int .i64) ++ [.int .i64 x]) 3), ?_, ⟨?_, fun j hj => ?_⟩, .inr ⟨h.next + 1, by have := hk.1; omega, by simp [AH.next_kill'], by simp [AH.next_kill'], by simp⟩⟩
    · simp [aAppend, kind35, size3, zero3, hb, hni, hnews, hne, h3, AH.next_kill', aOne]
      rw [if_neg (by omega), if_pos (by omega)]
    · simp [AH.next_kill']; have := hk.1; omega
    · have := hk.1
      rw [AH.get_push, AH.next_kill', if_neg (by simp; omega), AH.get_kill', if_neg (by omega), AH.get_push, if_neg (by omega)]
      exact hk.2 j hj

def LsI (h : AH) (k : Nat) (T : List Ent) (m : Nat) (e' : Env) (h' : AH) : Prop :=
  e'.length = 24 ∧ ∃ (i : Nat) (sl : AV) (l : List Int), i + m = 16 ∧ OwnI h h' sl l ∧ l.length = nOpen (T.take i) ∧ (e'.getD 0 .undef = .ptr (some (.new k 0)) ∧ e'.getD 3 .undef = sl ∧ e'.getD 7 .undef = .int .i64 i)

set_option maxHeartbeats 4000000 in
set_option maxRecDepth 20000 in
theorem list_ret (W : World) (h : AH) (k : Nat) (T : List Ent) (ht : TabIs h k T) : RetQ (CC W) 11 [.ptr (some (.new k 0))] h fun v _ => ∃ a c g, v = .sl a (nOpen T) c g := by
  refine acall_fin (cc_ok W) (fn11 W) (by simp only [Tryd.f11]; rfl) rfl rfl ?_
  simp [Wc_seq, Wc_block, Wc_scope, Wc_skip, Wc_label, Wc_exit, Wc_ret, Wc_loop, Wc_region, Wc_cond, Nx_nil, Nx_seq, Nx_seq_exit, Nx_seq_ret, Nx_block, Nx_block_exit, Nx_block_ret, Rg_nil, Rg_cons, RgE, effA, calleeA, wantedA, enterN, ev, ofV, ofVn, putE, evalN, aBin, aInt_add, aInt_sub, aInt_mul, aInt_quo, aInt_rem, aInt_eql, aInt_neq, aInt_lss, aInt_leq, aInt_gtr, aInt_geq, aExtract, finQ_ret, resOf, extU, kq_eq, thenQ_normal, thenQ_exit, thenQ_ret]
  refine loopN (cc_ok W) (LsI h k T) 16 ⟨by simp, 0, .sl none 0 0 none, [], by simp, ⟨Keeps.refl _, .inl ⟨rfl, rfl⟩⟩, by simp [nOpen], by simp⟩ ?_
  rintro m e' h' ⟨hl, i, sl, l, him, ho, hlen, hh⟩
  have hk := ho.1
  have ht' := ht.keeps hk
  match e', hl with
  | a0 :: a1 :: a2 :: a3 :: a4 :: a5 :: a6 :: a7 :: a8 :: a9 :: a10 :: a11 :: a12 :: a13 :: a14 :: a15 :: a16 :: a17 :: a18 :: a19 :: a20 :: a21 :: a22 :: a23 :: [], _ =>
    simp at hh
    obtain ⟨rfl, rfl, rfl⟩ := hh
    by_cases hlt : i < 16
    · have hlt' : (i : Int) < 16 := by omega
      have wi : IntKind.i64.wrap ((i : Int) + 1) = (i : Int) + 1 := wrap64 (by omega) (by omega)
      have hx : T[i]? = some (T[i]'(by rw [ht.2.2.1]; exact hlt)) := by simp [ht.2.2.1, hlt]
      generalize T[i]'(by rw [ht.2.2.1]; exact hlt) = x at hx
      have hnt := nOpen_take hx
      have hcl : nOpen (T.take i) ≤ (T.take i).length := List.countP_le_length
      have hll : l.length < 1099511627776 := by
        rw [hlen]; simp at hcl; omega
      simp [Wc_seq, Wc_block, Wc_scope, Wc_skip, Wc_label, Wc_exit, Wc_ret, Wc_loop, Wc_region, Wc_cond, Nx_nil, Nx_seq, Nx_seq_exit, Nx_seq_ret, Nx_block, Nx_block_exit, Nx_block_ret, Rg_nil, Rg_cons, RgE, effA, calleeA, wantedA, enterN, ev, ofV, ofVn, putE, evalN, aBin, aInt_add, aInt_sub, aInt_mul, aInt_quo, aInt_rem, aInt_eql, aInt_neq, aInt_lss, aInt_leq, aInt_gtr, aInt_geq, aExtract, finQ_ret, resOf, extU, kq_eq, thenQ_normal, thenQ_exit, thenQ_ret, hlt, hlt']
      refine callK_RetH (by simp [fn23]) (get_ret W h' k T ht' i) ?_
      by_cases he : x.1 = []
      · have hg : gotT T i = none := by unfold gotT; rw [if_pos (by omega)]; simp [hx, he]
        rw [notOpen_of he] at hnt
        simp only [Bool.false_eq_true, if_false, Nat.add_zero] at hnt
        rw [hg]
        simp [Wc_seq, Wc_block, Wc_scope, Wc_skip, Wc_label, Wc_exit, Wc_ret, Wc_loop, Wc_region, Wc_cond, Nx_nil, Nx_seq, Nx_seq_exit, Nx_seq_ret, Nx_block, Nx_block_exit, Nx_block_ret, Rg_nil, Rg_cons, RgE, effA, calleeA, wantedA, enterN, ev, ofV, ofVn, putE, evalN, aBin, aInt_add, aInt_sub, aInt_mul, aInt_quo, aInt_rem, aInt_eql, aInt_neq, aInt_lss, aInt_leq, aInt_gtr, aInt_geq, aExtract, finQ_ret, resOf, extU, kq_eq, thenQ_normal, thenQ_exit, thenQ_ret, gotV, wi]
        exact ⟨m - 1, by omega, by simp, i + 1, a3, l, by omega, ho, by rw [hlen, hnt], by simp⟩
      · have hg : gotT T i = some (i, x) := by unfold gotT; rw [if_pos (by omega)]; simp [hx, he]
        rw [isOpen_of he] at hnt
        simp only [if_true] at hnt
        obtain ⟨v', h2, hap, ho2⟩ := append_int (W := W) (x := (i : Int)) ho hll
        rw [hg]
        simp [Wc_seq, Wc_block, Wc_scope, Wc_skip, Wc_label, Wc_exit, Wc_ret, Wc_loop, Wc_region, Wc_cond, Nx_nil, Nx_seq, Nx_seq_exit, Nx_seq_ret, Nx_block, Nx_block_exit, Nx_block_ret, Rg_nil, Rg_cons, RgE, effA, calleeA, wantedA, enterN, ev, ofV, ofVn, putE, evalN, aBin, aInt_add, aInt_sub, aInt_mul, aInt_quo, aInt_rem, aInt_eql, aInt_neq, aInt_lss, aInt_leq, aInt_gtr, aInt_geq, aExtract, finQ_ret, resOf, extU, kq_eq, thenQ_normal, thenQ_exit, thenQ_ret, gotV, build_int, hap, wi]
        exact ⟨m - 1, by omega, by simp, i + 1, v', l ++ [(i : Int)], by omega, ho2, by simp; omega, by simp⟩
    · have hlt' : ¬ (i : Int) < 16 := by omega
      have hit : T.take i = T := List.take_of_length_le (by rw [ht.2.2.1]; omega)
      obtain ⟨pa, pc, pg, rfl⟩ := ho.len
      rw [hit] at hlen
      rw [hlen] at *
      simp [Wc_seq, Wc_block, Wc_scope, Wc_skip, Wc_label, Wc_exit, Wc_ret, Wc_loop, Wc_region, Wc_cond, Nx_nil, Nx_seq, Nx_seq_exit, Nx_seq_ret, Nx_block, Nx_block_exit, Nx_block_ret, Rg_nil, Rg_cons, RgE, effA, calleeA, wantedA, enterN, ev, ofV, ofVn, putE, evalN, aBin, aInt_add, aInt_sub, aInt_mul, aInt_quo, aInt_rem, aInt_eql, aInt_neq, aInt_lss, aInt_leq, aInt_gtr, aInt_geq, aExtract, finQ_ret, resOf, extU, kq_eq, thenQ_normal, thenQ_exit, thenQ_ret, hlt, hlt', hk]

/-! ### the numbers that the statement keeps -/
def BAt (h : AH) (j : Nat) (T : List Ent) : Prop := j < h.next ∧ h.get j = some (.cells (T.map fun x => .bool (isOpen x)) 25)

theorem idx_bool {W : World} {j i : Nat} (hi : i < 16) : aIndexAddr (CC W) 25 (.ptr (some (.new j 0))) (.int .i64 (i : Int)) = some (.ptr (some (.new j i))) := by
  simp only [aIndexAddr, kind25, size4]
  rw [if_pos (by omega)]
  simp [AA.add]
theorem ld_bool {W : World} {h : AH} {j i : Nat} {T : List Ent} {x : Ent} (hb : BAt h j T) (hx : T[i]? = some x) : aLoad (CC W) h 4 (.new j i) = some (.bool (isOpen x)) := by
  have : aLoad (CC W) h 4 (.new j i) = aCell (CC W) h (.new j i) := by unfold aLoad; rw [ty4]; rfl
  rw [this]
  simp only [aCell, hb.2]
  simp [hx]
theorem st_bool {W : World} {h : AH} {j i : Nat} {T : List Ent} {y : Ent} (hb : BAt h j T) (hi : i < T.length) : aStoreOp (CC W) h 4 (.ptr (some (.new j i))) (.bool (isOpen y)) = some (h.set j (.cells ((T.set i y).map fun x => .bool (isOpen x)) 25)) := by
  simp only [aStoreOp, aCellsOf, size4, aStore, hb.2]
  rw [if_pos (by rfl), if_pos ⟨by simp; omega, by rfl⟩]
  congr 3
  rw [List.map_set]
  simp only [overlay]
  rw [List.set_eq_take_append_cons_drop, if_pos (by simpa using hi)]
  simp
theorem BAt.set {h : AH} {j i : Nat} {T : List Ent} {y : Ent} (hb : BAt h j T) : BAt (h.set j (.cells ((T.set i y).map fun x => .bool (isOpen x)) 25)) j (T.set i y) := ⟨by simpa using hb.1, by simp⟩
theorem BAt.keeps {h h' : AH} {j : Nat} {T : List Ent} (hb : BAt h j T) (hk : Keeps h h') : BAt h' j T := ⟨Nat.lt_of_lt_of_le hb.1 hk.1, (hk.2 j hb.1).trans hb.2⟩
theorem BAt.but {h h' : AH} {j k : Nat} {T : List Ent} (hb : BAt h j T) (hk : KeepsBut k h h') (hne : j ≠ k) : BAt h' j T := ⟨Nat.lt_of_lt_of_le hb.1 hk.1, (hk.2 j hb.1 hne).trans hb.2⟩
theorem TabIs.set_other {h : AH} {j k : Nat} {T : List Ent} {o : AObj} (ht : TabIs h k T) (hne : j ≠ k) : TabIs (h.set j o) k T := ⟨by simpa using ht.1, by rw [AH.get_set, if_neg (Ne.symm hne)]; exact ht.2.1, ht.2.2⟩

theorem alloc_bool {W : World} {h : AH} : aAlloc (CC W) h 25 = some (.ptr (some (.new h.next 0)), h.push (.cells (tab0.map fun x => .bool (isOpen x)) 25)) := by
  simp only [aAlloc, zero25, size25]
  rfl

theorem splitR_ne {p : List UInt8} (h : (splitR p).2 = 0) : p ≠ [] := by
  intro e; subst e; simp [splitR] at h

def OnR (k j : Nat) (v : AV) (len : Nat) (i : Nat) (e' : Env) (h' : AH) : Prop :=
  e'.length = 94 ∧ ∃ T : List Ent, TabIs h' k T ∧ BAt h' j T ∧ (e'.getD 3 .undef = .ptr (some (.new k 0)) ∧ e'.getD 4 .undef = .ptr (some (.new j 0)) ∧ e'.getD 5 .undef = .int .i64 (nOpen T : Nat) ∧ e'.getD 15 .undef = v ∧ e'.getD 16 .undef = .int .i64 len ∧ e'.getD 17 .undef = .int .i64 i)
def OnI (k j : Nat) (v : AV) (len : Nat) (m : Nat) (e' : Env) (h' : AH) : Prop := ∃ i : Nat, i + m = len ∧ OnR k j v len i e' h'

set_option maxHeartbeats 16000000 in
set_option maxRecDepth 20000 in
theorem once_ret (W : World) (h : AH) (v : AV) (l : List Stp) (hv : StpS W v l) (hl : l.length < 8796093022207) (hp : ∀ s ∈ l, s.p.length < 8796093022207) :
    ACall (CC W) 3 [v] h (fun v _ => v = .bool true) (fun _ _ => False) := by
  refine acall_fin (cc_ok W) (fn3 W) (by simp only [Tryd.f3]; rfl) rfl rfl ?_
  obtain ⟨pa, ca, rfl, hload⟩ := hv
  simp [Wc_seq, Wc_block, Wc_scope, Wc_skip, Wc_label, Wc_exit, Wc_ret, Wc_loop, Wc_region, Wc_cond, Nx_nil, Nx_seq, Nx_seq_exit, Nx_seq_ret, Nx_block, Nx_block_exit, Nx_block_ret, Rg_nil, Rg_cons, RgE, effA, calleeA, wantedA, enterN, ev, ofV, ofVn, putE, evalN, aBin, aInt_add, aInt_sub, aInt_mul, aInt_quo, aInt_rem, aInt_eql, aInt_neq, aInt_lss, aInt_leq, aInt_gtr, aInt_geq, aExtract, finQ_ret, resOf, extU, kq_eq, thenQ_normal, thenQ_exit, thenQ_ret]
  refine callK_RetQ (by simp [fn7]) (new_ret W h) fun v h1 hk1 hv => ?_
  obtain ⟨rfl, ht1⟩ := hv
  have hall1 := alloc_bool (W := W) (h := h1)
  have ht2 := ht1.keeps (Keeps.push h1 (.cells (tab0.map fun x => .bool (isOpen x)) 25))
  have hb2 : BAt (h1.push (.cells (tab0.map fun x => .bool (isOpen x)) 25)) h1.next tab0 := ⟨by simp, by simp⟩
  have hjk : h1.next ≠ h.next := by have := ht1.1; omega
  simp [Wc_seq, Wc_block, Wc_scope, Wc_skip, Wc_label, Wc_exit, Wc_ret, Wc_loop, Wc_region, Wc_cond, Nx_nil, Nx_seq, Nx_seq_exit, Nx_seq_ret, Nx_block, Nx_block_exit, Nx_block_ret, Rg_nil, Rg_cons, RgE, effA, calleeA, wantedA, enterN, ev, ofV, ofVn, putE, evalN, aBin, aInt_add, aInt_sub, aInt_mul, aInt_quo, aInt_rem, aInt_eql, aInt_neq, aInt_lss, aInt_leq, aInt_gtr, aInt_geq, aExtract, finQ_ret, resOf, extU, kq_eq, thenQ_normal, thenQ_exit, thenQ_ret, aEq, kind23, kindEq1, aEq1, hall1, aLen, kind22]
  generalize h1.push (.cells (tab0.map fun x => .bool (isOpen x)) 25) = h2 at ht2 hb2 ⊢
  generalize h1.next = j at *
  generalize h.next = k at *
  have hn0 : nOpen tab0 = 0 := rfl
  refine loopN (cc_ok W) (OnI k j (.sl pa l.length ca none) l.length) l.length ⟨0, by simp, by simp, tab0, ht2, hb2, by simp [hn0]⟩ ?_
  rintro m e' h' ⟨i, him, hlen, T, ht, hb, hh⟩
  have hnT : nOpen T ≤ 16 := by
    have : nOpen T ≤ T.length := List.countP_le_length
    rw [ht.2.2.1] at this; exact this
  match e', hlen with
  | a0 :: a1 :: a2 :: a3 :: a4 :: a5 :: a6 :: a7 :: a8 :: a9 :: a10 :: a11 :: a12 :: a13 :: a14 :: a15 :: a16 :: a17 :: a18 :: a19 :: a20 :: a21 :: a22 :: a23 :: a24 :: a25 :: a26 :: a27 :: a28 :: a29 :: a30 :: a31 :: a32 :: a33 :: a34 :: a35 :: a36 :: a37 :: a38 :: a39 :: a40 :: a41 :: a42 :: a43 :: a44 :: a45 :: a46 :: a47 :: a48 :: a49 :: a50 :: a51 :: a52 :: a53 :: a54 :: a55 :: a56 :: a57 :: a58 :: a59 :: a60 :: a61 :: a62 :: a63 :: a64 :: a65 :: a66 :: a67 :: a68 :: a69 :: a70 :: a71 :: a72 :: a73 :: a74 :: a75 :: a76 :: a77 :: a78 :: a79 :: a80 :: a81 :: a82 :: a83 :: a84 :: a85 :: a86 :: a87 :: a88 :: a89 :: a90 :: a91 :: a92 :: a93 :: [], _ =>
    simp at hh
    obtain ⟨rfl, rfl, rfl, rfl, rfl, rfl⟩ := hh
    by_cases hlt : i < l.length
    · have hlt' : (i : Int) < (l.length : Int) := by omega
      have hx : l[i]? = some l[i] := by simp [hlt]
      have hps := hp l[i] (List.getElem_mem hlt)
      obtain ⟨a', hix, hld⟩ := hload i l[i] hx
      generalize l[i] = s at hx hps hld
      have wi : IntKind.i64.wrap ((i : Int) + 1) = (i : Int) + 1 := wrap64 (by omega) (by omega)
      have hsat := sat_new (h := h') (s := s)
      have hsto := store_step (W := W) (h := h') (s := s)
      have hall := alloc_step (W := W) (h := h')
      have hkn := keeps_new (h := h') (o := .cells [.int .i64 0, .int .i64 0, .int .i64 0, .int .i64 0, .str []] 27) (o' := .cells s.cells 27)
      have htn := ht.keeps hkn
      have hbn := hb.keeps hkn
      have hqk : h'.next ≠ k := by have := ht.1; omega
      have hqj : h'.next ≠ j := by have := hb.1; omega
      generalize (h'.push (.cells [.int .i64 0, .int .i64 0, .int .i64 0, .int .i64 0, .str []] 27)).set h'.next (.cells s.cells 27) = hs at hsat hsto htn hbn hkn
      generalize h'.next = q at *
      have l0 := ld_s0 (W := W) hsat
      have l1 := ld_s1 (W := W) hsat
      have l4 := ld_s4 (W := W) hsat
      by_cases hk2 : s.k < 2
      · simp [Wc_seq, Wc_block, Wc_scope, Wc_skip, Wc_label, Wc_exit, Wc_ret, Wc_loop, Wc_region, Wc_cond, Nx_nil, Nx_seq, Nx_seq_exit, Nx_seq_ret, Nx_block, Nx_block_exit, Nx_block_ret, Rg_nil, Rg_cons, RgE, effA, calleeA, wantedA, enterN, ev, ofV, ofVn, putE, evalN, aBin, aInt_add, aInt_sub, aInt_mul, aInt_quo, aInt_rem, aInt_eql, aInt_neq, aInt_lss, aInt_leq, aInt_gtr, aInt_geq, aExtract, finQ_ret, resOf, extU, kq_eq, thenQ_normal, thenQ_exit, thenQ_ret, hlt, hlt', hix, hld, hall, hsto, fa_s0, fa_s4, l0, l4, hk2]
        refine callK_RetT (by simp [fn8]) (open_ret W hs k T htn s.p hps) fun v h3 T3 hq hkb ht3 => ?_
        have hsat3 := hsat.but hkb hqk
        have hb3 := hbn.but hkb hjk
        have m4 := ld_s4 (W := W) hsat3
        rcases hq with ⟨he, rfl, rfl⟩ | ⟨he, t, x, hti, htx, hxe, hno, rfl, rfl⟩ | ⟨he, hno, rfl, rfl⟩
        · simp [Wc_seq, Wc_block, Wc_scope, Wc_skip, Wc_label, Wc_exit, Wc_ret, Wc_loop, Wc_region, Wc_cond, Nx_nil, Nx_seq, Nx_seq_exit, Nx_seq_ret, Nx_block, Nx_block_exit, Nx_block_ret, Rg_nil, Rg_cons, RgE, effA, calleeA, wantedA, enterN, ev, ofV, ofVn, putE, evalN, aBin, aInt_add, aInt_sub, aInt_mul, aInt_quo, aInt_rem, aInt_eql, aInt_neq, aInt_lss, aInt_leq, aInt_gtr, aInt_geq, aExtract, finQ_ret, resOf, extU, kq_eq, thenQ_normal, thenQ_exit, thenQ_ret, fa_s4, m4]
          refine callK_RetQ (by simp [fn9]) (refSplit_ret W s.p hps h3) fun v h4 hk4 hv => ?_
          obtain ⟨sl, rfl, _⟩ := hv
          have b1 : ((splitR s.p).2 != 0) = true := by simp [he]
          have b2 : ((splitR s.p).2 == 0) = false := by simp [he]
          simp [Wc_seq, Wc_block, Wc_scope, Wc_skip, Wc_label, Wc_exit, Wc_ret, Wc_loop, Wc_region, Wc_cond, Nx_nil, Nx_seq, Nx_seq_exit, Nx_seq_ret, Nx_block, Nx_block_exit, Nx_block_ret, Rg_nil, Rg_cons, RgE, effA, calleeA, wantedA, enterN, ev, ofV, ofVn, putE, evalN, aBin, aInt_add, aInt_sub, aInt_mul, aInt_quo, aInt_rem, aInt_eql, aInt_neq, aInt_lss, aInt_leq, aInt_gtr, aInt_geq, aExtract, finQ_ret, resOf, extU, kq_eq, thenQ_normal, thenQ_exit, thenQ_ret, b1, b2, wi]
          exact ⟨m - 1, by omega, i + 1, by omega, by simp, T3, ht3.keeps hk4, hb3.keeps hk4, by simp⟩
        · simp [Wc_seq, Wc_block, Wc_scope, Wc_skip, Wc_label, Wc_exit, Wc_ret, Wc_loop, Wc_region, Wc_cond, Nx_nil, Nx_seq, Nx_seq_exit, Nx_seq_ret, Nx_block, Nx_block_exit, Nx_block_ret, Rg_nil, Rg_cons, RgE, effA, calleeA, wantedA, enterN, ev, ofV, ofVn, putE, evalN, aBin, aInt_add, aInt_sub, aInt_mul, aInt_quo, aInt_rem, aInt_eql, aInt_neq, aInt_lss, aInt_leq, aInt_gtr, aInt_geq, aExtract, finQ_ret, resOf, extU, kq_eq, thenQ_normal, thenQ_exit, thenQ_ret, fa_s4, m4]
          refine callK_RetQ (by simp [fn9]) (refSplit_ret W s.p hps h3) fun v h4 hk4 hv => ?_
          obtain ⟨sl, rfl, _⟩ := hv
          have ht4 := ht3.keeps hk4
          have hb4 := hb3.keeps hk4
          have n1 : ¬ (t : Int) < 0 := by omega
          have n2 : ¬ 15 < (t : Int) := by omega
          have n3 : ¬ 15 < t := by omega
          have lb := ld_bool (W := W) hb4 htx
          rw [notOpen_of hxe] at lb
          have hyo : isOpen (s.p, (0 : Int)) = true := isOpen_of (splitR_ne he)
          have stb := st_bool (W := W) (i := t) (y := (s.p, (0 : Int))) hb4 (by rw [ht.2.2.1]; exact hti)
          rw [hyo] at stb
          have hns := nOpen_set (y := (s.p, (0 : Int))) htx
          rw [notOpen_of hxe, hyo] at hns
          simp only [Bool.false_eq_true, if_false, if_true, Nat.add_zero] at hns
          have wn : IntKind.i64.wrap ((nOpen T : Int) + 1) = (nOpen T : Int) + 1 := wrap64 (by omega) (by omega)
          simp [Wc_seq, Wc_block, Wc_scope, Wc_skip, Wc_label, Wc_exit, Wc_ret, Wc_loop, Wc_region, Wc_cond, Nx_nil, Nx_seq, Nx_seq_exit, Nx_seq_ret, Nx_block, Nx_block_exit, Nx_block_ret, Rg_nil, Rg_cons, RgE, effA, calleeA, wantedA, enterN, ev, ofV, ofVn, putE, evalN, aBin, aInt_add, aInt_sub, aInt_mul, aInt_quo, aInt_rem, aInt_eql, aInt_neq, aInt_lss, aInt_leq, aInt_gtr, aInt_geq, aExtract, finQ_ret, resOf, extU, kq_eq, thenQ_normal, thenQ_exit, thenQ_ret, he, n1, n2, n3, idx_bool hti, lb, stb, wn, wi]
          exact ⟨m - 1, by omega, i + 1, by omega, by simp, T.set t (s.p, 0), ht4.set_other hjk, by simpa [List.map_set] using hb4.set (i := t) (y := (s.p, (0 : Int))), by simp [hns]⟩
        · simp [Wc_seq, Wc_block, Wc_scope, Wc_skip, Wc_label, Wc_exit, Wc_ret, Wc_loop, Wc_region, Wc_cond, Nx_nil, Nx_seq, Nx_seq_exit, Nx_seq_ret, Nx_block, Nx_block_exit, Nx_block_ret, Rg_nil, Rg_cons, RgE, effA, calleeA, wantedA, enterN, ev, ofV, ofVn, putE, evalN, aBin, aInt_add, aInt_sub, aInt_mul, aInt_quo, aInt_rem, aInt_eql, aInt_neq, aInt_lss, aInt_leq, aInt_gtr, aInt_geq, aExtract, finQ_ret, resOf, extU, kq_eq, thenQ_normal, thenQ_exit, thenQ_ret, fa_s4, m4]
          refine callK_RetQ (by simp [fn9]) (refSplit_ret W s.p hps h3) fun v h4 hk4 hv => ?_
          obtain ⟨sl, rfl, _⟩ := hv
          have hn16 : nOpen T3 = 16 := by rw [nOpen_all hno, ht.2.2.1]
          have n1 : ¬ ((nOpen T3 : Nat) : Int) < 16 := by omega
          have n2 : ¬ (nOpen T3) < 16 := by omega
          simp [Wc_seq, Wc_block, Wc_scope, Wc_skip, Wc_label, Wc_exit, Wc_ret, Wc_loop, Wc_region, Wc_cond, Nx_nil, Nx_seq, Nx_seq_exit, Nx_seq_ret, Nx_block, Nx_block_exit, Nx_block_ret, Rg_nil, Rg_cons, RgE, effA, calleeA, wantedA, enterN, ev, ofV, ofVn, putE, evalN, aBin, aInt_add, aInt_sub, aInt_mul, aInt_quo, aInt_rem, aInt_eql, aInt_neq, aInt_lss, aInt_leq, aInt_gtr, aInt_geq, aExtract, finQ_ret, resOf, extU, kq_eq, thenQ_normal, thenQ_exit, thenQ_ret, he, n1, n2, wi]
          exact ⟨m - 1, by omega, i + 1, by omega, by simp, T3, ht3.keeps hk4, hb3.keeps hk4, by simp⟩
      · simp [Wc_seq, Wc_block, Wc_scope, Wc_skip, Wc_label, Wc_exit, Wc_ret, Wc_loop, Wc_region, Wc_cond, Nx_nil, Nx_seq, Nx_seq_exit, Nx_seq_ret, Nx_block, Nx_block_exit, Nx_block_ret, Rg_nil, Rg_cons, RgE, effA, calleeA, wantedA, enterN, ev, ofV, ofVn, putE, evalN, aBin, aInt_add, aInt_sub, aInt_mul, aInt_quo, aInt_rem, aInt_eql, aInt_neq, aInt_lss, aInt_leq, aInt_gtr, aInt_geq, aExtract, finQ_ret, resOf, extU, kq_eq, thenQ_normal, thenQ_exit, thenQ_ret, hlt, hlt', hix, hld, hall, hsto, fa_s0, fa_s1, l0, l1, hk2]
        refine callK_RetT (by simp [fn10]) (close_ret W hs k T htn s.fd) fun v h3 T3 hq hkb ht3 => ?_
        have hsat3 := hsat.but hkb hqk
        have hb3 := hbn.but hkb hjk
        have m1 := ld_s1 (W := W) hsat3
        unfold CloseQ at hq
        cases hg : gotT T s.fd with
        | none =>
          rw [hg] at hq
          obtain ⟨rfl, rfl⟩ := hq
          simp [Wc_seq, Wc_block, Wc_scope, Wc_skip, Wc_label, Wc_exit, Wc_ret, Wc_loop, Wc_region, Wc_cond, Nx_nil, Nx_seq, Nx_seq_exit, Nx_seq_ret, Nx_block, Nx_block_exit, Nx_block_ret, Rg_nil, Rg_cons, RgE, effA, calleeA, wantedA, enterN, ev, ofV, ofVn, putE, evalN, aBin, aInt_add, aInt_sub, aInt_mul, aInt_quo, aInt_rem, aInt_eql, aInt_neq, aInt_lss, aInt_leq, aInt_gtr, aInt_geq, aExtract, finQ_ret, resOf, extU, kq_eq, thenQ_normal, thenQ_exit, thenQ_ret, wi]
          exact ⟨m - 1, by omega, i + 1, by omega, by simp, T3, ht3, hb3, by simp⟩
        | some r =>
          obtain ⟨t, x⟩ := r
          rw [hg] at hq
          obtain ⟨rfl, rfl⟩ := hq
          obtain ⟨hfd, hti, htx, hxe⟩ := gotT_some hg
          rw [hfd] at m1
          have n1 : ¬ (t : Int) < 0 := by omega
          have n2 : ¬ 15 < (t : Int) := by omega
          have n3 : ¬ 15 < t := by omega
          have lb := ld_bool (W := W) hb3 htx
          rw [isOpen_of hxe] at lb
          have hyo : isOpen ([], (0 : Int)) = false := rfl
          have stb := st_bool (W := W) (i := t) (y := ([], (0 : Int))) hb3 (by rw [ht.2.2.1]; exact hti)
          rw [hyo] at stb
          have hns := nOpen_set (y := ([], (0 : Int))) htx
          rw [isOpen_of hxe, hyo] at hns
          simp only [Bool.false_eq_true, if_false, if_true, Nat.add_zero] at hns
          have wn : IntKind.i64.wrap ((nOpen T : Int) - 1) = ((nOpen (T.set t ([], 0)) : Nat) : Int) := by rw [wrap64 (by omega) (by omega)]; omega
          simp [Wc_seq, Wc_block, Wc_scope, Wc_skip, Wc_label, Wc_exit, Wc_ret, Wc_loop, Wc_region, Wc_cond, Nx_nil, Nx_seq, Nx_seq_exit, Nx_seq_ret, Nx_block, Nx_block_exit, Nx_block_ret, Rg_nil, Rg_cons, RgE, effA, calleeA, wantedA, enterN, ev, ofV, ofVn, putE, evalN, aBin, aInt_add, aInt_sub, aInt_mul, aInt_quo, aInt_rem, aInt_eql, aInt_neq, aInt_lss, aInt_leq, aInt_gtr, aInt_geq, aExtract, finQ_ret, resOf, extU, kq_eq, thenQ_normal, thenQ_exit, thenQ_ret, fa_s1, m1, n1, n2, n3, idx_bool hti, lb, aUn, stb, wn, wi]
          exact ⟨m - 1, by omega, i + 1, by omega, by simp, T.set t ([], 0), ht3.set_other hjk, by simpa [List.map_set] using hb3.set (i := t) (y := ([], (0 : Int))), by simp⟩
    · have hlt' : ¬ (i : Int) < (l.length : Int) := by omega
      simp [Wc_seq, Wc_block, Wc_scope, Wc_skip, Wc_label, Wc_exit, Wc_ret, Wc_loop, Wc_region, Wc_cond, Nx_nil, Nx_seq, Nx_seq_exit, Nx_seq_ret, Nx_block, Nx_block_exit, Nx_block_ret, Rg_nil, Rg_cons, RgE, effA, calleeA, wantedA, enterN, ev, ofV, ofVn, putE, evalN, aBin, aInt_add, aInt_sub, aInt_mul, aInt_quo, aInt_rem, aInt_eql, aInt_neq, aInt_lss, aInt_leq, aInt_gtr, aInt_geq, aExtract, finQ_ret, resOf, extU, kq_eq, thenQ_normal, thenQ_exit, thenQ_ret, hlt, hlt']
      refine callK_RetQ (by simp [fn11]) (list_ret W h' k T ht) fun v h3 hk3 hv => ?_
      obtain ⟨qa, qc, qg, rfl⟩ := hv
      simp [Wc_seq, Wc_block, Wc_scope, Wc_skip, Wc_label, Wc_exit, Wc_ret, Wc_loop, Wc_region, Wc_cond, Nx_nil, Nx_seq, Nx_seq_exit, Nx_seq_ret, Nx_block, Nx_block_exit, Nx_block_ret, Rg_nil, Rg_cons, RgE, effA, calleeA, wantedA, enterN, ev, ofV, ofVn, putE, evalN, aBin, aInt_add, aInt_sub, aInt_mul, aInt_quo, aInt_rem, aInt_eql, aInt_neq, aInt_lss, aInt_leq, aInt_gtr, aInt_geq, aExtract, finQ_ret, resOf, extU, kq_eq, thenQ_normal, thenQ_exit, thenQ_ret, aLen, kind35]
      refine callK_RetX (by simp [fn12]) (speaks_ret W) fun h6 hk6 => ?_
      simp [Wc_seq, Wc_block, Wc_scope, Wc_skip, Wc_label, Wc_exit, Wc_ret, Wc_loop, Wc_region, Wc_cond, Nx_nil, Nx_seq, Nx_seq_exit, Nx_seq_ret, Nx_block, Nx_block_exit, Nx_block_ret, Rg_nil, Rg_cons, RgE, effA, calleeA, wantedA, enterN, ev, ofV, ofVn, putE, evalN, aBin, aInt_add, aInt_sub, aInt_mul, aInt_quo, aInt_rem, aInt_eql, aInt_neq, aInt_lss, aInt_leq, aInt_gtr, aInt_geq, aExtract, finQ_ret, resOf, extU, kq_eq, thenQ_normal, thenQ_exit, thenQ_ret]
end Go.Proofs.YteedadelgpagfaaDoor.Ax
