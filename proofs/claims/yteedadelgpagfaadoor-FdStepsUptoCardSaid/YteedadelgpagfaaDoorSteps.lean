/- Steps in memory; a place changes by Seek and Moved alone. -/
import Derived.Test.YteedadelgpagfaaDoorSpeaks
set_option linter.unusedVariables false
set_option linter.unusedSimpArgs false
namespace Go.Proofs.YteedadelgpagfaaDoor.Ax
open Go.RowKit

structure Stp where
  k : Int
  fd : Int
  fr : Int
  n : Int
  p : List UInt8

def Stp.cells (s : Stp) : List AV := [.int .i64 s.k, .int .i64 s.fd, .int .i64 s.fr, .int .i64 s.n, .str s.p]

/-- A slice that holds steps, in memory that was there. -/
def StpS (W : World) (v : AV) (l : List Stp) : Prop :=
  ∃ a c, v = .sl a l.length c none ∧ ∀ (i : Nat) s, l[i]? = some s → ∃ a', aIndexAddr (CC W) 22 (.sl a l.length c none) (.int .i64 i) = some (.ptr (some a')) ∧ ∀ h, aLoad (CC W) h 27 a' = some (.agg s.cells)

/-- A step in an own block. -/
def SAt (h : AH) (j : Nat) (s : Stp) : Prop := j < h.next ∧ h.get j = some (.cells s.cells 27)

section
variable {W : World} {h : AH} {j : Nat} {s : Stp}
theorem fa_s0 : aFieldAddr (CC W) 27 (.ptr (some (.new j 0))) 0 = some (.ptr (some (.new j 0))) := by
  simp only [aFieldAddr, aOff, kind27]; rfl
theorem fa_s1 : aFieldAddr (CC W) 27 (.ptr (some (.new j 0))) 1 = some (.ptr (some (.new j 1))) := by
  simp only [aFieldAddr, aOff, kind27]; rfl
theorem fa_s2 : aFieldAddr (CC W) 27 (.ptr (some (.new j 0))) 2 = some (.ptr (some (.new j 2))) := by
  simp only [aFieldAddr, aOff, kind27]; rfl
theorem fa_s3 : aFieldAddr (CC W) 27 (.ptr (some (.new j 0))) 3 = some (.ptr (some (.new j 3))) := by
  simp only [aFieldAddr, aOff, kind27]; rfl
theorem fa_s4 : aFieldAddr (CC W) 27 (.ptr (some (.new j 0))) 4 = some (.ptr (some (.new j 4))) := by
  simp only [aFieldAddr, aOff, kind27]; rfl
theorem ld_int {o : Nat} : aLoad (CC W) h 3 (.new j o) = aCell (CC W) h (.new j o) := by unfold aLoad; rw [ty3]; rfl
theorem ld_s0 (hs : SAt h j s) : aLoad (CC W) h 3 (.new j 0) = some (.int .i64 s.k) := by rw [ld_int]; simp only [aCell, hs.2]; rfl
theorem ld_s1 (hs : SAt h j s) : aLoad (CC W) h 3 (.new j 1) = some (.int .i64 s.fd) := by rw [ld_int]; simp only [aCell, hs.2]; rfl
theorem ld_s2 (hs : SAt h j s) : aLoad (CC W) h 3 (.new j 2) = some (.int .i64 s.fr) := by rw [ld_int]; simp only [aCell, hs.2]; rfl
theorem ld_s3 (hs : SAt h j s) : aLoad (CC W) h 3 (.new j 3) = some (.int .i64 s.n) := by rw [ld_int]; simp only [aCell, hs.2]; rfl
theorem ld_s4 (hs : SAt h j s) : aLoad (CC W) h 9 (.new j 4) = some (.str s.p) := by refine aLoad_str ?_; simp only [aCell, hs.2]; rfl

theorem alloc_step : aAlloc (CC W) h 27 = some (.ptr (some (.new h.next 0)), h.push (.cells [.int .i64 0, .int .i64 0, .int .i64 0, .int .i64 0, .str []] 27)) := by
  simp only [aAlloc, zero27, size27]
theorem store_step : aStoreOp (CC W) (h.push (.cells [.int .i64 0, .int .i64 0, .int .i64 0, .int .i64 0, .str []] 27)) 27 (.ptr (some (.new h.next 0))) (.agg s.cells) =
    some ((h.push (.cells [.int .i64 0, .int .i64 0, .int .i64 0, .int .i64 0, .str []] 27)).set h.next (.cells s.cells 27)) := by
  have hg : (h.push (.cells [.int .i64 0, .int .i64 0, .int .i64 0, .int .i64 0, .str []] 27)).get h.next = some (.cells [.int .i64 0, .int .i64 0, .int .i64 0, .int .i64 0, .str []] 27) := by simp
  simp only [aStoreOp, aCellsOf, size27, aStore, hg, Stp.cells]
  rfl
theorem sat_new : SAt ((h.push (.cells [.int .i64 0, .int .i64 0, .int .i64 0, .int .i64 0, .str []] 27)).set h.next (.cells s.cells 27)) h.next s := ⟨by simp, by simp⟩
theorem keeps_new {o o' : AObj} : Keeps h ((h.push o).set h.next o') := (Keeps.push _ _).set (Nat.le_refl _) _
theorem SAt.but {h' : AH} {k : Nat} (hs : SAt h j s) (hk : KeepsBut k h h') (hne : j ≠ k) : SAt h' j s := ⟨Nat.lt_of_lt_of_le hs.1 hk.1, (hk.2 j hs.1 hne).trans hs.2⟩
end

/-- The first descriptor is '/a' at a place. -/
def First (T : List Ent) (a : Int) : Prop := T[0]? = some ([47, 97], a)

theorem First.set {T : List Ent} {a : Int} {i : Nat} {y : Ent} (hf : First T a) (hi : i ≠ 0) : First (T.set i y) a := by
  unfold First at *; rw [List.getElem?_set, if_neg hi]; exact hf
theorem First.put {T : List Ent} {a b : Int} (hf : First T a) : First (T.set 0 ([47, 97], b)) b := by
  unfold First at *
  have := (List.getElem?_eq_some_iff.1 hf).1
  rw [List.getElem?_set]; simp [this]
theorem First.got {T : List Ent} {a : Int} (hf : First T a) : gotT T 0 = some (0, ([47, 97], a)) := by
  unfold gotT First at *
  simp [hf]

theorem first_open {T T' : List Ent} {a : Int} {p : List UInt8} {v : AV} (hf : First T a) (h : OpenQ T p v T') : First T' a := by
  rcases h with ⟨_, _, rfl⟩ | ⟨_, i, x, hi, hx, he, hno, hv, rfl⟩ | ⟨_, _, _, rfl⟩
  · exact hf
  · refine hf.set fun e => ?_
    subst e
    unfold First at hf
    rw [hf] at hx
    simp at hx; subst hx
    simp at he
  · exact hf
theorem first_close {T T' : List Ent} {a fd : Int} {v : AV} (hf : First T a) (hfd : fd ≠ 0) (h : CloseQ T fd v T') : First T' a := by
  unfold CloseQ at h
  cases hg : gotT T fd with
  | none => rw [hg] at h; rw [h.2]; exact hf
  | some r =>
    obtain ⟨i, x⟩ := r
    rw [hg] at h
    obtain ⟨rfl, hi, hx, hne⟩ := gotT_some hg
    rw [h.2]
    exact hf.set (by omega)
/-- What Seek tells, and the first descriptor's place behind it. -/
theorem first_seek {T T' : List Ent} {a fd fr by' : Int} {v : AV} (hf : First T a) (h : SeekQ T fd fr by' v T') : ∃ n e : Int, v = .tup [.int .i64 n, .int .i64 e] ∧ First T' (if e = 0 ∧ fd = 0 then n else a) := by
  unfold SeekQ at h
  cases hg : gotT T fd with
  | none => rw [hg] at h; refine ⟨0, 311, h.1, ?_⟩; rw [h.2]; simpa using hf
  | some r =>
    obtain ⟨i, x⟩ := r
    rw [hg] at h
    simp only at h
    split at h
    · refine ⟨fr + by', 0, h.1, ?_⟩
      obtain ⟨rfl, hi, hx, hne⟩ := gotT_some hg
      rw [h.2]
      by_cases h0 : i = 0
      · subst h0
        have hx0 : x = ([47, 97], a) := by
          unfold First at hf; rw [hf] at hx; exact (Option.some.inj hx).symm
        subst hx0
        simpa using hf.put
      · rw [if_neg (by omega)]
        exact hf.set h0
    · refine ⟨0, 309, h.1, ?_⟩; rw [h.2]; simpa using hf
theorem first_moved {T T' : List Ent} {a fd n : Int} {v : AV} (hf : First T a) (h : MovedQ T fd n v T') : ∃ e : Int, v = .int .i64 e ∧ First T' (if e = 0 ∧ fd = 0 then a + n else a) := by
  unfold MovedQ at h
  cases hg : gotT T fd with
  | none => rw [hg] at h; refine ⟨311, h.1, ?_⟩; rw [h.2]; simpa using hf
  | some r =>
    obtain ⟨i, x⟩ := r
    rw [hg] at h
    simp only at h
    split at h
    · refine ⟨0, h.1, ?_⟩
      obtain ⟨rfl, hi, hx, hne⟩ := gotT_some hg
      rw [h.2]
      by_cases h0 : i = 0
      · subst h0
        have hx0 : x = ([47, 97], a) := by
          unfold First at hf; rw [hf] at hx; exact (Option.some.inj hx).symm
        subst hx0
        simpa using hf.put
      · rw [if_neg (by omega)]
        exact hf.set h0
    · refine ⟨309, h.1, ?_⟩; rw [h.2]; simpa using hf

/-- What a round keeps. -/
def PlR (k : Nat) (v : AV) (len : Nat) (i : Nat) (e' : Env) (h' : AH) : Prop :=
  e'.length = 128 ∧ ∃ (T : List Ent) (a : Int), TabIs h' k T ∧ First T a ∧ (e'.getD 3 .undef = .ptr (some (.new k 0)) ∧ e'.getD 4 .undef = .int .i64 a ∧ e'.getD 17 .undef = v ∧ e'.getD 18 .undef = .int .i64 len ∧ e'.getD 19 .undef = .int .i64 i)
def PlI (k : Nat) (v : AV) (len : Nat) (m : Nat) (e' : Env) (h' : AH) : Prop := ∃ i : Nat, i + m = len ∧ PlR k v len i e' h'

set_option maxHeartbeats 16000000 in
set_option maxRecDepth 20000 in
theorem places_ret (W : World) (h : AH) (v : AV) (l : List Stp) (hv : StpS W v l) (hl : l.length < 8796093022207) (hp : ∀ s ∈ l, s.p.length < 8796093022207) :
    ACall (CC W) 4 [v] h (fun v _ => v = .bool true) (fun _ _ => False) := by
  refine acall_fin (cc_ok W) (fn4 W) (by simp only [Tryd.f4]; rfl) rfl rfl ?_
  obtain ⟨pa, ca, rfl, hload⟩ := hv
  simp [Wc_seq, Wc_block, Wc_scope, Wc_skip, Wc_label, Wc_exit, Wc_ret, Wc_loop, Wc_region, Wc_cond, Nx_nil, Nx_seq, Nx_seq_exit, Nx_seq_ret, Nx_block, Nx_block_exit, Nx_block_ret, Rg_nil, Rg_cons, RgE, effA, calleeA, wantedA, enterN, ev, ofV, ofVn, putE, evalN, aBin, aInt_add, aInt_sub, aInt_mul, aInt_quo, aInt_rem, aInt_eql, aInt_neq, aInt_lss, aInt_leq, aInt_gtr, aInt_geq, aExtract, finQ_ret, resOf, extU, kq_eq, thenQ_normal, thenQ_exit, thenQ_ret]
  refine callK_RetQ (by simp [fn7]) (new_ret W h) fun v h1 hk1 hv => ?_
  obtain ⟨rfl, ht1⟩ := hv
  simp [Wc_seq, Wc_block, Wc_scope, Wc_skip, Wc_label, Wc_exit, Wc_ret, Wc_loop, Wc_region, Wc_cond, Nx_nil, Nx_seq, Nx_seq_exit, Nx_seq_ret, Nx_block, Nx_block_exit, Nx_block_ret, Rg_nil, Rg_cons, RgE, effA, calleeA, wantedA, enterN, ev, ofV, ofVn, putE, evalN, aBin, aInt_add, aInt_sub, aInt_mul, aInt_quo, aInt_rem, aInt_eql, aInt_neq, aInt_lss, aInt_leq, aInt_gtr, aInt_geq, aExtract, finQ_ret, resOf, extU, kq_eq, thenQ_normal, thenQ_exit, thenQ_ret, aEq, kind23, kindEq1, aEq1]
  refine callK_RetT (by simp [fn8]) (open_ret W h1 h.next tab0 ht1 [47, 97] (by decide)) fun v h2 T2 hq hk2 ht2 => ?_
  obtain ⟨rfl, rfl⟩ := open_first hq
  generalize h.next = k at *
  simp [Wc_seq, Wc_block, Wc_scope, Wc_skip, Wc_label, Wc_exit, Wc_ret, Wc_loop, Wc_region, Wc_cond, Nx_nil, Nx_seq, Nx_seq_exit, Nx_seq_ret, Nx_block, Nx_block_exit, Nx_block_ret, Rg_nil, Rg_cons, RgE, effA, calleeA, wantedA, enterN, ev, ofV, ofVn, putE, evalN, aBin, aInt_add, aInt_sub, aInt_mul, aInt_quo, aInt_rem, aInt_eql, aInt_neq, aInt_lss, aInt_leq, aInt_gtr, aInt_geq, aExtract, finQ_ret, resOf, extU, kq_eq, thenQ_normal, thenQ_exit, thenQ_ret, aLen, kind22]
  refine loopN (cc_ok W) (PlI k (.sl pa l.length ca none) l.length) l.length ⟨0, by simp, by simp, tab0.set 0 ([47, 97], 0), 0, ht2, rfl, by simp⟩ ?_
  rintro m e' h' ⟨i, him, hlen, T, a, ht, hf, hh⟩
  match e', hlen with
  | a0 :: a1 :: a2 :: a3 :: a4 :: a5 :: a6 :: a7 :: a8 :: a9 :: a10 :: a11 :: a12 :: a13 :: a14 :: a15 :: a16 :: a17 :: a18 :: a19 :: a20 :: a21 :: a22 :: a23 :: a24 :: a25 :: a26 :: a27 :: a28 :: a29 :: a30 :: a31 :: a32 :: a33 :: a34 :: a35 :: a36 :: a37 :: a38 :: a39 :: a40 :: a41 :: a42 :: a43 :: a44 :: a45 :: a46 :: a47 :: a48 :: a49 :: a50 :: a51 :: a52 :: a53 :: a54 :: a55 :: a56 :: a57 :: a58 :: a59 :: a60 :: a61 :: a62 :: a63 :: a64 :: a65 :: a66 :: a67 :: a68 :: a69 :: a70 :: a71 :: a72 :: a73 :: a74 :: a75 :: a76 :: a77 :: a78 :: a79 :: a80 :: a81 :: a82 :: a83 :: a84 :: a85 :: a86 :: a87 :: a88 :: a89 :: a90 :: a91 :: a92 :: a93 :: a94 :: a95 :: a96 :: a97 :: a98 :: a99 :: a100 :: a101 :: a102 :: a103 :: a104 :: a105 :: a106 :: a107 :: a108 :: a109 :: a110 :: a111 :: a112 :: a113 :: a114 :: a115 :: a116 :: a117 :: a118 :: a119 :: a120 :: a121 :: a122 :: a123 :: a124 :: a125 :: a126 :: a127 :: [], _ =>
    simp at hh
    obtain ⟨rfl, rfl, rfl, rfl, rfl⟩ := hh
    by_cases hlt : i < l.length
    · have hlt' : (i : Int) < (l.length : Int) := by omega
      have hx : l[i]? = some l[i] := by simp [hlt]
      have hps := hp l[i] (List.getElem_mem hlt)
      obtain ⟨a', hix, hld⟩ := hload i l[i] hx
      generalize l[i] = s at hx hps hld
      have wi : IntKind.i64.wrap ((i : Int) + 1) = (i : Int) + 1 := wrap64 (by omega) (by omega)
      have hsat := sat_new (h := h') (s := s)
      have hsto := store_step (W := W) (h := h') (s := s)
      have hall := alloc_step (W := W) (h := h')
      have htn := ht.keeps (keeps_new (o := .cells [.int .i64 0, .int .i64 0, .int .i64 0, .int .i64 0, .str []] 27) (o' := .cells s.cells 27))
      have hjk : h'.next ≠ k := by have := ht.1; omega
      by_cases hc : s.k = 2 ∧ s.fd = 0
      · have l0 := ld_s0 (W := W) hsat
        have l1 := ld_s1 (W := W) hsat
        rw [hc.1] at l0
        rw [hc.2] at l1
        simp [Wc_seq, Wc_block, Wc_scope, Wc_skip, Wc_label, Wc_exit, Wc_ret, Wc_loop, Wc_region, Wc_cond, Nx_nil, Nx_seq, Nx_seq_exit, Nx_seq_ret, Nx_block, Nx_block_exit, Nx_block_ret, Rg_nil, Rg_cons, RgE, effA, calleeA, wantedA, enterN, ev, ofV, ofVn, putE, evalN, aBin, aInt_add, aInt_sub, aInt_mul, aInt_quo, aInt_rem, aInt_eql, aInt_neq, aInt_lss, aInt_leq, aInt_gtr, aInt_geq, aExtract, finQ_ret, resOf, extU, kq_eq, thenQ_normal, thenQ_exit, thenQ_ret, hlt, hlt', hix, hld, hall, hsto, fa_s0, fa_s1, l0, l1, wi]
        exact ⟨m - 1, by omega, i + 1, by omega, by simp, T, a, htn, hf, by simp⟩
      · have l0 := ld_s0 (W := W) hsat
        have l1 := ld_s1 (W := W) hsat
        have l2 := ld_s2 (W := W) hsat
        have l3 := ld_s3 (W := W) hsat
        have l4 := ld_s4 (W := W) hsat
        generalize (h'.push (.cells [.int .i64 0, .int .i64 0, .int .i64 0, .int .i64 0, .str []] 27)).set h'.next (.cells s.cells 27) = hs at hsat hsto htn l0 l1 l2 l3 l4
        generalize h'.next = j at *
        by_cases hk2 : s.k = 2
        · have b2 : (s.k == 2) = true := by rw [beq_iff_eq]; exact hk2
          have b0 : (s.k == 0) = false := by rw [beq_eq_false_iff_ne]; omega
          have b1 : (s.k == 1) = false := by rw [beq_eq_false_iff_ne]; omega
          have hfd : s.fd ≠ 0 := fun e => hc ⟨hk2, e⟩
          have bf : (s.fd == 0) = false := by rw [beq_eq_false_iff_ne]; exact hfd
          simp [Wc_seq, Wc_block (id := 0), Wc_block (id := 1), Wc_scope, Wc_skip, Wc_label, Wc_exit, Wc_ret, Wc_loop, Wc_region, Wc_cond, Nx_nil, Nx_seq, Nx_seq_exit, Nx_seq_ret, Nx_block, Nx_block_exit, Nx_block_ret, Rg_nil, Rg_cons, RgE, effA, calleeA, wantedA, enterN, ev, ofV, ofVn, putE, evalN, aBin, aInt_add, aInt_sub, aInt_mul, aInt_quo, aInt_rem, aInt_eql, aInt_neq, aInt_lss, aInt_leq, aInt_gtr, aInt_geq, aExtract, finQ_ret, resOf, extU, kq_eq, thenQ_normal, thenQ_exit, thenQ_ret, hlt, hlt', hix, hld, hall, hsto, fa_s0, fa_s1, l0, l1, b2, bf]
          refine wc_cut (PlR k (.sl pa l.length ca none) l.length i) ?_ ?_
          · simp [Wc_seq, Wc_block, Wc_scope, Wc_skip, Wc_label, Wc_exit, Wc_ret, Wc_loop, Wc_region, Wc_cond, Nx_nil, Nx_seq, Nx_seq_exit, Nx_seq_ret, Nx_block, Nx_block_exit, Nx_block_ret, Rg_nil, Rg_cons, RgE, effA, calleeA, wantedA, enterN, ev, ofV, ofVn, putE, evalN, aBin, aInt_add, aInt_sub, aInt_mul, aInt_quo, aInt_rem, aInt_eql, aInt_neq, aInt_lss, aInt_leq, aInt_gtr, aInt_geq, aExtract, finQ_ret, resOf, extU, kq_eq, thenQ_normal, thenQ_exit, thenQ_ret, fa_s0, l0, b0, b1, b2, fa_s1, l1]
            refine callK_RetT (by simp [fn10]) (close_ret W hs k T htn s.fd) fun v h3 T3 hq hk3 ht3 => ?_
            have hf3 := first_close hf hfd hq
            simp [Wc_seq, Wc_block, Wc_scope, Wc_skip, Wc_label, Wc_exit, Wc_ret, Wc_loop, Wc_region, Wc_cond, Nx_nil, Nx_seq, Nx_seq_exit, Nx_seq_ret, Nx_block, Nx_block_exit, Nx_block_ret, Rg_nil, Rg_cons, RgE, effA, calleeA, wantedA, enterN, ev, ofV, ofVn, putE, evalN, aBin, aInt_add, aInt_sub, aInt_mul, aInt_quo, aInt_rem, aInt_eql, aInt_neq, aInt_lss, aInt_leq, aInt_gtr, aInt_geq, aExtract, finQ_ret, resOf, extU, kq_eq, thenQ_normal, thenQ_exit, thenQ_ret]
            exact ⟨by simp, T3, a, ht3, hf3, by simp⟩
          · rintro e2 h2' ⟨hlen2, T2, b, ht2, hf2, hh2⟩
            match e2, hlen2 with
            | a0 :: a1 :: a2 :: a3 :: a4 :: a5 :: a6 :: a7 :: a8 :: a9 :: a10 :: a11 :: a12 :: a13 :: a14 :: a15 :: a16 :: a17 :: a18 :: a19 :: a20 :: a21 :: a22 :: a23 :: a24 :: a25 :: a26 :: a27 :: a28 :: a29 :: a30 :: a31 :: a32 :: a33 :: a34 :: a35 :: a36 :: a37 :: a38 :: a39 :: a40 :: a41 :: a42 :: a43 :: a44 :: a45 :: a46 :: a47 :: a48 :: a49 :: a50 :: a51 :: a52 :: a53 :: a54 :: a55 :: a56 :: a57 :: a58 :: a59 :: a60 :: a61 :: a62 :: a63 :: a64 :: a65 :: a66 :: a67 :: a68 :: a69 :: a70 :: a71 :: a72 :: a73 :: a74 :: a75 :: a76 :: a77 :: a78 :: a79 :: a80 :: a81 :: a82 :: a83 :: a84 :: a85 :: a86 :: a87 :: a88 :: a89 :: a90 :: a91 :: a92 :: a93 :: a94 :: a95 :: a96 :: a97 :: a98 :: a99 :: a100 :: a101 :: a102 :: a103 :: a104 :: a105 :: a106 :: a107 :: a108 :: a109 :: a110 :: a111 :: a112 :: a113 :: a114 :: a115 :: a116 :: a117 :: a118 :: a119 :: a120 :: a121 :: a122 :: a123 :: a124 :: a125 :: a126 :: a127 :: [], _ =>
              simp at hh2
              obtain ⟨rfl, rfl, rfl, rfl, rfl⟩ := hh2
              have hat : atR T2 0 = ([47, 97], b, 0) := by unfold atR; rw [hf2.got]
              obtain ⟨hb0, hb1⟩ := ht2.2.2.2 0 _ hf2
              simp only at hb0 hb1
              have n0 : ¬ b < 0 := by omega
              have n1 : ¬ 533248 < b := by omega
              simp [Wc_seq, Wc_block, Wc_scope, Wc_skip, Wc_label, Wc_exit, Wc_ret, Wc_loop, Wc_region, Wc_cond, Nx_nil, Nx_seq, Nx_seq_exit, Nx_seq_ret, Nx_block, Nx_block_exit, Nx_block_ret, Rg_nil, Rg_cons, RgE, effA, calleeA, wantedA, enterN, ev, ofV, ofVn, putE, evalN, aBin, aInt_add, aInt_sub, aInt_mul, aInt_quo, aInt_rem, aInt_eql, aInt_neq, aInt_lss, aInt_leq, aInt_gtr, aInt_geq, aExtract, finQ_ret, resOf, extU, kq_eq, thenQ_normal, thenQ_exit, thenQ_ret]
              refine callK_RetH (by simp [fn17]) (at_ret W h2' k T2 ht2 0) ?_
              rw [hat]
              simp [Wc_seq, Wc_block, Wc_scope, Wc_skip, Wc_label, Wc_exit, Wc_ret, Wc_loop, Wc_region, Wc_cond, Nx_nil, Nx_seq, Nx_seq_exit, Nx_seq_ret, Nx_block, Nx_block_exit, Nx_block_ret, Rg_nil, Rg_cons, RgE, effA, calleeA, wantedA, enterN, ev, ofV, ofVn, putE, evalN, aBin, aInt_add, aInt_sub, aInt_mul, aInt_quo, aInt_rem, aInt_eql, aInt_neq, aInt_lss, aInt_leq, aInt_gtr, aInt_geq, aExtract, finQ_ret, resOf, extU, kq_eq, thenQ_normal, thenQ_exit, thenQ_ret, aStr, n0, n1, wi]
              exact ⟨m - 1, by omega, i + 1, by omega, by simp, T2, b, ht2, hf2, by simp⟩
        · have b2 : (s.k == 2) = false := by rw [beq_eq_false_iff_ne]; exact hk2
          simp [Wc_seq, Wc_block (id := 0), Wc_block (id := 1), Wc_scope, Wc_skip, Wc_label, Wc_exit, Wc_ret, Wc_loop, Wc_region, Wc_cond, Nx_nil, Nx_seq, Nx_seq_exit, Nx_seq_ret, Nx_block, Nx_block_exit, Nx_block_ret, Rg_nil, Rg_cons, RgE, effA, calleeA, wantedA, enterN, ev, ofV, ofVn, putE, evalN, aBin, aInt_add, aInt_sub, aInt_mul, aInt_quo, aInt_rem, aInt_eql, aInt_neq, aInt_lss, aInt_leq, aInt_gtr, aInt_geq, aExtract, finQ_ret, resOf, extU, kq_eq, thenQ_normal, thenQ_exit, thenQ_ret, hlt, hlt', hix, hld, hall, hsto, fa_s0, fa_s1, l0, l1, b2]
          refine wc_cut (PlR k (.sl pa l.length ca none) l.length i) ?_ ?_
          · by_cases hk01 : s.k = 0 ∨ s.k = 1
            · have hop : ∀ (Q : Post) ops rest ks e dst, (∀ v h3 T3, First T3 a → TabIs h3 k T3 → Rg (CC W) Q ops rest ks (putE e dst v) h3) → CallK (CC W) Q ops rest ks e dst 8 [.ptr (some (.new k 0)), .str s.p] hs := fun Q ops rest ks e dst hk =>
                callK_RetT (by simp [fn8]) (open_ret W hs k T htn s.p hps) fun v h3 T3 hq hk3 ht3 => hk v h3 T3 (first_open hf hq) ht3
              rcases hk01 with h0 | h0
              · have b0 : (s.k == 0) = true := by rw [beq_iff_eq]; exact h0
                simp [Wc_seq, Wc_block, Wc_scope, Wc_skip, Wc_label, Wc_exit, Wc_ret, Wc_loop, Wc_region, Wc_cond, Nx_nil, Nx_seq, Nx_seq_exit, Nx_seq_ret, Nx_block, Nx_block_exit, Nx_block_ret, Rg_nil, Rg_cons, RgE, effA, calleeA, wantedA, enterN, ev, ofV, ofVn, putE, evalN, aBin, aInt_add, aInt_sub, aInt_mul, aInt_quo, aInt_rem, aInt_eql, aInt_neq, aInt_lss, aInt_leq, aInt_gtr, aInt_geq, aExtract, finQ_ret, resOf, extU, kq_eq, thenQ_normal, thenQ_exit, thenQ_ret, fa_s0, l0, b0, fa_s4, l4]
                refine hop _ _ _ _ _ _ fun v h3 T3 hf3 ht3 => ?_
                simp [Wc_seq, Wc_block, Wc_scope, Wc_skip, Wc_label, Wc_exit, Wc_ret, Wc_loop, Wc_region, Wc_cond, Nx_nil, Nx_seq, Nx_seq_exit, Nx_seq_ret, Nx_block, Nx_block_exit, Nx_block_ret, Rg_nil, Rg_cons, RgE, effA, calleeA, wantedA, enterN, ev, ofV, ofVn, putE, evalN, aBin, aInt_add, aInt_sub, aInt_mul, aInt_quo, aInt_rem, aInt_eql, aInt_neq, aInt_lss, aInt_leq, aInt_gtr, aInt_geq, aExtract, finQ_ret, resOf, extU, kq_eq, thenQ_normal, thenQ_exit, thenQ_ret]
                exact ⟨by simp, T3, a, ht3, hf3, by simp⟩
              · have b0 : (s.k == 0) = false := by rw [beq_eq_false_iff_ne]; omega
                have b1 : (s.k == 1) = true := by rw [beq_iff_eq]; exact h0
                simp [Wc_seq, Wc_block, Wc_scope, Wc_skip, Wc_label, Wc_exit, Wc_ret, Wc_loop, Wc_region, Wc_cond, Nx_nil, Nx_seq, Nx_seq_exit, Nx_seq_ret, Nx_block, Nx_block_exit, Nx_block_ret, Rg_nil, Rg_cons, RgE, effA, calleeA, wantedA, enterN, ev, ofV, ofVn, putE, evalN, aBin, aInt_add, aInt_sub, aInt_mul, aInt_quo, aInt_rem, aInt_eql, aInt_neq, aInt_lss, aInt_leq, aInt_gtr, aInt_geq, aExtract, finQ_ret, resOf, extU, kq_eq, thenQ_normal, thenQ_exit, thenQ_ret, fa_s0, l0, b0, b1, fa_s4, l4]
                refine hop _ _ _ _ _ _ fun v h3 T3 hf3 ht3 => ?_
                simp [Wc_seq, Wc_block, Wc_scope, Wc_skip, Wc_label, Wc_exit, Wc_ret, Wc_loop, Wc_region, Wc_cond, Nx_nil, Nx_seq, Nx_seq_exit, Nx_seq_ret, Nx_block, Nx_block_exit, Nx_block_ret, Rg_nil, Rg_cons, RgE, effA, calleeA, wantedA, enterN, ev, ofV, ofVn, putE, evalN, aBin, aInt_add, aInt_sub, aInt_mul, aInt_quo, aInt_rem, aInt_eql, aInt_neq, aInt_lss, aInt_leq, aInt_gtr, aInt_geq, aExtract, finQ_ret, resOf, extU, kq_eq, thenQ_normal, thenQ_exit, thenQ_ret]
                exact ⟨by simp, T3, a, ht3, hf3, by simp⟩
            · have b0 : (s.k == 0) = false := by rw [beq_eq_false_iff_ne]; omega
              have b1 : (s.k == 1) = false := by rw [beq_eq_false_iff_ne]; omega
              by_cases hk3 : s.k = 3
              · have b3 : (s.k == 3) = true := by rw [beq_iff_eq]; exact hk3
                simp [Wc_seq, Wc_block, Wc_scope, Wc_skip, Wc_label, Wc_exit, Wc_ret, Wc_loop, Wc_region, Wc_cond, Nx_nil, Nx_seq, Nx_seq_exit, Nx_seq_ret, Nx_block, Nx_block_exit, Nx_block_ret, Rg_nil, Rg_cons, RgE, effA, calleeA, wantedA, enterN, ev, ofV, ofVn, putE, evalN, aBin, aInt_add, aInt_sub, aInt_mul, aInt_quo, aInt_rem, aInt_eql, aInt_neq, aInt_lss, aInt_leq, aInt_gtr, aInt_geq, aExtract, finQ_ret, resOf, extU, kq_eq, thenQ_normal, thenQ_exit, thenQ_ret, fa_s0, l0, b0, b1, b2, b3, fa_s1, l1, fa_s2, l2, fa_s3, l3]
                refine callK_RetT (by simp [fn13]) (seek_ret W hs k T htn s.fd s.fr s.n) fun v h3 T3 hq hkb ht3 => ?_
                obtain ⟨n, e, rfl, hf3⟩ := first_seek hf hq
                have hsat3 := hsat.but hkb hjk
                have m1 := ld_s1 (W := W) hsat3
                by_cases he : e = 0
                · subst he
                  by_cases hfd : s.fd = 0
                  · have bf : (s.fd == 0) = true := by rw [beq_iff_eq]; exact hfd
                    rw [if_pos ⟨rfl, hfd⟩] at hf3
                    simp [Wc_seq, Wc_block, Wc_scope, Wc_skip, Wc_label, Wc_exit, Wc_ret, Wc_loop, Wc_region, Wc_cond, Nx_nil, Nx_seq, Nx_seq_exit, Nx_seq_ret, Nx_block, Nx_block_exit, Nx_block_ret, Rg_nil, Rg_cons, RgE, effA, calleeA, wantedA, enterN, ev, ofV, ofVn, putE, evalN, aBin, aInt_add, aInt_sub, aInt_mul, aInt_quo, aInt_rem, aInt_eql, aInt_neq, aInt_lss, aInt_leq, aInt_gtr, aInt_geq, aExtract, finQ_ret, resOf, extU, kq_eq, thenQ_normal, thenQ_exit, thenQ_ret, fa_s1, m1, bf]
                    exact ⟨by simp, T3, n, ht3, hf3, by simp⟩
                  · have bf : (s.fd == 0) = false := by rw [beq_eq_false_iff_ne]; exact hfd
                    rw [if_neg (fun h => hfd h.2)] at hf3
                    simp [Wc_seq, Wc_block, Wc_scope, Wc_skip, Wc_label, Wc_exit, Wc_ret, Wc_loop, Wc_region, Wc_cond, Nx_nil, Nx_seq, Nx_seq_exit, Nx_seq_ret, Nx_block, Nx_block_exit, Nx_block_ret, Rg_nil, Rg_cons, RgE, effA, calleeA, wantedA, enterN, ev, ofV, ofVn, putE, evalN, aBin, aInt_add, aInt_sub, aInt_mul, aInt_quo, aInt_rem, aInt_eql, aInt_neq, aInt_lss, aInt_leq, aInt_gtr, aInt_geq, aExtract, finQ_ret, resOf, extU, kq_eq, thenQ_normal, thenQ_exit, thenQ_ret, fa_s1, m1, bf]
                    exact ⟨by simp, T3, a, ht3, hf3, by simp⟩
                · have be : (e == 0) = false := by rw [beq_eq_false_iff_ne]; exact he
                  rw [if_neg (fun h => he h.1)] at hf3
                  simp [Wc_seq, Wc_block, Wc_scope, Wc_skip, Wc_label, Wc_exit, Wc_ret, Wc_loop, Wc_region, Wc_cond, Nx_nil, Nx_seq, Nx_seq_exit, Nx_seq_ret, Nx_block, Nx_block_exit, Nx_block_ret, Rg_nil, Rg_cons, RgE, effA, calleeA, wantedA, enterN, ev, ofV, ofVn, putE, evalN, aBin, aInt_add, aInt_sub, aInt_mul, aInt_quo, aInt_rem, aInt_eql, aInt_neq, aInt_lss, aInt_leq, aInt_gtr, aInt_geq, aExtract, finQ_ret, resOf, extU, kq_eq, thenQ_normal, thenQ_exit, thenQ_ret, be]
                  exact ⟨by simp, T3, a, ht3, hf3, by simp⟩
              · have b3 : (s.k == 3) = false := by rw [beq_eq_false_iff_ne]; exact hk3
                by_cases hk4 : s.k = 4
                · have b4 : (s.k == 4) = true := by rw [beq_iff_eq]; exact hk4
                  simp [Wc_seq, Wc_block, Wc_scope, Wc_skip, Wc_label, Wc_exit, Wc_ret, Wc_loop, Wc_region, Wc_cond, Nx_nil, Nx_seq, Nx_seq_exit, Nx_seq_ret, Nx_block, Nx_block_exit, Nx_block_ret, Rg_nil, Rg_cons, RgE, effA, calleeA, wantedA, enterN, ev, ofV, ofVn, putE, evalN, aBin, aInt_add, aInt_sub, aInt_mul, aInt_quo, aInt_rem, aInt_eql, aInt_neq, aInt_lss, aInt_leq, aInt_gtr, aInt_geq, aExtract, finQ_ret, resOf, extU, kq_eq, thenQ_normal, thenQ_exit, thenQ_ret, fa_s0, l0, b0, b1, b2, b3, b4, fa_s1, l1, fa_s3, l3]
                  refine callK_RetQ (by simp [fn14]) (next_ret W hs k T htn s.fd s.n) fun v h3 hkb hv => ?_
                  simp [Wc_seq, Wc_block, Wc_scope, Wc_skip, Wc_label, Wc_exit, Wc_ret, Wc_loop, Wc_region, Wc_cond, Nx_nil, Nx_seq, Nx_seq_exit, Nx_seq_ret, Nx_block, Nx_block_exit, Nx_block_ret, Rg_nil, Rg_cons, RgE, effA, calleeA, wantedA, enterN, ev, ofV, ofVn, putE, evalN, aBin, aInt_add, aInt_sub, aInt_mul, aInt_quo, aInt_rem, aInt_eql, aInt_neq, aInt_lss, aInt_leq, aInt_gtr, aInt_geq, aExtract, finQ_ret, resOf, extU, kq_eq, thenQ_normal, thenQ_exit, thenQ_ret]
                  exact ⟨by simp, T, a, htn.keeps hkb, hf, by simp⟩
                · have b4 : (s.k == 4) = false := by rw [beq_eq_false_iff_ne]; exact hk4
                  by_cases hk5 : s.k = 5
                  · have b5 : (s.k == 5) = true := by rw [beq_iff_eq]; exact hk5
                    simp [Wc_seq, Wc_block, Wc_scope, Wc_skip, Wc_label, Wc_exit, Wc_ret, Wc_loop, Wc_region, Wc_cond, Nx_nil, Nx_seq, Nx_seq_exit, Nx_seq_ret, Nx_block, Nx_block_exit, Nx_block_ret, Rg_nil, Rg_cons, RgE, effA, calleeA, wantedA, enterN, ev, ofV, ofVn, putE, evalN, aBin, aInt_add, aInt_sub, aInt_mul, aInt_quo, aInt_rem, aInt_eql, aInt_neq, aInt_lss, aInt_leq, aInt_gtr, aInt_geq, aExtract, finQ_ret, resOf, extU, kq_eq, thenQ_normal, thenQ_exit, thenQ_ret, fa_s0, l0, b0, b1, b2, b3, b4, b5, fa_s1, l1, fa_s4, l4]
                    refine callK_RetQ (by simp [fn15]) (write_ret W hs k T htn s.fd s.p) fun v h3 hkb hv => ?_
                    simp [Wc_seq, Wc_block, Wc_scope, Wc_skip, Wc_label, Wc_exit, Wc_ret, Wc_loop, Wc_region, Wc_cond, Nx_nil, Nx_seq, Nx_seq_exit, Nx_seq_ret, Nx_block, Nx_block_exit, Nx_block_ret, Rg_nil, Rg_cons, RgE, effA, calleeA, wantedA, enterN, ev, ofV, ofVn, putE, evalN, aBin, aInt_add, aInt_sub, aInt_mul, aInt_quo, aInt_rem, aInt_eql, aInt_neq, aInt_lss, aInt_leq, aInt_gtr, aInt_geq, aExtract, finQ_ret, resOf, extU, kq_eq, thenQ_normal, thenQ_exit, thenQ_ret]
                    exact ⟨by simp, T, a, htn.keeps hkb, hf, by simp⟩
                  · have b5 : (s.k == 5) = false := by rw [beq_eq_false_iff_ne]; exact hk5
                    by_cases hk6 : s.k = 6
                    · have b6 : (s.k == 6) = true := by rw [beq_iff_eq]; exact hk6
                      simp [Wc_seq, Wc_block, Wc_scope, Wc_skip, Wc_label, Wc_exit, Wc_ret, Wc_loop, Wc_region, Wc_cond, Nx_nil, Nx_seq, Nx_seq_exit, Nx_seq_ret, Nx_block, Nx_block_exit, Nx_block_ret, Rg_nil, Rg_cons, RgE, effA, calleeA, wantedA, enterN, ev, ofV, ofVn, putE, evalN, aBin, aInt_add, aInt_sub, aInt_mul, aInt_quo, aInt_rem, aInt_eql, aInt_neq, aInt_lss, aInt_leq, aInt_gtr, aInt_geq, aExtract, finQ_ret, resOf, extU, kq_eq, thenQ_normal, thenQ_exit, thenQ_ret, fa_s0, l0, b0, b1, b2, b3, b4, b5, b6, fa_s1, l1, fa_s3, l3]
                      refine callK_RetT (by simp [fn16]) (moved_ret W hs k T htn s.fd s.n) fun v h3 T3 hq hkb ht3 => ?_
                      obtain ⟨e, rfl, hf3⟩ := first_moved hf hq
                      have hsat3 := hsat.but hkb hjk
                      have m1 := ld_s1 (W := W) hsat3
                      have m3 := ld_s3 (W := W) hsat3
                      by_cases he : e = 0
                      · subst he
                        by_cases hfd : s.fd = 0
                        · have bf : (s.fd == 0) = true := by rw [beq_iff_eq]; exact hfd
                          rw [if_pos ⟨rfl, hfd⟩] at hf3
                          have hbb := ht3.2.2.2 0 _ hf3
                          simp only at hbb
                          have hw : IntKind.i64.wrap (a + s.n) = a + s.n := wrap64 (by omega) (by omega)
                          simp [Wc_seq, Wc_block, Wc_scope, Wc_skip, Wc_label, Wc_exit, Wc_ret, Wc_loop, Wc_region, Wc_cond, Nx_nil, Nx_seq, Nx_seq_exit, Nx_seq_ret, Nx_block, Nx_block_exit, Nx_block_ret, Rg_nil, Rg_cons, RgE, effA, calleeA, wantedA, enterN, ev, ofV, ofVn, putE, evalN, aBin, aInt_add, aInt_sub, aInt_mul, aInt_quo, aInt_rem, aInt_eql, aInt_neq, aInt_lss, aInt_leq, aInt_gtr, aInt_geq, aExtract, finQ_ret, resOf, extU, kq_eq, thenQ_normal, thenQ_exit, thenQ_ret, fa_s1, m1, bf, fa_s3, m3, hw]
                          exact ⟨by simp, T3, a + s.n, ht3, hf3, by simp⟩
                        · have bf : (s.fd == 0) = false := by rw [beq_eq_false_iff_ne]; exact hfd
                          rw [if_neg (fun h => hfd h.2)] at hf3
                          simp [Wc_seq, Wc_block, Wc_scope, Wc_skip, Wc_label, Wc_exit, Wc_ret, Wc_loop, Wc_region, Wc_cond, Nx_nil, Nx_seq, Nx_seq_exit, Nx_seq_ret, Nx_block, Nx_block_exit, Nx_block_ret, Rg_nil, Rg_cons, RgE, effA, calleeA, wantedA, enterN, ev, ofV, ofVn, putE, evalN, aBin, aInt_add, aInt_sub, aInt_mul, aInt_quo, aInt_rem, aInt_eql, aInt_neq, aInt_lss, aInt_leq, aInt_gtr, aInt_geq, aExtract, finQ_ret, resOf, extU, kq_eq, thenQ_normal, thenQ_exit, thenQ_ret, fa_s1, m1, bf]
                          exact ⟨by simp, T3, a, ht3, hf3, by simp⟩
                      · have be : (e == 0) = false := by rw [beq_eq_false_iff_ne]; exact he
                        rw [if_neg (fun h => he h.1)] at hf3
                        simp [Wc_seq, Wc_block, Wc_scope, Wc_skip, Wc_label, Wc_exit, Wc_ret, Wc_loop, Wc_region, Wc_cond, Nx_nil, Nx_seq, Nx_seq_exit, Nx_seq_ret, Nx_block, Nx_block_exit, Nx_block_ret, Rg_nil, Rg_cons, RgE, effA, calleeA, wantedA, enterN, ev, ofV, ofVn, putE, evalN, aBin, aInt_add, aInt_sub, aInt_mul, aInt_quo, aInt_rem, aInt_eql, aInt_neq, aInt_lss, aInt_leq, aInt_gtr, aInt_geq, aExtract, finQ_ret, resOf, extU, kq_eq, thenQ_normal, thenQ_exit, thenQ_ret, be]
                        exact ⟨by simp, T3, a, ht3, hf3, by simp⟩
                    · have b6 : (s.k == 6) = false := by rw [beq_eq_false_iff_ne]; exact hk6
                      simp [Wc_seq, Wc_block, Wc_scope, Wc_skip, Wc_label, Wc_exit, Wc_ret, Wc_loop, Wc_region, Wc_cond, Nx_nil, Nx_seq, Nx_seq_exit, Nx_seq_ret, Nx_block, Nx_block_exit, Nx_block_ret, Rg_nil, Rg_cons, RgE, effA, calleeA, wantedA, enterN, ev, ofV, ofVn, putE, evalN, aBin, aInt_add, aInt_sub, aInt_mul, aInt_quo, aInt_rem, aInt_eql, aInt_neq, aInt_lss, aInt_leq, aInt_gtr, aInt_geq, aExtract, finQ_ret, resOf, extU, kq_eq, thenQ_normal, thenQ_exit, thenQ_ret, fa_s0, l0, b0, b1, b2, b3, b4, b5, b6]
                      exact ⟨by simp, T, a, htn, hf, by simp⟩
          · rintro e2 h2' ⟨hlen2, T2, b, ht2, hf2, hh2⟩
            match e2, hlen2 with
            | a0 :: a1 :: a2 :: a3 :: a4 :: a5 :: a6 :: a7 :: a8 :: a9 :: a10 :: a11 :: a12 :: a13 :: a14 :: a15 :: a16 :: a17 :: a18 :: a19 :: a20 :: a21 :: a22 :: a23 :: a24 :: a25 :: a26 :: a27 :: a28 :: a29 :: a30 :: a31 :: a32 :: a33 :: a34 :: a35 :: a36 :: a37 :: a38 :: a39 :: a40 :: a41 :: a42 :: a43 :: a44 :: a45 :: a46 :: a47 :: a48 :: a49 :: a50 :: a51 :: a52 :: a53 :: a54 :: a55 :: a56 :: a57 :: a58 :: a59 :: a60 :: a61 :: a62 :: a63 :: a64 :: a65 :: a66 :: a67 :: a68 :: a69 :: a70 :: a71 :: a72 :: a73 :: a74 :: a75 :: a76 :: a77 :: a78 :: a79 :: a80 :: a81 :: a82 :: a83 :: a84 :: a85 :: a86 :: a87 :: a88 :: a89 :: a90 :: a91 :: a92 :: a93 :: a94 :: a95 :: a96 :: a97 :: a98 :: a99 :: a100 :: a101 :: a102 :: a103 :: a104 :: a105 :: a106 :: a107 :: a108 :: a109 :: a110 :: a111 :: a112 :: a113 :: a114 :: a115 :: a116 :: a117 :: a118 :: a119 :: a120 :: a121 :: a122 :: a123 :: a124 :: a125 :: a126 :: a127 :: [], _ =>
              simp at hh2
              obtain ⟨rfl, rfl, rfl, rfl, rfl⟩ := hh2
              have hat : atR T2 0 = ([47, 97], b, 0) := by unfold atR; rw [hf2.got]
              obtain ⟨hb0, hb1⟩ := ht2.2.2.2 0 _ hf2
              simp only at hb0 hb1
              have n0 : ¬ b < 0 := by omega
              have n1 : ¬ 533248 < b := by omega
              simp [Wc_seq, Wc_block, Wc_scope, Wc_skip, Wc_label, Wc_exit, Wc_ret, Wc_loop, Wc_region, Wc_cond, Nx_nil, Nx_seq, Nx_seq_exit, Nx_seq_ret, Nx_block, Nx_block_exit, Nx_block_ret, Rg_nil, Rg_cons, RgE, effA, calleeA, wantedA, enterN, ev, ofV, ofVn, putE, evalN, aBin, aInt_add, aInt_sub, aInt_mul, aInt_quo, aInt_rem, aInt_eql, aInt_neq, aInt_lss, aInt_leq, aInt_gtr, aInt_geq, aExtract, finQ_ret, resOf, extU, kq_eq, thenQ_normal, thenQ_exit, thenQ_ret]
              refine callK_RetH (by simp [fn17]) (at_ret W h2' k T2 ht2 0) ?_
              rw [hat]
              simp [Wc_seq, Wc_block, Wc_scope, Wc_skip, Wc_label, Wc_exit, Wc_ret, Wc_loop, Wc_region, Wc_cond, Nx_nil, Nx_seq, Nx_seq_exit, Nx_seq_ret, Nx_block, Nx_block_exit, Nx_block_ret, Rg_nil, Rg_cons, RgE, effA, calleeA, wantedA, enterN, ev, ofV, ofVn, putE, evalN, aBin, aInt_add, aInt_sub, aInt_mul, aInt_quo, aInt_rem, aInt_eql, aInt_neq, aInt_lss, aInt_leq, aInt_gtr, aInt_geq, aExtract, finQ_ret, resOf, extU, kq_eq, thenQ_normal, thenQ_exit, thenQ_ret, aStr, n0, n1, wi]
              exact ⟨m - 1, by omega, i + 1, by omega, by simp, T2, b, ht2, hf2, by simp⟩
    · have hlt' : ¬ (i : Int) < (l.length : Int) := by omega
      simp [Wc_seq, Wc_block, Wc_scope, Wc_skip, Wc_label, Wc_exit, Wc_ret, Wc_loop, Wc_region, Wc_cond, Nx_nil, Nx_seq, Nx_seq_exit, Nx_seq_ret, Nx_block, Nx_block_exit, Nx_block_ret, Rg_nil, Rg_cons, RgE, effA, calleeA, wantedA, enterN, ev, ofV, ofVn, putE, evalN, aBin, aInt_add, aInt_sub, aInt_mul, aInt_quo, aInt_rem, aInt_eql, aInt_neq, aInt_lss, aInt_leq, aInt_gtr, aInt_geq, aExtract, finQ_ret, resOf, extU, kq_eq, thenQ_normal, thenQ_exit, thenQ_ret, hlt, hlt']
      refine callK_RetX (by simp [fn12]) (speaks_ret W) fun h6 hk6 => ?_
      simp [Wc_seq, Wc_block, Wc_scope, Wc_skip, Wc_label, Wc_exit, Wc_ret, Wc_loop, Wc_region, Wc_cond, Nx_nil, Nx_seq, Nx_seq_exit, Nx_seq_ret, Nx_block, Nx_block_exit, Nx_block_ret, Rg_nil, Rg_cons, RgE, effA, calleeA, wantedA, enterN, ev, ofV, ofVn, putE, evalN, aBin, aInt_add, aInt_sub, aInt_mul, aInt_quo, aInt_rem, aInt_eql, aInt_neq, aInt_lss, aInt_leq, aInt_gtr, aInt_geq, aExtract, finQ_ret, resOf, extU, kq_eq, thenQ_normal, thenQ_exit, thenQ_ret]
end Go.Proofs.YteedadelgpagfaaDoor.Ax
