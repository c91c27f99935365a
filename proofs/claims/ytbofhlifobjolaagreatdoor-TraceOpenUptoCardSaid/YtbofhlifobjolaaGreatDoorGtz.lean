/- The texts TraceLn, as one. -/
import Derived.Test.YtbofhlifobjolaaGreatDoorGty

/-! TraceOpen: the walk -/
section
set_option linter.unusedVariables false
set_option linter.unusedSimpArgs false
namespace Go.Proofs.YtbofhlifobjolaaGreatDoor.Ax
open Go.RowKit

theorem cho_box {W : World} (h : AH) (c : Cho) : ∃ hp h2, aAlloc (CC W) h 69 = some (.ptr (some (.new h.next 0)), hp) ∧ aStoreOp (CC W) hp 69 (.ptr (some (.new h.next 0))) (.agg c.cells) = some h2 ∧ Keeps h h2 ∧ h.next < h2.next ∧ h2.get h.next = some (.cells c.cells 69) := by
  obtain ⟨x, hal, hx⟩ := alloc_cho (W := W) (h := h)
  have hst := st_cho (W := W) (c := c) (h := h.push (.cells x 69)) (k := h.next) (a := x) (by simp) hx
  exact ⟨_, _, hal, hst, (Keeps.push _ _).set (Nat.le_refl _) _, by simp, by simp⟩
theorem ld_choop {W : World} {h : AH} {k : Nat} {c : Cho} (hg : h.get k = some (.cells c.cells 69)) : aLoad (CC W) h 35 (.new k 6) = some (.agg c.op.cells) := by
  unfold aLoad
  rw [ty35]
  show (aCells (CC W) h (.new k 6) 6).map AV.agg = _
  simp only [aCells, hg]
  rfl
theorem want_len (l : List See) : ∀ (t : List See) (i : Nat), (wantF l i t).length ≤ t.length
  | [], _ => by simp [wantF]
  | s :: t, i => by
    have := want_len l t (i + 1)
    rw [wantF, List.length_append]
    split <;> simp <;> omega
/-- Is a step's call open, as far as it is looked at? -/
def opnB (T : List See) (i : Nat) (s : See) (k : Nat) : Bool := !(T.take (min k i)).any (isC (kOf s)) && !(T.take k).any (repd (kOf s))
theorem op_end {T : List See} {i : Nat} {s : See} (hi : i ≤ T.length) (hk : s.c.kind = 1) : opnB T i s T.length = wantO T i s := by
  simp [opnB, wantO, hk, Nat.min_eq_right hi]
theorem op_next {T : List See} {i k : Nat} {s t : See} (hk : T[k]? = some t) : opnB T i s (k + 1) = ((opnB T i s k && !(decide (k < i) && isC (kOf s) t)) && !repd (kOf s) t) := by
  have h1 : (T.take (k + 1)).any (repd (kOf s)) = ((T.take k).any (repd (kOf s)) || repd (kOf s) t) := by
    rw [List.take_add_one, hk, List.any_append]; simp
  have h2 : (T.take (min (k + 1) i)).any (isC (kOf s)) = ((T.take (min k i)).any (isC (kOf s)) || (decide (k < i) && isC (kOf s) t)) := by
    by_cases hlt : k < i
    · rw [Nat.min_eq_left (by omega), Nat.min_eq_left (by omega), List.take_add_one, hk, List.any_append]; simp [hlt]
    · rw [Nat.min_eq_right (by omega), Nat.min_eq_right (by omega)]; simp [hlt]
  simp only [opnB, h1, h2]
  cases (T.take (min k i)).any (isC (kOf s)) <;> cases (T.take k).any (repd (kOf s)) <;> cases (decide (k < i) && isC (kOf s) t) <;> cases repd (kOf s) t <;> rfl

def N0 (h3 : AH) (v : AV) (len : Nat) (e' : Env) (h' : AH) : Prop := e'.length = 141 ∧ h' = h3 ∧ ∃ N : Nat, N ≤ len ∧ (v = e'.getD 0 .undef ∧ e'.getD 1 .undef = .int .i64 N)
def N1 (h4 : AH) (v v2 : AV) (N : Nat) (T : List See) (n : Nat) (e' : Env) (h' : AH) : Prop :=
  e'.length = 141 ∧ Keeps h4 h' ∧ ∃ (i : Nat) (X : List Ent) (w : AV), i + n = T.length ∧ EosIs h4 h' w X ∧ X ++ wantF T i (T.drop i) = wantF T 0 T ∧
    (v = e'.getD 0 .undef ∧ e'.getD 1 .undef = .int .i64 N ∧ w = e'.getD 8 .undef ∧ v2 = e'.getD 46 .undef ∧ e'.getD 47 .undef = .int .i64 T.length ∧ e'.getD 48 .undef = .int .i64 i)
def N2 (h4 : AH) (v v2 w : AV) (N : Nat) (T : List See) (X : List Ent) (i kc : Nat) (s : See) (n : Nat) (e' : Env) (h' : AH) : Prop :=
  e'.length = 141 ∧ Keeps h4 h' ∧ EosIs h4 h' w X ∧ kc < h'.next ∧ h'.get kc = some (.cells s.c.cells 69) ∧ ∃ k : Nat, k + n = T.length ∧
    (v = e'.getD 0 .undef ∧ e'.getD 1 .undef = .int .i64 N ∧ w = e'.getD 8 .undef ∧ v2 = e'.getD 46 .undef ∧ e'.getD 47 .undef = .int .i64 T.length ∧ e'.getD 48 .undef = .int .i64 i ∧ e'.getD 9 .undef = .int .i64 i ∧ e'.getD 11 .undef = .ptr (some (.new kc 0)) ∧ e'.getD 12 .undef = .bool (opnB T i s k) ∧ v2 = e'.getD 60 .undef ∧ e'.getD 61 .undef = .int .i64 T.length ∧ e'.getD 62 .undef = .int .i64 k)
def N2c (h9 : AH) (v v2 w : AV) (N : Nat) (T : List See) (i kc kt k : Nat) (b : Bool) (e' : Env) (h' : AH) : Prop :=
  e'.length = 141 ∧ h' = h9 ∧
    (v = e'.getD 0 .undef ∧ e'.getD 1 .undef = .int .i64 N ∧ w = e'.getD 8 .undef ∧ v2 = e'.getD 46 .undef ∧ e'.getD 47 .undef = .int .i64 T.length ∧ e'.getD 48 .undef = .int .i64 i ∧ e'.getD 9 .undef = .int .i64 i ∧ e'.getD 11 .undef = .ptr (some (.new kc 0)) ∧ e'.getD 12 .undef = .bool b ∧ v2 = e'.getD 60 .undef ∧ e'.getD 61 .undef = .int .i64 T.length ∧ e'.getD 62 .undef = .int .i64 k ∧ e'.getD 14 .undef = .ptr (some (.new kt 0)))
def N3 (h4 : AH) (v v2 w rv : AV) (N : Nat) (T : List See) (X : List Ent) (i kc : Nat) (s : See) (k : Nat) (b : Bool) (R : List Rep) (n : Nat) (e' : Env) (h' : AH) : Prop :=
  e'.length = 141 ∧ Keeps h4 h' ∧ EosIs h4 h' w X ∧ kc < h'.next ∧ h'.get kc = some (.cells s.c.cells 69) ∧ ∃ j : Nat, j + n = R.length ∧
    (v = e'.getD 0 .undef ∧ e'.getD 1 .undef = .int .i64 N ∧ w = e'.getD 8 .undef ∧ v2 = e'.getD 46 .undef ∧ e'.getD 47 .undef = .int .i64 T.length ∧ e'.getD 48 .undef = .int .i64 i ∧ e'.getD 9 .undef = .int .i64 i ∧ e'.getD 11 .undef = .ptr (some (.new kc 0)) ∧ e'.getD 12 .undef = .bool (b && !(R.take j).any (repK (kOf s))) ∧ v2 = e'.getD 60 .undef ∧ e'.getD 61 .undef = .int .i64 T.length ∧ e'.getD 62 .undef = .int .i64 k ∧ rv = e'.getD 93 .undef ∧ e'.getD 94 .undef = .int .i64 R.length ∧ e'.getD 95 .undef = .int .i64 j)

set_option maxRecDepth 100000 in
set_option maxHeartbeats 32000000 in
theorem topen_ret (W : World) (v : AV) (l : List See) (n : Int) (hs : ∀ h0, SeeS W h0 v l) (hl : l.length ≤ 1048576) :
    ACall (CC W) 11 [v, .int .i64 n] AH.empty (fun w _ => w = .bool true) (fun _ _ => False) := by
  refine jj9 (cc_ok W) (fn11 W) (by simp only [Tryz.f11]; rfl) rfl rfl ?_
  simp [push_cast]
  refine jf9 (by simp [fn27]) (large_ret W AH.empty v l (hs _) hl) fun h1 hk1 => ?_
  by_cases hlg : 200 < l.length ∨ 1500 < totN l
  · have : (decide (200 < l.length) || decide (1500 < totN l)) = true := by simpa using hlg
    rw [this]
    simp [push_cast]
    refine jf9 (by simp [fn28]) (speaks26_ret W h1) fun h2 hk2 => ?_
    simp [push_cast]
  have hlg2 : (decide (200 < l.length) || decide (1500 < totN l)) = false := by
    rw [not_or] at hlg
    simp [hlg.1, hlg.2]
  rw [hlg2]
  rw [not_or] at hlg
  obtain ⟨hg1, hg2⟩ := hlg
  have hb : ∀ s ∈ l, s.reps.length ≤ 4096 ∧ s.h.length ≤ 4096 := fun s hx => by
    have := totN_mem hx
    omega
  have hln : ∀ h', aLen (CC W) h' 63 v = some (.int .i64 l.length) := fun h' => SeeS.len (hs h') h'
  simp [push_cast]
  refine jf9 (by simp [fn30]) (little26_ret W h1) fun h2 hk2 => ?_
  simp [push_cast]
  refine jf9 (by simp [fn29]) (check_ret W h2 40 20 8 16 v l (hs h2) shape26 (by omega) hb) fun h3 hk3 => ?_
  have hokA := checkR_ok l wp0 0 (sh := (40, 20, 8)) (cm := 16)
  obtain ⟨A, hA⟩ : ∃ A, A = (checkR (40, 20, 8) 16 wp0 l 0).1 := ⟨_, rfl⟩
  rw [← hA] at hokA ⊢
  by_cases ca : A = 0
  case neg =>
    have ca' : (A == 0) = false := by simpa using ca
    simp [push_cast, ca, ca']
    refine jf9 (by simp [fn28]) (speaks26_ret W h3) fun h4 hk4 => ?_
    simp [push_cast]
  have hok := hokA.1 ca
  simp [qa9, qb9, qc9, qd9, qe9, qf9, qg9, qh9, qi9, qk9, ql9, qm9, qn9, qo9, qp9, qq9, qr9, qs9, qt9, qu9, qv9, qw9, qx9, ev, qy9, qz9, za9, zb9, zc9, zd9, ze9, zf9, zg9, zh9, zi9, zj9, zk9, zl9, zm9, zn9, zo9, zp9, zq9, zr9, zs9, zt9, zu9, zv9, zw9, ca]
  simp [qj9, qd9, ev]
  rw [ql9, qa9]
  refine wc_cut (N0 h3 v l.length) ?_ ?_
  · by_cases c1 : n < 0
    · simp [push_cast, c1, hln]
      exact ⟨by simp, rfl, l.length, Nat.le_refl _, by simp⟩
    · by_cases c2 : (l.length : Int) < n
      · simp [push_cast, c1, c2, hln]
        exact ⟨by simp, rfl, l.length, Nat.le_refl _, by simp⟩
      · simp [push_cast, c1, c2, hln]
        exact ⟨by simp, rfl, n.toNat, by omega, by simp; omega⟩
  rintro e0 h4 ⟨hlen0, rfl, N, hN, hh⟩
  obtain ⟨a0, a1, a2, a3, a4, a5, a6, a7, a8, a9, rS0, rfl, hS0⟩ := un10 hlen0
  obtain ⟨a10, a11, a12, a13, a14, a15, a16, a17, a18, a19, rS10, rfl, hS10⟩ := un10 hS0
  obtain ⟨a20, a21, a22, a23, a24, a25, a26, a27, a28, a29, rS20, rfl, hS20⟩ := un10 hS10
  obtain ⟨a30, a31, a32, a33, a34, a35, a36, a37, a38, a39, rS30, rfl, hS30⟩ := un10 hS20
  obtain ⟨a40, a41, a42, a43, a44, a45, a46, a47, a48, a49, rS40, rfl, hS40⟩ := un10 hS30
  obtain ⟨a50, a51, a52, a53, a54, a55, a56, a57, a58, a59, rS50, rfl, hS50⟩ := un10 hS40
  obtain ⟨a60, a61, a62, a63, a64, a65, a66, a67, a68, a69, rS60, rfl, hS60⟩ := un10 hS50
  obtain ⟨a70, a71, a72, a73, a74, a75, a76, a77, a78, a79, rS70, rfl, hS70⟩ := un10 hS60
  obtain ⟨a80, a81, a82, a83, a84, a85, a86, a87, a88, a89, rS80, rfl, hS80⟩ := un10 hS70
  obtain ⟨a90, a91, a92, a93, a94, a95, a96, a97, a98, a99, rS90, rfl, hS90⟩ := un10 hS80
  obtain ⟨a100, a101, a102, a103, a104, a105, a106, a107, a108, a109, rS100, rfl, hS100⟩ := un10 hS90
  obtain ⟨a110, a111, a112, a113, a114, a115, a116, a117, a118, a119, rS110, rfl, hS110⟩ := un10 hS100
  obtain ⟨a120, a121, a122, a123, a124, a125, a126, a127, a128, a129, rS120, rfl, hS120⟩ := un10 hS110
  obtain ⟨a130, a131, a132, a133, a134, a135, a136, a137, a138, a139, rS130, rfl, hS130⟩ := un10 hS120
  obtain ⟨a140, rS140, rfl, hS140⟩ := un1 hS130
  obtain rfl := un0 hS140
  clear hlen0 hS0 hS10 hS20 hS30 hS40 hS50 hS60 hS70 hS80 hS90 hS100 hS110 hS120 hS130 hS140
  simp at hh
  obtain ⟨b0, rfl⟩ := hh
  subst b0
  obtain ⟨v2, hsl, hs2⟩ := BSl.take (hs h4) (kind63 W) (size73 W) hN
  obtain ⟨T, hT⟩ : ∃ T, T = l.take N := ⟨_, rfl⟩
  rw [← hT] at hs2
  have hokT : okAll (40, 20, 8) 16 wp0 T := by rw [hT]; exact okAll_take hok N
  have hTl : T.length ≤ 200 := by rw [hT]; simp; omega
  have hbT : ∀ s ∈ T, s.reps.length ≤ 4096 := fun s hx => (hb s (by rw [hT] at hx; exact List.mem_of_mem_take hx)).1
  have hl2 : ∀ h', aLen (CC W) h' 63 v2 = some (.int .i64 T.length) := fun h' => SeeS.len hs2 h'
  clear hA hokA ca
  simp [push_cast, hsl, hl2]
  refine hideL fun Q1 K1 hQ1 hK1 => ?_
  refine loopN (cc_ok W) (N1 h4 v v2 N T) T.length ⟨by simp, Keeps.refl _, 0, [], .sl none 0 0 none, by simp, .inl ⟨rfl, rfl⟩, by simp, by simp⟩ ?_
  rintro n1 e1 h5 ⟨hlen1, hk5, i, X, w, him, heo, hX, hh⟩
  obtain ⟨a0, a1, a2, a3, a4, a5, a6, a7, a8, a9, rS0, rfl, hS0⟩ := un10 hlen1
  obtain ⟨a10, a11, a12, a13, a14, a15, a16, a17, a18, a19, rS10, rfl, hS10⟩ := un10 hS0
  obtain ⟨a20, a21, a22, a23, a24, a25, a26, a27, a28, a29, rS20, rfl, hS20⟩ := un10 hS10
  obtain ⟨a30, a31, a32, a33, a34, a35, a36, a37, a38, a39, rS30, rfl, hS30⟩ := un10 hS20
  obtain ⟨a40, a41, a42, a43, a44, a45, a46, a47, a48, a49, rS40, rfl, hS40⟩ := un10 hS30
  obtain ⟨a50, a51, a52, a53, a54, a55, a56, a57, a58, a59, rS50, rfl, hS50⟩ := un10 hS40
  obtain ⟨a60, a61, a62, a63, a64, a65, a66, a67, a68, a69, rS60, rfl, hS60⟩ := un10 hS50
  obtain ⟨a70, a71, a72, a73, a74, a75, a76, a77, a78, a79, rS70, rfl, hS70⟩ := un10 hS60
  obtain ⟨a80, a81, a82, a83, a84, a85, a86, a87, a88, a89, rS80, rfl, hS80⟩ := un10 hS70
  obtain ⟨a90, a91, a92, a93, a94, a95, a96, a97, a98, a99, rS90, rfl, hS90⟩ := un10 hS80
  obtain ⟨a100, a101, a102, a103, a104, a105, a106, a107, a108, a109, rS100, rfl, hS100⟩ := un10 hS90
  obtain ⟨a110, a111, a112, a113, a114, a115, a116, a117, a118, a119, rS110, rfl, hS110⟩ := un10 hS100
  obtain ⟨a120, a121, a122, a123, a124, a125, a126, a127, a128, a129, rS120, rfl, hS120⟩ := un10 hS110
  obtain ⟨a130, a131, a132, a133, a134, a135, a136, a137, a138, a139, rS130, rfl, hS130⟩ := un10 hS120
  obtain ⟨a140, rS140, rfl, hS140⟩ := un1 hS130
  obtain rfl := un0 hS140
  clear hlen1 hS0 hS10 hS20 hS30 hS40 hS50 hS60 hS70 hS80 hS90 hS100 hS110 hS120 hS130 hS140
  simp at hh
  obtain ⟨b0, rfl, b8, b46, rfl, rfl⟩ := hh
  subst b0 b8 b46
  have hXl : X.length ≤ 200 := by
    have h1 := congrArg List.length hX
    rw [List.length_append] at h1
    have := want_len T T 0
    omega
  by_cases hlt : i < T.length
  case neg =>
    have hlt' : ¬ (i : Int) < (T.length : Int) := by omega
    subst hQ1 hK1
    have hdr : T.drop i = [] := List.drop_of_length_le (by omega)
    rw [hdr] at hX
    simp only [wantF, List.append_nil] at hX
    have hop := open_ret W h5 v2 T (SeeS.mono hs2 hk5) (by omega)
    rw [open_law hokT] at hop
    simp [push_cast, hlt, hlt']
    have hwl := want_len T T 0
    simp [push_cast, hsl]
    refine je9 (by simp [fn33]) hop fun w2 h6 ⟨hk6, heo6⟩ => ?_
    have heoX := heo.keep hk6
    rw [hX] at heoX
    simp [push_cast]
    refine je9 (by simp [fn32]) (ents_ret W _ (.inr rfl) h6 w2 w _ _ heo6.at heoX.at heo6.len heoX.len (by omega)) fun w3 h7 ⟨hw3, hh7⟩ => ?_
    subst hw3
    subst hh7
    simp [push_cast]
    refine jf9 (by simp [fn28]) (speaks26_ret W h7) fun h8 hk8 => ?_
    simp [push_cast]
  have hlt' : (i : Int) < (T.length : Int) := by omega
  have wi : IntKind.i64.wrap ((i : Int) + 1) = (i : Int) + 1 := wrap64 (by omega) (by omega)
  obtain ⟨s, hy⟩ : ∃ s, T[i]? = some s := ⟨T[i], by simp [hlt]⟩
  have hdr : T.drop i = s :: T.drop (i + 1) := by
    rw [List.drop_eq_getElem_cons hlt, (List.getElem?_eq_some_iff.1 hy).2]
  rw [hdr] at hX
  simp only [wantF] at hX
  obtain ⟨a, u, hix, hP, hld⟩ := SeeS.at hs2 hy
  have hld := hld h5 hk5
  obtain ⟨rv, hv, hp, h6, rfl, hr, he, hal, hst, hk6, hn6, hg6⟩ := see_box (h := h5) hP
  have hlc := ld_seeC (W := W) hg6
  obtain ⟨hp2, h7, hal7, hst7, hk7, hn7, hg7⟩ := cho_box (W := W) h6 s.c
  have hk67 := hk6.trans hk7
  have heo7 := heo.keep hk67
  have hnotk : ∀ k' n c g, w = .sl (some (.new k' 0)) n c g → h6.next ≠ k' := fun k' n c g e => by
    rcases heo with ⟨_, e2⟩ | ⟨k2, _, b, _, _, e2⟩
    · rw [e2] at e; cases e
    · rw [e2] at e
      have := hk6.1
      simp only [AV.sl.injEq, Option.some.injEq, AA.new.injEq] at e
      omega
  have hk57 := hk5.trans hk67
  obtain ⟨cc, hcc⟩ : ∃ cc, cc = s.c.cells := ⟨_, rfl⟩
  rw [← hcc] at hld hst hlc hst7
  have hg7' := hg7
  simp only [Cho.cells, Opn.cells] at hg7'
  generalize h6.next = kc at hal7 hst7 hn7 hg7 hg7' hnotk
  by_cases ck : s.c.kind = 1
  case neg =>
    have ck' : (s.c.kind != 1) = true := by simpa using ck
    have hw0 : wantO T i s = false := by simp [wantO, ck]
    rw [hw0] at hX
    simp [push_cast, hlt, hlt', hix, hld, hal, hst, fa73_0, hlc, hal7, hst7, fa69_0, ld3, ji9 hg7', ck', wi]
    exact ⟨n1 - 1, by omega, by simp, hk57, i + 1, X, _, by omega, heo7, by simpa using hX, by simp⟩
  have ck' : (s.c.kind != 1) = false := by simpa using ck
  have hb0 : opnB T i s 0 = true := by simp [opnB]
  simp [push_cast, hlt, hlt', hix, hld, hal, hst, fa73_0, hlc, hal7, hst7, fa69_0, ld3, ji9 hg7', ck', hsl, hl2]
  refine hideL fun Q2 K2 hQ2 hK2 => ?_
  refine loopN (cc_ok W) (N2 h4 v v2 w N T X i kc s) T.length ⟨by simp, hk57, heo7, hn7, hg7, 0, by simp, by simp [hb0]⟩ ?_
  clear hal hst hix hld hlc hal7 hst7 hcc cc
  rintro n2 e2 h8 ⟨hlen2, hk8, heo8, hn8, hg8, k, hkm, hh⟩
  obtain ⟨a0, a1, a2, a3, a4, a5, a6, a7, a8, a9, rS0, rfl, hS0⟩ := un10 hlen2
  obtain ⟨a10, a11, a12, a13, a14, a15, a16, a17, a18, a19, rS10, rfl, hS10⟩ := un10 hS0
  obtain ⟨a20, a21, a22, a23, a24, a25, a26, a27, a28, a29, rS20, rfl, hS20⟩ := un10 hS10
  obtain ⟨a30, a31, a32, a33, a34, a35, a36, a37, a38, a39, rS30, rfl, hS30⟩ := un10 hS20
  obtain ⟨a40, a41, a42, a43, a44, a45, a46, a47, a48, a49, rS40, rfl, hS40⟩ := un10 hS30
  obtain ⟨a50, a51, a52, a53, a54, a55, a56, a57, a58, a59, rS50, rfl, hS50⟩ := un10 hS40
  obtain ⟨a60, a61, a62, a63, a64, a65, a66, a67, a68, a69, rS60, rfl, hS60⟩ := un10 hS50
  obtain ⟨a70, a71, a72, a73, a74, a75, a76, a77, a78, a79, rS70, rfl, hS70⟩ := un10 hS60
  obtain ⟨a80, a81, a82, a83, a84, a85, a86, a87, a88, a89, rS80, rfl, hS80⟩ := un10 hS70
  obtain ⟨a90, a91, a92, a93, a94, a95, a96, a97, a98, a99, rS90, rfl, hS90⟩ := un10 hS80
  obtain ⟨a100, a101, a102, a103, a104, a105, a106, a107, a108, a109, rS100, rfl, hS100⟩ := un10 hS90
  obtain ⟨a110, a111, a112, a113, a114, a115, a116, a117, a118, a119, rS110, rfl, hS110⟩ := un10 hS100
  obtain ⟨a120, a121, a122, a123, a124, a125, a126, a127, a128, a129, rS120, rfl, hS120⟩ := un10 hS110
  obtain ⟨a130, a131, a132, a133, a134, a135, a136, a137, a138, a139, rS130, rfl, hS130⟩ := un10 hS120
  obtain ⟨a140, rS140, rfl, hS140⟩ := un1 hS130
  obtain rfl := un0 hS140
  clear hlen2 hS0 hS10 hS20 hS30 hS40 hS50 hS60 hS70 hS80 hS90 hS100 hS110 hS120 hS130 hS140
  simp at hh
  obtain ⟨b0, rfl, b8, b46, rfl, rfl, rfl, rfl, rfl, b60, rfl, rfl⟩ := hh
  subst b0 b8 b46 b60
  have hg8' := hg8
  simp only [Cho.cells, Opn.cells] at hg8'
  by_cases hkl : k < T.length
  case neg =>
    have hkl' : ¬ (k : Int) < (T.length : Int) := by omega
    have hke : k = T.length := by omega
    subst hQ2 hK2
    rw [hke, op_end (by omega) ck]
    cases hwO : wantO T i s with
    | false =>
      rw [hwO] at hX
      simp [push_cast, hkl, hkl', wi]
      exact ⟨n1 - 1, by omega, by simp, hk8, i + 1, X, w, by omega, heo8, by simpa using hX, by simp⟩
    | true =>
      rw [hwO] at hX
      have hkp := Keeps.push h8 (.cells (entW s).cells 78)
      obtain ⟨w2, h9, hap, heo9, hk9, hn9, hoff9⟩ := heo8.app (W := W) (x := entW s) hk8 (by omega)
      have hgP := (hkp.2 kc hn8).trans hg8
      have hg9 := (hoff9 kc hn8 hnotk).trans hg8
      have hl8 := ld_choop (W := W) hg8
      have hlP := ld_choop (W := W) hgP
      have hl9 := ld_choop (W := W) hg9
      have hgP' := hgP
      have hg9' := hg9
      simp only [Cho.cells, Opn.cells] at hgP' hg9'
      have hbe := build_ent (W := W) (a := s.c.client) (b := s.c.req) (op := s.c.op)
      have hbs := buildS_ent (W := W) (h := h8) (e := entW s)
      have hew : (⟨0, s.c.client, s.c.req, s.c.op⟩ : Ent) = entW s := rfl
      rw [hew] at hbe
      obtain ⟨ec, hec⟩ : ∃ ec, ec = (entW s).cells := ⟨_, rfl⟩
      obtain ⟨oc, hoc⟩ : ∃ oc, oc = s.c.op.cells := ⟨_, rfl⟩
      rw [← hec] at hkp hap hbe hbs hgP' hlP
      rw [← hoc] at hl8 hlP hl9 hbe
      generalize hPP : h8.push (.cells ec 78) = hP8 at hkp hap hbs hgP' hlP
      simp [push_cast, hkl, hkl', fa69_4, fa69_5, fa69_6, ld3, ji9 hg8', hl8, hbe, hbs, hap, wi]
      exact ⟨n1 - 1, by omega, by simp, hk9, i + 1, X ++ [entW s], w2, by omega, heo9, by simpa using hX, by simp⟩
  have hkl' : (k : Int) < (T.length : Int) := by omega
  have wk : IntKind.i64.wrap ((k : Int) + 1) = (k : Int) + 1 := wrap64 (by omega) (by omega)
  obtain ⟨t, hyt⟩ : ∃ t, T[k]? = some t := ⟨T[k], by simp [hkl]⟩
  have hnx := op_next (i := i) (s := s) hyt
  have htr := hbT t (List.mem_of_getElem? hyt)
  obtain ⟨a, u, hixt, hPt, hldt⟩ := SeeS.at hs2 hyt
  have hldt := hldt h8 hk8
  obtain ⟨rt, hvt, hp, h9, rfl, hrt, _, hal, hst, hk9, hn9, hg9⟩ := see_box (h := h8) hPt
  have hgc9 := (hk9.2 kc hn8).trans hg8
  have hgc9' := hgc9
  simp only [Cho.cells, Opn.cells] at hgc9'
  have hg9' := hg9
  simp only [Cho.cells, Opn.cells, List.cons_append, List.nil_append] at hg9' hst hldt
  have hlrt : ∀ h', aLen (CC W) h' 70 rt = some (.int .i64 t.reps.length) := fun h' => hrt.len h'
  have hnc9 : kc < h9.next := Nat.lt_of_lt_of_le hn8 hk9.1
  have heo9 := heo8.keep hk9
  have hk49 := hk8.trans hk9
  generalize h8.next = kt at hal hst hn9 hg9 hg9'
  obtain ⟨B, hB⟩ : ∃ B, B = opnB T i s k := ⟨_, rfl⟩
  rw [← hB] at hnx
  rw [← hB]
  rw [qa9]
  simp [qb9, qc9, qd9, qe9, qf9, qg9, qh9, qi9, qj9, qk9, ql9, qm9, qn9, qo9, qp9, qq9, qr9, qs9, qt9, qu9, qv9, qw9, qx9, ev, qy9, qz9, za9, zb9, zc9, zd9, ze9, zf9, zg9, zh9, zi9, zj9, zk9, zl9, zm9, zn9, zo9, zp9, zq9, zr9, zs9, zt9, zu9, zv9, zw9, hkl, hkl']
  rw [qa9]
  simp [qb9, qc9, qd9, qe9, qf9, qg9, qh9, qi9, qj9, qk9, ql9, qm9, qn9, qo9, qp9, qq9, qr9, qs9, qt9, qu9, qv9, qw9, qx9, ev, qy9, qz9, za9, zb9, zc9, zd9, ze9, zf9, zg9, zh9, zi9, zj9, zk9, zl9, zm9, zn9, zo9, zp9, zq9, zr9, zs9, zt9, zu9, zv9, zw9, hkl, hkl']
  rw [qa9]
  simp [qb9, qc9, qd9, qe9, qf9, qg9, qh9, qi9, qj9, qk9, ql9, qm9, qn9, qo9, qp9, qq9, qr9, qs9, qt9, qu9, qv9, qw9, qx9, ev, qy9, qz9, za9, zb9, zc9, zd9, ze9, zf9, zg9, zh9, zi9, zj9, zk9, zl9, zm9, zn9, zo9, zp9, zq9, zr9, zs9, zt9, zu9, zv9, zw9]
  rw [qa9]
  simp [qb9, qc9, qd9, qe9, qf9, qg9, qh9, qi9, qj9, qk9, ql9, qm9, qn9, qo9, qp9, qq9, qr9, qs9, qt9, qu9, qv9, qw9, qx9, ev, qy9, qz9, za9, zb9, zc9, zd9, ze9, zf9, zg9, zh9, zi9, zj9, zk9, zl9, zm9, zn9, zo9, zp9, zq9, zr9, zs9, zt9, zu9, zv9, zw9, hixt, hldt, hal, hst]
  rw [qa9]
  obtain ⟨B2, hB2⟩ : ∃ B2, B2 = (B && !(decide (k < i) && isC (kOf s) t)) := ⟨_, rfl⟩
  rw [← hB2] at hnx
  refine wc_cut (N2c h9 v v2 w N T i kc kt k B2) ?_ ?_
  · by_cases d1 : k < i
    case neg =>
      have d1' : ¬ (k : Int) < (i : Int) := by omega
      simp [push_cast, d1, d1']
      exact ⟨by simp, rfl, by simp [hB2, d1]⟩
    have d1' : (k : Int) < (i : Int) := by omega
    by_cases d2 : t.c.kind = 1
    case neg =>
      have d2' : (t.c.kind == 1) = false := by simpa using d2
      simp [push_cast, d1, d1', fa73_0, fa69_0, ld3, ji9 hg9', d2']
      exact ⟨by simp, rfl, by simp [hB2, d1, isC, d2]⟩
    have d2' : (t.c.kind == 1) = true := by simpa using d2
    by_cases d3 : t.c.client = s.c.client
    case neg =>
      have d3' : (t.c.client == s.c.client) = false := by simpa using d3
      have d3k : ¬ kOf t = kOf s := fun hc => d3 (congrArg Prod.fst hc)
      simp [push_cast, d1, d1', fa73_0, fa69_0, fa69_4, ld3, ji9 hg9', ji9 hgc9', d2', d3']
      exact ⟨by simp, rfl, by simp [hB2, d1, isC, d3k]⟩
    have d3' : (t.c.client == s.c.client) = true := by simpa using d3
    by_cases d4 : t.c.req = s.c.req
    case neg =>
      have d4' : (t.c.req == s.c.req) = false := by simpa using d4
      have d4k : ¬ kOf t = kOf s := fun hc => d4 (congrArg Prod.snd hc)
      simp [push_cast, d1, d1', fa73_0, fa69_0, fa69_4, fa69_5, ld3, ji9 hg9', ji9 hgc9', d2', d3', d4']
      exact ⟨by simp, rfl, by simp [hB2, d1, isC, d4k]⟩
    have d4' : (t.c.req == s.c.req) = true := by simpa using d4
    have dk : kOf t = kOf s := by simp [kOf, d3, d4]
    simp [push_cast, d1, d1', fa73_0, fa69_0, fa69_4, fa69_5, ld3, ji9 hg9', ji9 hgc9', d2', d3', d4']
    exact ⟨by simp, rfl, by simp [hB2, d1, isC, dk, d2]⟩
  clear hal hst hixt hldt
  rintro e3 hq ⟨hlen3, rfl, hh⟩
  obtain ⟨a0, a1, a2, a3, a4, a5, a6, a7, a8, a9, rS0, rfl, hS0⟩ := un10 hlen3
  obtain ⟨a10, a11, a12, a13, a14, a15, a16, a17, a18, a19, rS10, rfl, hS10⟩ := un10 hS0
  obtain ⟨a20, a21, a22, a23, a24, a25, a26, a27, a28, a29, rS20, rfl, hS20⟩ := un10 hS10
  obtain ⟨a30, a31, a32, a33, a34, a35, a36, a37, a38, a39, rS30, rfl, hS30⟩ := un10 hS20
  obtain ⟨a40, a41, a42, a43, a44, a45, a46, a47, a48, a49, rS40, rfl, hS40⟩ := un10 hS30
  obtain ⟨a50, a51, a52, a53, a54, a55, a56, a57, a58, a59, rS50, rfl, hS50⟩ := un10 hS40
  obtain ⟨a60, a61, a62, a63, a64, a65, a66, a67, a68, a69, rS60, rfl, hS60⟩ := un10 hS50
  obtain ⟨a70, a71, a72, a73, a74, a75, a76, a77, a78, a79, rS70, rfl, hS70⟩ := un10 hS60
  obtain ⟨a80, a81, a82, a83, a84, a85, a86, a87, a88, a89, rS80, rfl, hS80⟩ := un10 hS70
  obtain ⟨a90, a91, a92, a93, a94, a95, a96, a97, a98, a99, rS90, rfl, hS90⟩ := un10 hS80
  obtain ⟨a100, a101, a102, a103, a104, a105, a106, a107, a108, a109, rS100, rfl, hS100⟩ := un10 hS90
  obtain ⟨a110, a111, a112, a113, a114, a115, a116, a117, a118, a119, rS110, rfl, hS110⟩ := un10 hS100
  obtain ⟨a120, a121, a122, a123, a124, a125, a126, a127, a128, a129, rS120, rfl, hS120⟩ := un10 hS110
  obtain ⟨a130, a131, a132, a133, a134, a135, a136, a137, a138, a139, rS130, rfl, hS130⟩ := un10 hS120
  obtain ⟨a140, rS140, rfl, hS140⟩ := un1 hS130
  obtain rfl := un0 hS140
  clear hlen3 hS0 hS10 hS20 hS30 hS40 hS50 hS60 hS70 hS80 hS90 hS100 hS110 hS120 hS130 hS140
  simp at hh
  obtain ⟨b0, rfl, b8, b46, rfl, rfl, rfl, rfl, rfl, b60, rfl, rfl, rfl⟩ := hh
  subst b0 b8 b46 b60
  have hrd : ∀ R : List Rep, R = t.reps → repd (kOf s) t = R.any (repK (kOf s)) := fun R hR => by rw [hR]; rfl
  simp [push_cast, fa73_1, ld70, ji9 hg9', hlrt]
  refine hideL fun Q3 K3 hQ3 hK3 => ?_
  refine loopN (cc_ok W) (N3 h4 v v2 w rt N T X i kc s k B2 t.reps) t.reps.length ⟨by simp, hk49, heo9, hnc9, hgc9, 0, by simp, by simp⟩ ?_
  rintro n4 e4 hA ⟨hlen4, hkA, heoA, hnA, hgA, j, hjm, hh⟩
  obtain ⟨a0, a1, a2, a3, a4, a5, a6, a7, a8, a9, rS0, rfl, hS0⟩ := un10 hlen4
  obtain ⟨a10, a11, a12, a13, a14, a15, a16, a17, a18, a19, rS10, rfl, hS10⟩ := un10 hS0
  obtain ⟨a20, a21, a22, a23, a24, a25, a26, a27, a28, a29, rS20, rfl, hS20⟩ := un10 hS10
  obtain ⟨a30, a31, a32, a33, a34, a35, a36, a37, a38, a39, rS30, rfl, hS30⟩ := un10 hS20
  obtain ⟨a40, a41, a42, a43, a44, a45, a46, a47, a48, a49, rS40, rfl, hS40⟩ := un10 hS30
  obtain ⟨a50, a51, a52, a53, a54, a55, a56, a57, a58, a59, rS50, rfl, hS50⟩ := un10 hS40
  obtain ⟨a60, a61, a62, a63, a64, a65, a66, a67, a68, a69, rS60, rfl, hS60⟩ := un10 hS50
  obtain ⟨a70, a71, a72, a73, a74, a75, a76, a77, a78, a79, rS70, rfl, hS70⟩ := un10 hS60
  obtain ⟨a80, a81, a82, a83, a84, a85, a86, a87, a88, a89, rS80, rfl, hS80⟩ := un10 hS70
  obtain ⟨a90, a91, a92, a93, a94, a95, a96, a97, a98, a99, rS90, rfl, hS90⟩ := un10 hS80
  obtain ⟨a100, a101, a102, a103, a104, a105, a106, a107, a108, a109, rS100, rfl, hS100⟩ := un10 hS90
  obtain ⟨a110, a111, a112, a113, a114, a115, a116, a117, a118, a119, rS110, rfl, hS110⟩ := un10 hS100
  obtain ⟨a120, a121, a122, a123, a124, a125, a126, a127, a128, a129, rS120, rfl, hS120⟩ := un10 hS110
  obtain ⟨a130, a131, a132, a133, a134, a135, a136, a137, a138, a139, rS130, rfl, hS130⟩ := un10 hS120
  obtain ⟨a140, rS140, rfl, hS140⟩ := un1 hS130
  obtain rfl := un0 hS140
  clear hlen4 hS0 hS10 hS20 hS30 hS40 hS50 hS60 hS70 hS80 hS90 hS100 hS110 hS120 hS130 hS140
  simp at hh
  obtain ⟨b0, rfl, b8, b46, rfl, rfl, rfl, rfl, rfl, b60, rfl, rfl, b93, rfl, rfl⟩ := hh
  subst b0 b8 b46 b60 b93
  have hgA' := hgA
  simp only [Cho.cells, Opn.cells] at hgA'
  by_cases hjl : j < t.reps.length
  case neg =>
    have hjl' : ¬ (j : Int) < (t.reps.length : Int) := by omega
    have htk : t.reps.take j = t.reps := List.take_of_length_le (by omega)
    have hrd0 : repd (kOf s) t = t.reps.any (repK (kOf s)) := rfl
    rw [htk, ← hrd0, ← hnx]
    subst hQ3 hK3
    simp [push_cast, hjl, hjl', wk]
    exact ⟨n2 - 1, by omega, by simp, hkA, heoA, hnA, hgA, k + 1, by omega, by simp⟩
  have hjl' : (j : Int) < (t.reps.length : Int) := by omega
  have wj : IntKind.i64.wrap ((j : Int) + 1) = (j : Int) + 1 := wrap64 (by omega) (by omega)
  obtain ⟨r, hyr⟩ : ∃ r, t.reps[j]? = some r := ⟨t.reps[j], by simp [hjl]⟩
  have htk : (B2 && !(t.reps.take (j + 1)).any (repK (kOf s))) = ((B2 && !(t.reps.take j).any (repK (kOf s))) && !repK (kOf s) r) := by
    rw [List.take_add_one, hyr, List.any_append]
    simp [Bool.and_assoc]
  obtain ⟨a, u, hixr, hPr, hldr⟩ := hrt.at hyr
  have hldr := hldr hA hkA
  obtain ⟨nv, hp, hD, rfl, hnr, hal, hst, hkD, hnD, hgD⟩ := rep_box (h := hA) hPr hkA
  have hldD := ld_rep (W := W) hgD
  have hgcD := (hkD.2 kc hnA).trans hgA
  have hgcD' := hgcD
  simp only [Cho.cells, Opn.cells] at hgcD'
  have hncD : kc < hD.next := Nat.lt_of_lt_of_le hnA hkD.1
  have heoD := heoA.keep hkD
  have hkD0 := hkA.trans hkD
  generalize hA.next = kr at hal hst hnD hgD hldD
  have hgD' := hgD
  simp only [Rep.cells] at hgD' hst hldr
  cases hBv : (B2 && !(t.reps.take j).any (repK (kOf s))) with
  | false =>
    rw [hBv] at htk
    simp [push_cast, hjl, hjl', hixr, hldr, hal, hst, wj]
    exact ⟨n4 - 1, by omega, by simp, hkD0, heoD, hncD, hgcD, j + 1, by omega, by simp [htk]⟩
  | true =>
  rw [hBv, Bool.true_and] at htk
  by_cases d1 : r.client = s.c.client
  case neg =>
    have d1' : (r.client != s.c.client) = true := by simpa using d1
    have hrk : repK (kOf s) r = false := by
      have : ¬ (r.client, r.req) = kOf s := fun hc => d1 (congrArg Prod.fst hc)
      simp [repK, this]
    rw [hrk] at htk
    simp [push_cast, hjl, hjl', hixr, hldr, hal, hst, fa75_1, fa69_4, ld3, ji9 hgD', ji9 hgcD', d1', wj]
    exact ⟨n4 - 1, by omega, by simp, hkD0, heoD, hncD, hgcD, j + 1, by omega, by simp [htk]⟩
  have d1' : (r.client != s.c.client) = false := by simpa using d1
  by_cases d2 : r.req = s.c.req
  case neg =>
    have d2' : (r.req != s.c.req) = true := by simpa using d2
    have hrk : repK (kOf s) r = false := by
      have : ¬ (r.client, r.req) = kOf s := fun hc => d2 (congrArg Prod.snd hc)
      simp [repK, this]
    rw [hrk] at htk
    simp [push_cast, hjl, hjl', hixr, hldr, hal, hst, fa75_1, fa75_2, fa69_4, fa69_5, ld3, ji9 hgD', ji9 hgcD', d1', d2', wj]
    exact ⟨n4 - 1, by omega, by simp, hkD0, heoD, hncD, hgcD, j + 1, by omega, by simp [htk]⟩
  have d2' : (r.req != s.c.req) = false := by simpa using d2
  have hrk : repK (kOf s) r = !refB r := by
    have : (r.client, r.req) = kOf s := by simp [kOf, d1, d2]
    simp [repK, this]
  rw [hrk, Bool.not_not] at htk
  simp [push_cast, hjl, hjl', hixr, hldr, hal, hst, fa75_1, fa75_2, fa69_4, fa69_5, ld3, ji9 hgD', ji9 hgcD', d1', d2', hldD]
  refine jf9 (by simp [fn31]) (refusal26_ret W hD r nv) fun hE hkE => ?_
  simp [push_cast, wj]
  exact ⟨n4 - 1, by omega, by simp, hkD0.trans hkE, heoD.keep hkE, Nat.lt_of_lt_of_le hncD hkE.1, (hkE.2 kc hncD).trans hgcD, j + 1, by omega, by simp [htk]⟩
theorem topen_law (W : World) (av : AV) {n : Nat} (hn : n ≤ 1048576) (h : n < 1000000000 → ∃ l : List See, (∀ h0, SeeS W h0 av l) ∧ l.length ≤ n) (k : Int) :
    ACall (CC W) 11 [av, .int .i64 k] AH.empty (fun w _ => w = .bool true) (fun _ _ => False) := by
  obtain ⟨l, hv, hl⟩ := h (by omega)
  exact topen_ret W av l k hv (by omega)
end Go.Proofs.YtbofhlifobjolaaGreatDoor.Ax
end
