/- The texts TraceLo, as one. -/
import Derived.Test.YtbofhlifobjolaaGreatDoorGtc

/-! TraceOnce: the walk -/
section
set_option linter.unusedVariables false
set_option linter.unusedSimpArgs false
namespace Go.Proofs.YtbofhlifobjolaaGreatDoor.Ax
open Go.RowKit

theorem mapM_at {α β : Type} {f : α → Option β} : ∀ {l : List α} {cs : List β}, l.mapM f = some cs → ∀ (i : Nat) x, l[i]? = some x → f x = cs[i]?
  | [], cs, h, i, x, hx => by simp at hx
  | a :: l, cs, h, i, x, hx => by
    rw [List.mapM_cons] at h
    cases ha : f a with
    | none => rw [ha] at h; cases h
    | some y =>
      rw [ha] at h
      cases hm : l.mapM f with
      | none => rw [hm] at h; cases h
      | some ys =>
        rw [hm] at h
        cases h
        cases i with
        | zero => simp at hx; subst hx; simpa using ha
        | succ i => simpa using mapM_at hm i x (by simpa using hx)
theorem aCells_at {C : Cx} {h : AH} {a : AA} {n : Nat} {cs : List AV} (hc : aCells C h a n = some cs) {i : Nat} (hi : i < n) : aCell C h (a.add i) = cs[i]? := by
  cases a with
  | base b o =>
    simp only [aCells] at hc
    exact mapM_at hc i i (by simp [hi])
  | new k o =>
    simp only [aCells] at hc
    split at hc
    · rename_i cells t hg
      split at hc
      · cases hc
        simp only [AA.add, aCell, hg]
        rw [List.getElem?_take, if_pos hi, List.getElem?_drop]
      · cases hc
    · cases hc
/-- The history of a step, out of its cells. -/
theorem see_hist {W : World} {h : AH} {a : AA} {c : Cho} {rv hv : AV} (hld : aLoad (CC W) h 73 a = some (.agg (c.cells ++ [rv, hv]))) : aFieldAddr (CC W) 73 (.ptr (some a)) 2 = some (.ptr (some (a.add 13))) ∧ aLoad (CC W) h 71 (a.add 13) = some hv := by
  refine ⟨by simp only [aFieldAddr, aOff, kind73]; rfl, ?_⟩
  unfold aLoad at hld
  rw [ty73] at hld
  have hld2 : (aCells (CC W) h a 14).map AV.agg = some (.agg (c.cells ++ [rv, hv])) := hld
  cases hc : aCells (CC W) h a 14 with
  | none => rw [hc] at hld2; cases hld2
  | some cs =>
    rw [hc] at hld2
    have e : cs = c.cells ++ [rv, hv] := by simpa using hld2
    rw [ld71, aCells_at hc (by omega), e]
    rfl
theorem BSl.drop {α : Type} {W : World} {h0 : AH} {T E : TypeId} {sz : Nat} {P : AH → α → AV → Prop} {v : AV} {l : List α} (h : BSl W h0 E sz P v l) (hk : (CC W).kind T = .slice E) (hs : (CC W).size E = some sz) {k : Nat} (hkl : k ≤ l.length) :
    ∃ v', aSlice (CC W) T v (some (.int .i64 (k : Int))) none none = some v' ∧ BSl W h0 E sz P v' (l.drop k) := by
  rcases h with ⟨rfl, rfl⟩ | ⟨a, c, hc, rfl, h⟩
  · obtain rfl : k = 0 := by simpa using hkl
    refine ⟨.sl none 0 0 none, ?_, .inl ⟨rfl, rfl⟩⟩
    have := aBounds_lo (len := 0) (cap := 0) (n := 0) (Nat.le_refl _)
    simp only [aSlice, hk, hs, this, Option.map]
  · have hl : (l.drop k).length = l.length - k := by simp
    refine ⟨.sl (some (if c = k then a else a.add (k * sz))) (l.length - k) (c - k) none, ?_, .inr ⟨_, c - k, by omega, by rw [hl], fun i x hx => ?_⟩⟩
    · simp only [aSlice, hk, hs, aBounds_lo (cap := c) hkl, Option.map]
      simp
    · rw [List.getElem?_drop] at hx
      have hi := (List.getElem?_eq_some_iff.1 hx).1
      rw [if_neg (by omega)]
      have e : (a.add (k * sz)).add (i * sz) = a.add ((k + i) * sz) := by
        cases a <;> simp only [AA.add, Nat.add_mul] <;> congr 1 <;> omega
      rw [e]
      exact h (k + i) x hx
theorem count_uniq {α : Type} {f : α → Bool} : ∀ {l : List α} {p : Nat} {x : α}, l[p]? = some x → f x = true → (∀ (q : Nat) y, l[q]? = some y → f y = true → q = p) → l.countP f = 1
  | [], p, x, h, _, _ => by simp at h
  | a :: l, 0, x, h, hf, hu => by
    have : a = x := by simpa using h
    subst this
    have hz : l.countP f = 0 := by
      rw [List.countP_eq_zero]
      intro y hy
      obtain ⟨q, hq⟩ := List.getElem?_of_mem hy
      intro hfy
      have := hu (q + 1) y (by simpa using hq) hfy
      omega
    rw [List.countP_cons_of_pos hf, hz]
  | a :: l, p + 1, x, h, hf, hu => by
    have hn : ¬ f a = true := fun hfa => by
      have := hu 0 a (by simp) hfa
      omega
    rw [List.countP_cons_of_neg hn]
    exact count_uniq (by simpa using h) hf fun q y hq hfy => by
      have := hu (q + 1) y (by simpa using hq) hfy
      omega
theorem hideL {C : Cx} {Q : Post} {b : Code} {ks : List Fr} {e : Env} {h : AH} (w : ∀ Q' K, Q' = Q → K = ks → LoopK C Q' b K e h) : LoopK C Q b ks e h := w Q ks rfl rfl
def keyB (r : Rep) (e : Ent) : Bool := decide (e.client = r.client) && decide (e.req = r.req)
theorem keyB_iff {r : Rep} {e : Ent} : keyB r e = true ↔ e.client = r.client ∧ e.req = r.req := by simp [keyB]

/-! the loops: of the steps, of a step's replies, of the history, of the steps from there on, of their replies -/
def O1 (h0 : AH) (v hv : AV) (len : Nat) (n : Nat) (e' : Env) (h' : AH) : Prop :=
  e'.length = 131 ∧ Keeps h0 h' ∧ ∃ k : Nat, k + n = len ∧
    (v = e'.getD 0 .undef ∧ hv = e'.getD 6 .undef ∧ v = e'.getD 47 .undef ∧ e'.getD 48 .undef = .int .i64 len ∧ e'.getD 49 .undef = .int .i64 k)
def O2 (h0 : AH) (v hv rv : AV) (len k rl : Nat) (n : Nat) (e' : Env) (h' : AH) : Prop :=
  e'.length = 131 ∧ Keeps h0 h' ∧ ∃ j : Nat, j + n = rl ∧
    (v = e'.getD 0 .undef ∧ hv = e'.getD 6 .undef ∧ v = e'.getD 47 .undef ∧ e'.getD 48 .undef = .int .i64 len ∧ e'.getD 49 .undef = .int .i64 k ∧ e'.getD 7 .undef = .int .i64 k ∧ rv = e'.getD 55 .undef ∧ e'.getD 56 .undef = .int .i64 rl ∧ e'.getD 57 .undef = .int .i64 j)
def O3 (h0 : AH) (v hv rv : AV) (len k rl j kr : Nat) (r : Rep) (nv : AV) (H : List Ent) (n : Nat) (e' : Env) (h' : AH) : Prop :=
  e'.length = 131 ∧ Keeps h0 h' ∧ kr < h'.next ∧ h'.get kr = some (.cells (r.cells nv) 75) ∧ ∃ q : Nat, q + n = H.length ∧
    (v = e'.getD 0 .undef ∧ hv = e'.getD 6 .undef ∧ v = e'.getD 47 .undef ∧ e'.getD 48 .undef = .int .i64 len ∧ e'.getD 49 .undef = .int .i64 k ∧ e'.getD 7 .undef = .int .i64 k ∧ rv = e'.getD 55 .undef ∧ e'.getD 56 .undef = .int .i64 rl ∧ e'.getD 57 .undef = .int .i64 j ∧
      e'.getD 10 .undef = .ptr (some (.new kr 0)) ∧ e'.getD 11 .undef = .int .i64 ((H.take q).countP (keyB r) : Nat) ∧ hv = e'.getD 63 .undef ∧ e'.getD 64 .undef = .int .i64 H.length ∧ e'.getD 65 .undef = .int .i64 q)
def O4 (h0 : AH) (v hv rv dv : AV) (len k rl j kr dl : Nat) (r : Rep) (nv : AV) (n : Nat) (e' : Env) (h' : AH) : Prop :=
  e'.length = 131 ∧ Keeps h0 h' ∧ kr < h'.next ∧ h'.get kr = some (.cells (r.cells nv) 75) ∧ ∃ q : Nat, q + n = dl ∧
    (v = e'.getD 0 .undef ∧ hv = e'.getD 6 .undef ∧ v = e'.getD 47 .undef ∧ e'.getD 48 .undef = .int .i64 len ∧ e'.getD 49 .undef = .int .i64 k ∧ e'.getD 7 .undef = .int .i64 k ∧ rv = e'.getD 55 .undef ∧ e'.getD 56 .undef = .int .i64 rl ∧ e'.getD 57 .undef = .int .i64 j ∧
      e'.getD 10 .undef = .ptr (some (.new kr 0)) ∧ dv = e'.getD 88 .undef ∧ e'.getD 89 .undef = .int .i64 dl ∧ e'.getD 90 .undef = .int .i64 q)
def O5 (h0 : AH) (v hv rv dv rw_ : AV) (len k rl j kr dl q ql : Nat) (r : Rep) (nv : AV) (n : Nat) (e' : Env) (h' : AH) : Prop :=
  e'.length = 131 ∧ Keeps h0 h' ∧ kr < h'.next ∧ h'.get kr = some (.cells (r.cells nv) 75) ∧ ∃ i : Nat, i + n = ql ∧
    (v = e'.getD 0 .undef ∧ hv = e'.getD 6 .undef ∧ v = e'.getD 47 .undef ∧ e'.getD 48 .undef = .int .i64 len ∧ e'.getD 49 .undef = .int .i64 k ∧ e'.getD 7 .undef = .int .i64 k ∧ rv = e'.getD 55 .undef ∧ e'.getD 56 .undef = .int .i64 rl ∧ e'.getD 57 .undef = .int .i64 j ∧
      e'.getD 10 .undef = .ptr (some (.new kr 0)) ∧ dv = e'.getD 88 .undef ∧ e'.getD 89 .undef = .int .i64 dl ∧ e'.getD 90 .undef = .int .i64 q ∧ rw_ = e'.getD 95 .undef ∧ e'.getD 96 .undef = .int .i64 ql ∧ e'.getD 97 .undef = .int .i64 i)

set_option maxRecDepth 100000 in
set_option maxHeartbeats 32000000 in
theorem once_ret (W : World) (v : AV) (l : List See) (hs : ∀ h0, SeeS W h0 v l) (hl : l.length ≤ 1048576) :
    ACall (CC W) 10 [v] AH.empty (fun w _ => w = .bool true) (fun _ _ => False) := by
  refine jj9 (cc_ok W) (fn10 W) (by simp only [Tryz.f10]; rfl) rfl rfl ?_
  simp [push_cast]
  refine jf9 (by simp [fn27]) (large_ret W AH.empty v l (hs _) hl) fun h1 hk1 => ?_
  by_cases hlg : 200 < l.length ∨ 1500 < totN l
  · have : (decide (200 < l.length) || decide (1500 < totN l)) = true := by simpa using hlg
    rw [this]
    simp [push_cast]
    refine jf9 (by simp [fn28]) (speaks26_ret W h1) fun h2 hk2 => ?_
    simp [push_cast]
  have hlg2 : (decide (200 < l.length) || decide (1500 < totN l)) = false := by
    rw [not_or] at hlg
    simp [hlg.1, hlg.2]
  rw [hlg2]
  rw [not_or] at hlg
  obtain ⟨hg1, hg2⟩ := hlg
  have hb : ∀ s ∈ l, s.reps.length ≤ 4096 ∧ s.h.length ≤ 4096 := fun s hx => by
    have := totN_mem hx
    omega
  have hln : ∀ h', aLen (CC W) h' 63 v = some (.int .i64 l.length) := fun h' => SeeS.len (hs h') h'
  by_cases hl0 : l = []
  · have hl0' : (l.length : Int) = 0 := by simp [hl0]
    simp [push_cast, hln, hl0']
    refine jf9 (by simp [fn28]) (speaks26_ret W h1) fun h2 hk2 => ?_
    simp [push_cast]
  obtain ⟨N, hN⟩ : ∃ N, l.length = N + 1 := ⟨l.length - 1, by
    have : 0 < l.length := List.length_pos_iff.2 hl0
    omega⟩
  have hl0' : ((l.length : Int) == 0) = false := by
    simp only [beq_eq_false_iff_ne, ne_eq]; omega
  simp [push_cast, hln, hl0']
  refine jf9 (by simp [fn30]) (little26_ret W h1) fun h2 hk2 => ?_
  simp [push_cast]
  refine jf9 (by simp [fn29]) (check_ret W h2 40 20 8 16 v l (hs h2) shape26 (by omega) hb) fun h3 hk3 => ?_
  have hokA := checkR_ok l wp0 0 (sh := (40, 20, 8)) (cm := 16)
  obtain ⟨A, hA⟩ : ∃ A, A = (checkR (40, 20, 8) 16 wp0 l 0).1 := ⟨_, rfl⟩
  rw [← hA] at hokA ⊢
  by_cases ca : A = 0
  case neg =>
    have ca' : (A == 0) = false := by simpa using ca
    simp [push_cast, ca, ca']
    refine jf9 (by simp [fn28]) (speaks26_ret W h3) fun h4 hk4 => ?_
    simp [push_cast]
  have hok := hokA.1 ca
  have wl : IntKind.i64.wrap ((l.length : Int) - 1) = (N : Int) := by
    rw [wrap64 (by omega) (by omega)]; omega
  obtain ⟨z, hz⟩ : ∃ z, l[N]? = some z := ⟨l[N]'(by omega), by simp⟩
  have hzl : l.getLast? = some z := by rw [List.getLast?_eq_getElem?, hN]; exact hz
  obtain ⟨az, uz, hixz, ⟨rvz, hvz, rfl, _, _, hzS, _, _⟩, hldz⟩ := (hs h3).at hz
  obtain ⟨hfz, hlz⟩ := see_hist (hldz h3 (Keeps.refl _))
  have hlH : z.h.length ≤ 4096 := (hb z (List.mem_of_getElem? hz)).2
  have hone1 : ∀ (i : Nat) (s : See), l[i]? = some s → ∀ r ∈ s.reps, refB r = false → z.h.countP (keyB r) = 1 := fun i s hi r hr hrf => by
    obtain ⟨p, e, e1, e2, e3, e4⟩ := (once_law hok hi hr hrf).1 z hzl
    exact count_uniq e1 (keyB_iff.2 ⟨e2, e3⟩) fun q y hq hf => e4 q y hq (keyB_iff.1 hf).1 (keyB_iff.1 hf).2
  have hone2 : ∀ (i : Nat) (s : See), l[i]? = some s → ∀ r ∈ s.reps, refB r = false → ∀ (j : Nat) (t : See), i ≤ j → l[j]? = some t → ∀ q ∈ t.reps, q.client = r.client → q.req = r.req → refB q = false → q.res = r.res := fun i s hi r hr hrf => (once_law hok hi hr hrf).2
  generalize z.h = H at hzS hlH hone1
  have hs3 := hs h3
  have hlnH : ∀ h', aLen (CC W) h' 71 hvz = some (.int .i64 H.length) := fun h' => hzS.len h'
  simp [push_cast, ca, hln, wl, hixz, hfz, hlz]
  refine hideL fun Q1 K1 hQ1 hK1 => ?_
  refine loopN (cc_ok W) (O1 h3 v hvz l.length) l.length ⟨by simp, Keeps.refl _, 0, by simp, by simp⟩ ?_
  rintro n1 e1 h4 ⟨hlen1, hk4, k, hkm, hh⟩
  obtain ⟨a0, a1, a2, a3, a4, a5, a6, a7, a8, a9, rS0, rfl, hS0⟩ := un10 hlen1
  obtain ⟨a10, a11, a12, a13, a14, a15, a16, a17, a18, a19, rS10, rfl, hS10⟩ := un10 hS0
  obtain ⟨a20, a21, a22, a23, a24, a25, a26, a27, a28, a29, rS20, rfl, hS20⟩ := un10 hS10
  obtain ⟨a30, a31, a32, a33, a34, a35, a36, a37, a38, a39, rS30, rfl, hS30⟩ := un10 hS20
  obtain ⟨a40, a41, a42, a43, a44, a45, a46, a47, a48, a49, rS40, rfl, hS40⟩ := un10 hS30
  obtain ⟨a50, a51, a52, a53, a54, a55, a56, a57, a58, a59, rS50, rfl, hS50⟩ := un10 hS40
  obtain ⟨a60, a61, a62, a63, a64, a65, a66, a67, a68, a69, rS60, rfl, hS60⟩ := un10 hS50
  obtain ⟨a70, a71, a72, a73, a74, a75, a76, a77, a78, a79, rS70, rfl, hS70⟩ := un10 hS60
  obtain ⟨a80, a81, a82, a83, a84, a85, a86, a87, a88, a89, rS80, rfl, hS80⟩ := un10 hS70
  obtain ⟨a90, a91, a92, a93, a94, a95, a96, a97, a98, a99, rS90, rfl, hS90⟩ := un10 hS80
  obtain ⟨a100, a101, a102, a103, a104, a105, a106, a107, a108, a109, rS100, rfl, hS100⟩ := un10 hS90
  obtain ⟨a110, a111, a112, a113, a114, a115, a116, a117, a118, a119, rS110, rfl, hS110⟩ := un10 hS100
  obtain ⟨a120, a121, a122, a123, a124, a125, a126, a127, a128, a129, rS120, rfl, hS120⟩ := un10 hS110
  obtain ⟨a130, rS130, rfl, hS130⟩ := un1 hS120
  obtain rfl := un0 hS130
  clear hlen1 hS0 hS10 hS20 hS30 hS40 hS50 hS60 hS70 hS80 hS90 hS100 hS110 hS120 hS130
  simp at hh
  obtain ⟨b0, b6, b47, rfl, rfl⟩ := hh
  subst b0 b6 b47
  by_cases hlt : k < l.length
  case neg =>
    have hlt' : ¬ (k : Int) < (l.length : Int) := by omega
    subst hQ1 hK1
    simp [push_cast, hlt, hlt']
    refine jf9 (by simp [fn28]) (speaks26_ret W h4) fun h5 hk5 => ?_
    simp [push_cast]
  have hlt' : (k : Int) < (l.length : Int) := by omega
  have wk : IntKind.i64.wrap ((k : Int) + 1) = (k : Int) + 1 := wrap64 (by omega) (by omega)
  obtain ⟨s, hy⟩ : ∃ s, l[k]? = some s := ⟨l[k], by simp [hlt]⟩
  have hbs := hb s (List.mem_of_getElem? hy)
  have hone1 := hone1 k s hy
  have hone2 := hone2 k s hy
  obtain ⟨a, u, hix, hP, hld⟩ := hs3.at hy
  have hld := hld h4 hk4
  obtain ⟨rv, hv, hp, h5, rfl, hr, he, hal, hst, hk5, hn5, hg5⟩ := see_box (h := h4) hP
  have hg5' := hg5
  simp only [Cho.cells, Opn.cells, List.cons_append, List.nil_append] at hg5' hst hld
  have hlr : ∀ h', aLen (CC W) h' 70 rv = some (.int .i64 s.reps.length) := fun h' => hr.len h'
  have hk5 := hk4.trans hk5
  simp [push_cast, hlt, hlt', hix, hld, hal, hst, fa73_1, ld70, ji9 hg5', hlr]
  refine hideL fun Q2 K2 hQ2 hK2 => ?_
  refine loopN (cc_ok W) (O2 h3 v hvz rv l.length k s.reps.length) s.reps.length ⟨by simp, hk5, 0, by simp, by simp⟩ ?_
  clear hal hst hix hld hg5 hg5' hn5
  rintro n2 e2 h6 ⟨hlen2, hk6, j, hjm, hh⟩
  obtain ⟨a0, a1, a2, a3, a4, a5, a6, a7, a8, a9, rS0, rfl, hS0⟩ := un10 hlen2
  obtain ⟨a10, a11, a12, a13, a14, a15, a16, a17, a18, a19, rS10, rfl, hS10⟩ := un10 hS0
  obtain ⟨a20, a21, a22, a23, a24, a25, a26, a27, a28, a29, rS20, rfl, hS20⟩ := un10 hS10
  obtain ⟨a30, a31, a32, a33, a34, a35, a36, a37, a38, a39, rS30, rfl, hS30⟩ := un10 hS20
  obtain ⟨a40, a41, a42, a43, a44, a45, a46, a47, a48, a49, rS40, rfl, hS40⟩ := un10 hS30
  obtain ⟨a50, a51, a52, a53, a54, a55, a56, a57, a58, a59, rS50, rfl, hS50⟩ := un10 hS40
  obtain ⟨a60, a61, a62, a63, a64, a65, a66, a67, a68, a69, rS60, rfl, hS60⟩ := un10 hS50
  obtain ⟨a70, a71, a72, a73, a74, a75, a76, a77, a78, a79, rS70, rfl, hS70⟩ := un10 hS60
  obtain ⟨a80, a81, a82, a83, a84, a85, a86, a87, a88, a89, rS80, rfl, hS80⟩ := un10 hS70
  obtain ⟨a90, a91, a92, a93, a94, a95, a96, a97, a98, a99, rS90, rfl, hS90⟩ := un10 hS80
  obtain ⟨a100, a101, a102, a103, a104, a105, a106, a107, a108, a109, rS100, rfl, hS100⟩ := un10 hS90
  obtain ⟨a110, a111, a112, a113, a114, a115, a116, a117, a118, a119, rS110, rfl, hS110⟩ := un10 hS100
  obtain ⟨a120, a121, a122, a123, a124, a125, a126, a127, a128, a129, rS120, rfl, hS120⟩ := un10 hS110
  obtain ⟨a130, rS130, rfl, hS130⟩ := un1 hS120
  obtain rfl := un0 hS130
  clear hlen2 hS0 hS10 hS20 hS30 hS40 hS50 hS60 hS70 hS80 hS90 hS100 hS110 hS120 hS130
  simp at hh
  obtain ⟨b0, b6, b47, rfl, rfl, rfl, b55, rfl, rfl⟩ := hh
  subst b0 b6 b47 b55
  by_cases hjl : j < s.reps.length
  case neg =>
    have hjl' : ¬ (j : Int) < (s.reps.length : Int) := by omega
    subst hQ2 hK2
    simp [push_cast, hjl, hjl', wk]
    exact ⟨n1 - 1, by omega, by simp, hk6, k + 1, by omega, by simp⟩
  have hjl' : (j : Int) < (s.reps.length : Int) := by omega
  have wj : IntKind.i64.wrap ((j : Int) + 1) = (j : Int) + 1 := wrap64 (by omega) (by omega)
  obtain ⟨r, hyr⟩ : ∃ r, s.reps[j]? = some r := ⟨s.reps[j], by simp [hjl]⟩
  have hone1 := hone1 r (List.mem_of_getElem? hyr)
  have hone2 := hone2 r (List.mem_of_getElem? hyr)
  obtain ⟨a, u, hixr, hPr, hldr⟩ := hr.at hyr
  have hldr := hldr h6 hk6
  obtain ⟨nv, hp, h7, rfl, hnr, hal, hst, hk7, hn7, hg7⟩ := rep_box (h := h6) hPr hk6
  have hld7 := ld_rep (W := W) hg7
  generalize h6.next = kr at hal hst hn7 hg7 hld7
  have hnl : r.res.names.length < 1000000000 := by obtain ⟨_, _, _, h⟩ := hPr; exact h
  simp only [Rep.cells] at hst hldr
  simp [push_cast, hjl, hjl', hixr, hldr, hal, hst, hld7]
  refine jf9 (by simp [fn31]) (refusal26_ret W h7 r nv) fun h8 hk8 => ?_
  have hg8 := (hk8.2 kr hn7).trans hg7
  have hn8 : kr < h8.next := Nat.lt_of_lt_of_le hn7 hk8.1
  have hk8 := (hk6.trans hk7).trans hk8
  clear hal hst hld7 hixr hldr hk7 hg7 hn7
  cases hrf : refB r with
  | true =>
    simp [push_cast, wj]
    exact ⟨n2 - 1, by omega, by simp, hk8, j + 1, by omega, by simp⟩
  | false =>
  have hone1 := hone1 hrf
  have hone2 := hone2 hrf
  simp [push_cast, hlnH]
  refine hideL fun Q3 K3 hQ3 hK3 => ?_
  refine loopN (cc_ok W) (O3 h3 v hvz rv l.length k s.reps.length j kr r nv H) H.length ⟨by simp, hk8, hn8, hg8, 0, by simp, by simp⟩ ?_
  rintro n3 e3 h9 ⟨hlen3, hk9, hn9, hg9, q, hqm, hh⟩
  obtain ⟨a0, a1, a2, a3, a4, a5, a6, a7, a8, a9, rS0, rfl, hS0⟩ := un10 hlen3
  obtain ⟨a10, a11, a12, a13, a14, a15, a16, a17, a18, a19, rS10, rfl, hS10⟩ := un10 hS0
  obtain ⟨a20, a21, a22, a23, a24, a25, a26, a27, a28, a29, rS20, rfl, hS20⟩ := un10 hS10
  obtain ⟨a30, a31, a32, a33, a34, a35, a36, a37, a38, a39, rS30, rfl, hS30⟩ := un10 hS20
  obtain ⟨a40, a41, a42, a43, a44, a45, a46, a47, a48, a49, rS40, rfl, hS40⟩ := un10 hS30
  obtain ⟨a50, a51, a52, a53, a54, a55, a56, a57, a58, a59, rS50, rfl, hS50⟩ := un10 hS40
  obtain ⟨a60, a61, a62, a63, a64, a65, a66, a67, a68, a69, rS60, rfl, hS60⟩ := un10 hS50
  obtain ⟨a70, a71, a72, a73, a74, a75, a76, a77, a78, a79, rS70, rfl, hS70⟩ := un10 hS60
  obtain ⟨a80, a81, a82, a83, a84, a85, a86, a87, a88, a89, rS80, rfl, hS80⟩ := un10 hS70
  obtain ⟨a90, a91, a92, a93, a94, a95, a96, a97, a98, a99, rS90, rfl, hS90⟩ := un10 hS80
  obtain ⟨a100, a101, a102, a103, a104, a105, a106, a107, a108, a109, rS100, rfl, hS100⟩ := un10 hS90
  obtain ⟨a110, a111, a112, a113, a114, a115, a116, a117, a118, a119, rS110, rfl, hS110⟩ := un10 hS100
  obtain ⟨a120, a121, a122, a123, a124, a125, a126, a127, a128, a129, rS120, rfl, hS120⟩ := un10 hS110
  obtain ⟨a130, rS130, rfl, hS130⟩ := un1 hS120
  obtain rfl := un0 hS130
  clear hlen3 hS0 hS10 hS20 hS30 hS40 hS50 hS60 hS70 hS80 hS90 hS100 hS110 hS120 hS130
  simp at hh
  obtain ⟨b0, b6, b47, rfl, rfl, rfl, b55, rfl, rfl, rfl, rfl, b63, rfl, rfl⟩ := hh
  subst b0 b6 b47 b55 b63
  have hg9' := hg9
  simp only [Rep.cells] at hg9'
  by_cases hql : q < H.length
  · have hql' : (q : Int) < (H.length : Int) := by omega
    have wq : IntKind.i64.wrap ((q : Int) + 1) = (q : Int) + 1 := wrap64 (by omega) (by omega)
    obtain ⟨e, hye⟩ : ∃ e, H[q]? = some e := ⟨H[q], by simp [hql]⟩
    obtain ⟨a, u, hixe, hPe, hlde⟩ := hzS.at hye
    have hlde := hlde h9 hk9
    obtain ⟨hp, hA, rfl, hal, hst, hkA, hnA, hgA⟩ := ent_box (W := W) (h := h9) hPe
    have hgrA := (hkA.2 kr hn9).trans hg9
    have hgrA' := hgrA
    simp only [Rep.cells] at hgrA'
    have hgA' := hgA
    simp only [Ent.cells, Opn.cells] at hgA' hst hlde
    have htk : (H.take (q + 1)).countP (keyB r) = (H.take q).countP (keyB r) + if keyB r e = true then 1 else 0 := by
      rw [List.take_add_one, hye, List.countP_append]
      simp [List.countP_cons]
    have hle : (H.take q).countP (keyB r) ≤ q := Nat.le_trans List.countP_le_length (by simp; omega)
    generalize (H.take q).countP (keyB r) = cnt at htk hle
    have wc : IntKind.i64.wrap ((cnt : Int) + 1) = (cnt : Int) + 1 := wrap64 (by omega) (by omega)
    have hnrA : kr < hA.next := Nat.lt_of_lt_of_le hn9 hkA.1
    by_cases c1 : e.client = r.client
    · have c1t : (e.client == r.client) = true := by simpa using c1
      by_cases c2 : e.req = r.req
      · have c2t : (e.req == r.req) = true := by simpa using c2
        rw [if_pos (keyB_iff.2 ⟨c1, c2⟩)] at htk
        simp [push_cast, hql, hql', hixe, hlde, hal, hst, fa78_1, fa78_2, fa75_1, fa75_2, ld3, ji9 hgA', ji9 hgrA', c1t, c2t, wq, wc]
        exact ⟨n3 - 1, by omega, by simp, hk9.trans hkA, hnrA, hgrA, q + 1, by omega, by rw [htk]; simp⟩
      · rw [if_neg (fun hc => c2 (keyB_iff.1 hc).2)] at htk
        have c2' : (e.req == r.req) = false := by simpa using c2
        simp [push_cast, hql, hql', hixe, hlde, hal, hst, fa78_1, fa78_2, fa75_1, fa75_2, ld3, ji9 hgA', ji9 hgrA', c1t, c2', wq]
        exact ⟨n3 - 1, by omega, by simp, hk9.trans hkA, hnrA, hgrA, q + 1, by omega, by rw [htk]; simp⟩
    · rw [if_neg (fun hc => c1 (keyB_iff.1 hc).1)] at htk
      have c1' : (e.client == r.client) = false := by simpa using c1
      simp [push_cast, hql, hql', hixe, hlde, hal, hst, fa78_1, fa75_1, ld3, ji9 hgA', ji9 hgrA', c1', wq]
      exact ⟨n3 - 1, by omega, by simp, hk9.trans hkA, hnrA, hgrA, q + 1, by omega, by rw [htk]; simp⟩
  have hql' : ¬ (q : Int) < (H.length : Int) := by omega
  have htk : H.take q = H := List.take_of_length_le (by omega)
  rw [htk, hone1]
  subst hQ3 hK3
  obtain ⟨dv, hsl, hsD⟩ := BSl.drop hs3 (kind63 W) (size73 W) (Nat.le_of_lt hlt)
  have hlD : ∀ h', aLen (CC W) h' 63 dv = some (.int .i64 (l.drop k).length) := fun h' => SeeS.len hsD h'
  obtain ⟨D, hD⟩ : ∃ D, D = l.drop k := ⟨_, rfl⟩
  have hDm : ∀ (q : Nat) t, D[q]? = some t → l[k + q]? = some t := fun q t ht => by rw [hD, List.getElem?_drop] at ht; exact ht
  have hDl : D.length ≤ 200 := by rw [hD]; simp; omega
  rw [← hD] at hsD hlD
  simp [push_cast, hql, hql', hsl, hlD]
  refine hideL fun Q4 K4 hQ4 hK4 => ?_
  refine loopN (cc_ok W) (O4 h3 v hvz rv dv l.length k s.reps.length j kr D.length r nv) D.length ⟨by simp, hk9, hn9, hg9, 0, by simp, by simp⟩ ?_
  clear hg9' hsl htk
  rintro n4 e4 hB ⟨hlen4, hkB, hnB, hgB, q, hqm, hh⟩
  obtain ⟨a0, a1, a2, a3, a4, a5, a6, a7, a8, a9, rS0, rfl, hS0⟩ := un10 hlen4
  obtain ⟨a10, a11, a12, a13, a14, a15, a16, a17, a18, a19, rS10, rfl, hS10⟩ := un10 hS0
  obtain ⟨a20, a21, a22, a23, a24, a25, a26, a27, a28, a29, rS20, rfl, hS20⟩ := un10 hS10
  obtain ⟨a30, a31, a32, a33, a34, a35, a36, a37, a38, a39, rS30, rfl, hS30⟩ := un10 hS20
  obtain ⟨a40, a41, a42, a43, a44, a45, a46, a47, a48, a49, rS40, rfl, hS40⟩ := un10 hS30
  obtain ⟨a50, a51, a52, a53, a54, a55, a56, a57, a58, a59, rS50, rfl, hS50⟩ := un10 hS40
  obtain ⟨a60, a61, a62, a63, a64, a65, a66, a67, a68, a69, rS60, rfl, hS60⟩ := un10 hS50
  obtain ⟨a70, a71, a72, a73, a74, a75, a76, a77, a78, a79, rS70, rfl, hS70⟩ := un10 hS60
  obtain ⟨a80, a81, a82, a83, a84, a85, a86, a87, a88, a89, rS80, rfl, hS80⟩ := un10 hS70
  obtain ⟨a90, a91, a92, a93, a94, a95, a96, a97, a98, a99, rS90, rfl, hS90⟩ := un10 hS80
  obtain ⟨a100, a101, a102, a103, a104, a105, a106, a107, a108, a109, rS100, rfl, hS100⟩ := un10 hS90
  obtain ⟨a110, a111, a112, a113, a114, a115, a116, a117, a118, a119, rS110, rfl, hS110⟩ := un10 hS100
  obtain ⟨a120, a121, a122, a123, a124, a125, a126, a127, a128, a129, rS120, rfl, hS120⟩ := un10 hS110
  obtain ⟨a130, rS130, rfl, hS130⟩ := un1 hS120
  obtain rfl := un0 hS130
  clear hlen4 hS0 hS10 hS20 hS30 hS40 hS50 hS60 hS70 hS80 hS90 hS100 hS110 hS120 hS130
  simp at hh
  obtain ⟨b0, b6, b47, rfl, rfl, rfl, b55, rfl, rfl, rfl, b88, rfl, rfl⟩ := hh
  subst b0 b6 b47 b55 b88
  by_cases hql : q < D.length
  case neg =>
    have hql' : ¬ (q : Int) < (D.length : Int) := by omega
    subst hQ4 hK4
    simp [push_cast, hql, hql', wj]
    exact ⟨n2 - 1, by omega, by simp, hkB, j + 1, by omega, by simp⟩
  have hql' : (q : Int) < (D.length : Int) := by omega
  have wq : IntKind.i64.wrap ((q : Int) + 1) = (q : Int) + 1 := wrap64 (by omega) (by omega)
  obtain ⟨t, hyt⟩ : ∃ t, D[q]? = some t := ⟨D[q], by simp [hql]⟩
  have hlt2 := hDm q t hyt
  have hone2 := hone2 (k + q) t (by omega) hlt2
  have hbt := hb t (List.mem_of_getElem? hlt2)
  obtain ⟨a, u, hixt, hPt, hldt⟩ := SeeS.at hsD hyt
  have hldt := hldt hB hkB
  obtain ⟨rw_, hvt, hp, hC, rfl, hrt, _, hal, hst, hkC, hnC, hgC⟩ := see_box (h := hB) hPt
  have hgC' := hgC
  simp only [Cho.cells, Opn.cells, List.cons_append, List.nil_append] at hgC' hst hldt
  have hlrt : ∀ h', aLen (CC W) h' 70 rw_ = some (.int .i64 t.reps.length) := fun h' => hrt.len h'
  have hgrC := (hkC.2 kr hnB).trans hgB
  have hnrC : kr < hC.next := Nat.lt_of_lt_of_le hnB hkC.1
  have hkC := hkB.trans hkC
  simp [push_cast, hql, hql', hixt, hldt, hal, hst, fa73_1, ld70, ji9 hgC', hlrt]
  refine hideL fun Q5 K5 hQ5 hK5 => ?_
  refine loopN (cc_ok W) (O5 h3 v hvz rv dv rw_ l.length k s.reps.length j kr D.length q t.reps.length r nv) t.reps.length ⟨by simp, hkC, hnrC, hgrC, 0, by simp, by simp⟩ ?_
  clear hal hst hixt hldt hgC hgC' hnC
  rintro n5 e5 hE ⟨hlen5, hkE, hnE, hgE, i, him, hh⟩
  obtain ⟨a0, a1, a2, a3, a4, a5, a6, a7, a8, a9, rS0, rfl, hS0⟩ := un10 hlen5
  obtain ⟨a10, a11, a12, a13, a14, a15, a16, a17, a18, a19, rS10, rfl, hS10⟩ := un10 hS0
  obtain ⟨a20, a21, a22, a23, a24, a25, a26, a27, a28, a29, rS20, rfl, hS20⟩ := un10 hS10
  obtain ⟨a30, a31, a32, a33, a34, a35, a36, a37, a38, a39, rS30, rfl, hS30⟩ := un10 hS20
  obtain ⟨a40, a41, a42, a43, a44, a45, a46, a47, a48, a49, rS40, rfl, hS40⟩ := un10 hS30
  obtain ⟨a50, a51, a52, a53, a54, a55, a56, a57, a58, a59, rS50, rfl, hS50⟩ := un10 hS40
  obtain ⟨a60, a61, a62, a63, a64, a65, a66, a67, a68, a69, rS60, rfl, hS60⟩ := un10 hS50
  obtain ⟨a70, a71, a72, a73, a74, a75, a76, a77, a78, a79, rS70, rfl, hS70⟩ := un10 hS60
  obtain ⟨a80, a81, a82, a83, a84, a85, a86, a87, a88, a89, rS80, rfl, hS80⟩ := un10 hS70
  obtain ⟨a90, a91, a92, a93, a94, a95, a96, a97, a98, a99, rS90, rfl, hS90⟩ := un10 hS80
  obtain ⟨a100, a101, a102, a103, a104, a105, a106, a107, a108, a109, rS100, rfl, hS100⟩ := un10 hS90
  obtain ⟨a110, a111, a112, a113, a114, a115, a116, a117, a118, a119, rS110, rfl, hS110⟩ := un10 hS100
  obtain ⟨a120, a121, a122, a123, a124, a125, a126, a127, a128, a129, rS120, rfl, hS120⟩ := un10 hS110
  obtain ⟨a130, rS130, rfl, hS130⟩ := un1 hS120
  obtain rfl := un0 hS130
  clear hlen5 hS0 hS10 hS20 hS30 hS40 hS50 hS60 hS70 hS80 hS90 hS100 hS110 hS120 hS130
  simp at hh
  obtain ⟨b0, b6, b47, rfl, rfl, rfl, b55, rfl, rfl, rfl, b88, rfl, rfl, b95, rfl, rfl⟩ := hh
  subst b0 b6 b47 b55 b88 b95
  by_cases hil : i < t.reps.length
  case neg =>
    have hil' : ¬ (i : Int) < (t.reps.length : Int) := by omega
    subst hQ5 hK5
    simp [push_cast, hil, hil', wq]
    exact ⟨n4 - 1, by omega, by simp, hkE, hnE, hgE, q + 1, by omega, by simp⟩
  have hil' : (i : Int) < (t.reps.length : Int) := by omega
  have wi : IntKind.i64.wrap ((i : Int) + 1) = (i : Int) + 1 := wrap64 (by omega) (by omega)
  obtain ⟨x, hyx⟩ : ∃ x, t.reps[i]? = some x := ⟨t.reps[i], by simp [hil]⟩
  have hone2 := hone2 x (List.mem_of_getElem? hyx)
  obtain ⟨a, u, hixx, hPx, hldx⟩ := hrt.at hyx
  have hldx := hldx hE hkE
  obtain ⟨nx, hp, hF, rfl, hnx, hal, hst, hkF, hnF, hgF⟩ := rep_box (h := hE) hPx hkE
  have hldF := ld_rep (W := W) hgF
  have hgrF := (hkF.2 kr hnE).trans hgE
  have hnrF : kr < hF.next := Nat.lt_of_lt_of_le hnE hkF.1
  have hkF0 := hkE.trans hkF
  generalize hE.next = kx at hal hst hnF hgF hldF
  have hgF' := hgF
  have hgrF' := hgrF
  simp only [Rep.cells] at hgF' hgrF' hst hldx
  by_cases c1 : x.client = r.client
  case neg =>
    have c1' : (x.client == r.client) = false := by simpa using c1
    simp [push_cast, hil, hil', hixx, hldx, hal, hst, fa75_1, ld3, ji9 hgF', ji9 hgrF', c1', wi]
    exact ⟨n5 - 1, by omega, by simp, hkF0, hnrF, hgrF, i + 1, by omega, by simp⟩
  have c1t : (x.client == r.client) = true := by simpa using c1
  by_cases c2 : x.req = r.req
  case neg =>
    have c2' : (x.req == r.req) = false := by simpa using c2
    simp [push_cast, hil, hil', hixx, hldx, hal, hst, fa75_1, fa75_2, ld3, ji9 hgF', ji9 hgrF', c1t, c2', wi]
    exact ⟨n5 - 1, by omega, by simp, hkF0, hnrF, hgrF, i + 1, by omega, by simp⟩
  have c2t : (x.req == r.req) = true := by simpa using c2
  simp [push_cast, hil, hil', hixx, hldx, hal, hst, fa75_1, fa75_2, ld3, ji9 hgF', ji9 hgrF', c1t, c2t, hldF]
  refine jf9 (by simp [fn31]) (refusal26_ret W hF x nx) fun hG hkG => ?_
  have hgG := (hkG.2 kx hnF).trans hgF
  have hgrG := (hkG.2 kr hnrF).trans hgrF
  have hnG : kx < hG.next := Nat.lt_of_lt_of_le hnF hkG.1
  have hnrG : kr < hG.next := Nat.lt_of_lt_of_le hnrF hkG.1
  have hkG0 := hkF0.trans hkG
  cases hxf : refB x with
  | true =>
    simp [push_cast, aUn_not', wi]
    exact ⟨n5 - 1, by omega, by simp, hkG0, hnrG, hgrG, i + 1, by omega, by simp⟩
  | false =>
  have hres := hone2 c1 c2 hxf
  have hlx := ld_rep3 (W := W) hgG
  have hlr3 := ld_rep3 (W := W) hgrG
  rw [hres] at hlx
  have hnx' := hnx hG hkG0
  rw [hres] at hnx'
  simp [push_cast, aUn_not', fa75_3, hlx, hlr3]
  refine jf9 (by simp [fn16]) (result_ret W hG r.res nx nv hnx' (hnr hG hkG0) (by omega)) fun hI hkI => ?_
  simp [push_cast, aUn_not', wi]
  exact ⟨n5 - 1, by omega, by simp, hkG0.trans hkI, Nat.lt_of_lt_of_le hnrG hkI.1, (hkI.2 kr hnrG).trans hgrG, i + 1, by omega, by simp⟩
theorem once_lawW (W : World) (av : AV) {n : Nat} (hn : n ≤ 1048576) (h : n < 1000000000 → ∃ l : List See, (∀ h0, SeeS W h0 av l) ∧ l.length ≤ n) :
    ACall (CC W) 10 [av] AH.empty (fun w _ => w = .bool true) (fun _ _ => False) := by
  obtain ⟨l, hv, hl⟩ := h (by omega)
  exact once_ret W av l hv (by omega)
end Go.Proofs.YtbofhlifobjolaaGreatDoor.Ax
end
