/- The texts LpA, LwA, as one. -/
import Derived.Test.YtgcoipcnhmkeaaaGga
import Derived.Test.YtgcoipcnhmkeaaaGja

/-! FileApart, plain: places are counted one by one -/
section
set_option linter.unusedVariables false
set_option linter.unusedSimpArgs false
namespace Go.Proofs.Ytgcoipcnhmkeaaa.Ax

/-- The indices asked ahead of the k-th of the i-th file. -/
def askL (i k : Nat) : List (Nat × Nat) := (List.range (i - 1)).flatMap (fun j => (List.range 4166).map fun y => (j + 1, y)) ++ (List.range k).map fun y => (i, y)
theorem askL_succ (i k : Nat) : askL i (k + 1) = askL i k ++ [(i, k)] := by
  unfold askL
  rw [List.range_succ (n := k), List.map_append, List.append_assoc]
  rfl
theorem askL_next {i : Nat} (h : 1 ≤ i) : askL (i + 1) 0 = askL i 4166 := by
  obtain ⟨m, rfl⟩ : ∃ m, i = m + 1 := ⟨i - 1, by omega⟩
  unfold askL
  rw [show m + 1 + 1 - 1 = m + 1 by omega, show m + 1 - 1 = m by omega, List.range_succ (n := m), List.flatMap_append]
  simp only [List.range_zero, List.map_nil, List.append_nil, List.flatMap_cons, List.flatMap_nil]
theorem askL_mem {i k : Nat} (h : 1 ≤ i) {p : Nat × Nat} (hp : p ∈ askL i k) : 1 ≤ p.1 ∧ (p.1 < i ∧ p.2 < 4166 ∨ p.1 = i ∧ p.2 < k) := by
  simp only [askL, List.mem_append, List.mem_flatMap, List.mem_range, List.mem_map] at hp
  rcases hp with ⟨j, hj, y, hy, rfl⟩ | ⟨y, hy, rfl⟩
  · exact ⟨by simp, .inl ⟨by simp only; omega, hy⟩⟩
  · exact ⟨h, .inr ⟨rfl, hy⟩⟩
def seenX (P : Nat → Nat → Nat) (l : List (Nat × Nat)) (x : Nat) : Bool := l.any fun p => decide (P p.1 p.2 ≠ 0) && decide (P p.1 p.2 = x)
def cntX (P : Nat → Nat → Nat) (l : List (Nat × Nat)) : Nat := (l.filter fun p => decide (P p.1 p.2 ≠ 0)).length
theorem seenX_snoc {P : Nat → Nat → Nat} {l : List (Nat × Nat)} {i k x : Nat} (h0 : P i k ≠ 0) : seenX P (l ++ [(i, k)]) x = (seenX P l x || decide (P i k = x)) := by
  simp [seenX, h0]
theorem seenX_zero {P : Nat → Nat → Nat} {l : List (Nat × Nat)} {i k : Nat} (h0 : P i k = 0) : seenX P (l ++ [(i, k)]) = seenX P l := by
  funext x; simp [seenX, h0]
theorem cntX_snoc {P : Nat → Nat → Nat} {l : List (Nat × Nat)} {i k : Nat} (h0 : P i k ≠ 0) : cntX P (l ++ [(i, k)]) = cntX P l + 1 := by
  simp [cntX, h0]
theorem cntX_zero {P : Nat → Nat → Nat} {l : List (Nat × Nat)} {i k : Nat} (h0 : P i k = 0) : cntX P (l ++ [(i, k)]) = cntX P l := by
  simp [cntX, h0]
theorem cntX_le (P : Nat → Nat → Nat) (l : List (Nat × Nat)) : cntX P l ≤ l.length := List.length_filter_le _ _

section
variable {c : Cf} {ns : Nds} {f : Dsk}
def lp (c : Cf) (f : Dsk) (ns : Nds) (i y : Nat) : Nat := ptr c f (ns i) (leaf y)
theorem lp_rng {i y : Nat} (h : lp c f ns i y ≠ 0) : c.dt ≤ lp c f ns i y ∧ lp c f ns i y < c.B := ptr_rng h
theorem unseen (h : FI c ns f) {i k : Nat} (hi : 1 ≤ i) (hN : i < c.N) (hk : k < 4166) (h0 : lp c f ns i k ≠ 0) : seenX (lp c f ns) (askL i k) (lp c f ns i k) = false := by
  rw [Bool.eq_false_iff]
  intro hs
  simp only [seenX, List.any_eq_true, Bool.and_eq_true, decide_eq_true_eq] at hs
  obtain ⟨p, hp, hp0, he⟩ := hs
  obtain ⟨h1, h2⟩ := askL_mem hi hp
  have hpN : p.1 < c.N := by omega
  have hp2 : p.2 < 4166 := by omega
  obtain ⟨e1, e2⟩ := h.di.one hN hpN (leaf_ok hk) (leaf_ok hp2) h0 he
  have := leaf_inj e2
  omega
theorem cnt_all (h : FI c ns f) (k : c.OK) {N : Nat} (hN : c.N = N + 1) : cntX (lp c f ns) (askL (N + 1) 0) + vFree c f ≤ c.B - c.dt := by
  have hf := h.free k
  have hone : ∀ i, ((List.range 4166).filter fun y => decide (lp c f ns i y ≠ 0)).length ≤ costS (has c f (ns i)) := fun i => by
    have := count_cost (has c f (ns i))
    have e : (List.range 4166).filter (fun y => decide (lp c f ns i y ≠ 0)) = (List.range 4166).filter (has c f (ns i)) := by
      refine List.filter_congr fun y _ => ?_
      cases hh : has c f (ns i) y with
      | true => exact decide_eq_true (has_iff.1 hh)
      | false =>
        have : ¬ lp c f ns i y ≠ 0 := fun hc => by rw [has_iff.2 hc] at hh; cases hh
        simpa using this
    rw [e]; exact this
  have hsum : ∀ m, cntX (lp c f ns) (askL (m + 1) 0) ≤ sumN (m + 1) fun j => costS (has c f (ns j)) := by
    intro m
    induction m with
    | zero => simp [askL, cntX]
    | succ m ih =>
      rw [askL_next (by omega), sumN_succ]
      have e : askL (m + 1) 4166 = askL (m + 1) 0 ++ (List.range 4166).map fun y => (m + 1, y) := by simp [askL]
      rw [e]
      have e2 : cntX (lp c f ns) (askL (m + 1) 0 ++ (List.range 4166).map fun y => (m + 1, y)) = cntX (lp c f ns) (askL (m + 1) 0) + ((List.range 4166).filter fun y => decide (lp c f ns (m + 1) y ≠ 0)).length := by
        simp only [cntX, List.filter_append, List.length_append, List.filter_map, List.length_map]
        rfl
      have := hone (m + 1)
      omega
  have := hsum N
  rw [hN] at hf
  omega
end
end Go.Proofs.Ytgcoipcnhmkeaaa.Ax
end

/-! FileApart: the law's walk (printed by tools/gen_law15.py) -/
section
set_option linter.unusedVariables false
set_option linter.unusedSimpArgs false
namespace Go.Proofs.Ytgcoipcnhmkeaaa.Ax
open Go.RowKit
set_option maxRecDepth 100000

theorem hideL {C : Cx} {Q : Post} {b : Code} {ks : List Fr} {e : Env} {h : AH} (w : ∀ Q' K, Q' = Q → K = ks → LoopK C Q' b K e h) : LoopK C Q b ks e h := w Q ks rfl rfl

def StX (LENN : Nat) (v : AV) (e' : Env) (h' : AH) : Prop := e'.length = LENN ∧ ∃ R, VIs h' R c0 base0 base0 none ∧ (e'.getD 0 .undef = v ∧ e'.getD 4 .undef = .ptr (some (.new R.kv 0)) ∧ e'.getD 5 .undef = .int .i64 0)
def SetI (LENN : Nat) (v : AV) (m : Nat) (e' : Env) (h' : AH) : Prop :=
  e'.length = LENN ∧ ∃ (i : Nat) (R : VR) (f : Dsk) (w : Option Dsk), i + m = 4 ∧ 1 ≤ i ∧ VIs h' R c0 base0 f w ∧ FI c0 (nsI i) f ∧ (e'.getD 0 .undef = v ∧ e'.getD 4 .undef = .ptr (some (.new R.kv 0)) ∧ e'.getD 6 .undef = .int .i64 i)

def seenC (g : Nat → Bool) : List AV := (List.range 40).map fun x => .bool (g x)
theorem seenC_at {g : Nat → Bool} {x : Nat} (hx : x < 40) : (seenC g)[x]? = some (.bool (g x)) := by simp [seenC, hx]
theorem seenC_set {g : Nat → Bool} {x : Nat} (hx : x < 40) : (seenC g).set x (.bool true) = seenC fun y => g y || decide (x = y) := by
  refine List.ext_getElem? fun y => ?_
  by_cases hy : y < 40
  · by_cases e : x = y
    · subst e; simp [seenC, hx]
    · simp [seenC, hy, e, List.getElem?_set_ne]
  · rw [List.getElem?_eq_none (by simp [seenC]; omega), List.getElem?_eq_none (by simp [seenC]; omega)]
theorem alloc_seen {W : World} {h : AH} : aAlloc (CC W) h 51 = some (.ptr (some (.new h.next 0)), h.push (.cells (seenC fun _ => false) 51)) := rfl
theorem idx_seen {W : World} {k x : Nat} (hx : x < 40) : aIndexAddr (CC W) 51 (.ptr (some (.new k 0))) (.int .i64 (x : Int)) = some (.ptr (some (.new k x))) := by
  have hk : (CC W).kind 51 = .array 40 4 := rfl
  simp only [aIndexAddr, hk, size4]
  rw [if_pos (by omega)]
  simp [AA.add]
theorem ld_seen {W : World} {h : AH} {k x : Nat} {g : Nat → Bool} {t : TypeId} (hg : h.get k = some (.cells (seenC g) t)) (hx : x < 40) : aLoad (CC W) h 4 (.new k x) = some (.bool (g x)) := by
  simp only [aLoad, ty4]
  show aCell (CC W) h (.new k x) = _
  simp only [aCell, hg, seenC_at hx]
theorem st_seen {W : World} {h : AH} {k x : Nat} {g : Nat → Bool} {t : TypeId} (hg : h.get k = some (.cells (seenC g) t)) (hx : x < 40) : aStoreOp (CC W) h 4 (.ptr (some (.new k x))) (.bool true) = some (h.set k (.cells (seenC fun y => g y || decide (x = y)) t)) := by
  simp only [aStoreOp, aCellsOf, size4, aStore, hg]
  have hl : (seenC g).length = 40 := by simp [seenC]
  rw [if_pos (by rfl), if_pos ⟨by simp; omega, by rfl⟩]
  congr 4
  rw [← seenC_set hx]
  rw [List.set_eq_take_append_cons_drop, if_pos (by omega)]
  simp [overlay]
def StpI (LENN : Nat) (v : AV) (l : List Stp) (m : Nat) (e' : Env) (h' : AH) : Prop :=
  e'.length = LENN ∧ ∃ (i : Nat) (R : VR) (f : Dsk) (w : Option Dsk) (ns : Nds), i + m = l.length ∧ VIs h' R c0 base0 f w ∧ FI c0 ns f ∧ ns 0 = Ino.zero ∧ (e'.getD 4 .undef = .ptr (some (.new R.kv 0)) ∧ e'.getD 51 .undef = v ∧ e'.getD 52 .undef = .int .i64 l.length ∧ e'.getD 53 .undef = .int .i64 i)
def ApO (hB : AH) (R : VR) (f : Dsk) (ns : Nds) (ks : Nat) (m : Nat) (e' : Env) (h' : AH) : Prop :=
  e'.length = 127 ∧ ∃ (i : Nat), i + m = 4 ∧ 1 ≤ i ∧ Keeps hB h' ∧ ks < h'.next ∧ h'.get ks = some (.cells (seenC (seenX (lp c0 f ns) (askL i 0))) 51) ∧ (e'.getD 4 .undef = .ptr (some (.new R.kv 0)) ∧ e'.getD 9 .undef = .ptr (some (.new ks 0)) ∧ e'.getD 10 .undef = .int .i64 (cntX (lp c0 f ns) (askL i 0)) ∧ e'.getD 11 .undef = .int .i64 i)
def ApN (hB : AH) (R : VR) (f : Dsk) (ns : Nds) (ks i : Nat) (m : Nat) (e' : Env) (h' : AH) : Prop :=
  e'.length = 127 ∧ ∃ (k : Nat), k + m = 4166 ∧ Keeps hB h' ∧ ks < h'.next ∧ h'.get ks = some (.cells (seenC (seenX (lp c0 f ns) (askL i k))) 51) ∧ (e'.getD 4 .undef = .ptr (some (.new R.kv 0)) ∧ e'.getD 9 .undef = .ptr (some (.new ks 0)) ∧ e'.getD 10 .undef = .int .i64 (cntX (lp c0 f ns) (askL i k)) ∧ e'.getD 11 .undef = .int .i64 i ∧ e'.getD 12 .undef = .int .i64 k)
theorem seen_none (P : Nat → Nat → Nat) : seenX P (askL 1 0) = fun _ => false := by funext x; rfl
theorem askL_len (i k : Nat) : (askL i k).length = (i - 1) * 4166 + k := by
  simp only [askL, List.length_append, List.length_map, List.length_range, List.length_flatMap]
  congr 1
  have : ∀ n, ((List.range n).map fun _ => 4166).sum = n * 4166 := by
    intro n
    induction n with
    | zero => rfl
    | succ n ih => rw [List.range_succ, List.map_append, List.sum_append, ih]; simp; omega
  exact this _

set_option maxHeartbeats 16000000 in
theorem apart_walk (W : World) (v : AV) (l : List Stp) (hv : ∀ h0, BSl W h0 35 16 StpP v l) :
    ACall (CC W) 5 [v] AH.empty (fun w _ => w = .bool true) (fun _ _ => False) := by
  refine jj9 (cc_ok W) (fn5 W) (by simp only [Try.f5]; rfl) rfl rfl ?_
  generalize AH.empty = h
  have hlen := fun h2 => (hv h).lenA (T := 25) (kind25 W) h2
  simp [push_cast]
  refine callK_RetVk (by simp [fn18]) (little_ret W h) fun h1 hk1 => ?_
  have hal := shape_alloc (W := W) (h := h1)
  have hg2 : (h1.push (.cells [.int .i64 0, .int .i64 0, .int .i64 0] 23)).get h1.next = some (.cells [.int .i64 0, .int .i64 0, .int .i64 0] 23) := by simp
  have hn2 : h1.next < (h1.push (.cells [.int .i64 0, .int .i64 0, .int .i64 0] 23)).next := by simp
  generalize h1.push (.cells [.int .i64 0, .int .i64 0, .int .i64 0] 23) = h2 at hal hg2 hn2
  generalize h1.next = ks at hal hg2 hn2
  have hst := shape_store (W := W) hg2
  have hg3 : (h2.set ks (.cells [.int .i64 40, .int .i64 20, .int .i64 4] 23)).get ks = some (.cells [.int .i64 40, .int .i64 20, .int .i64 4] 23) := by simp
  have hn3 : ks < (h2.set ks (.cells [.int .i64 40, .int .i64 20, .int .i64 4] 23)).next := by simpa using hn2
  generalize h2.set ks (.cells [.int .i64 40, .int .i64 20, .int .i64 4] 23) = h3 at hst hg3 hn3
  simp [push_cast, hal, hst]
  refine wc_cut (StX 127 v) ?_ ?_
  · refine drawSd [[0, 1, 2, 3, 4, 5, 6, 7, 8]] (by kernel_rfl) (by kernel_rfl) ?_
    intro L hL
    simp only [List.mem_cons, List.not_mem_nil, or_false] at hL
    subst hL
    simp [push_cast, zx9, zy9, SgO, opA, isE, isRead, ld_shape hg3]
    refine jb9 (f := 19) (args := [.agg [.int .i64 40, .int .i64 20, .int .i64 4]]) (by rfl) (by rfl) (by rfl) (by simp [fn19]) (blank_ret W h3 40 (by omega) 20 4) ?_
    intro w h4 ho
    have hg4 := (ho.1.2 ks hn3).trans hg3
    have hsb := ho.strB (W := W)
    refine ⟨?_, ?_⟩
    · simp [zz9, ja9, push_cast, opA, ld_shape hg4]
    simp [push_cast, zx9, zy9, SgO, opA, isE, isRead]
    refine jb9 (f := 11) (args := [.agg [.int .i64 40, .int .i64 20, .int .i64 4], w]) (by rfl) (by rfl) (by rfl) (by simp [fn11]) (new0_ret W h4 w hsb) ?_
    rintro w5 h5 ⟨hk5, R, rfl, hv5⟩
    have hg5 := (hk5.2 ks (Nat.lt_of_lt_of_le hn3 ho.1.1)).trans hg4
    refine ⟨?_, ?_⟩
    · simp [zz9, ja9, push_cast, opA, ld_shape hg5]
    simp [push_cast, zx9, zy9, SgO, opA, isE, isRead, thenQ]
    exact ⟨by simp, R, hv5, by simp⟩
  rintro e5 h5 ⟨hlen5, R, hv5, hh⟩
  obtain ⟨a0, a1, a2, a3, a4, a5, a6, a7, a8, a9, rS0, rfl, hS0⟩ := un10 hlen5
  obtain ⟨a10, a11, a12, a13, a14, a15, a16, a17, a18, a19, rS10, rfl, hS10⟩ := un10 hS0
  obtain ⟨a20, a21, a22, a23, a24, a25, a26, a27, a28, a29, rS20, rfl, hS20⟩ := un10 hS10
  obtain ⟨a30, a31, a32, a33, a34, a35, a36, a37, a38, a39, rS30, rfl, hS30⟩ := un10 hS20
  obtain ⟨a40, a41, a42, a43, a44, a45, a46, a47, a48, a49, rS40, rfl, hS40⟩ := un10 hS30
  obtain ⟨a50, a51, a52, a53, a54, a55, a56, a57, a58, a59, rS50, rfl, hS50⟩ := un10 hS40
  obtain ⟨a60, a61, a62, a63, a64, a65, a66, a67, a68, a69, rS60, rfl, hS60⟩ := un10 hS50
  obtain ⟨a70, a71, a72, a73, a74, a75, a76, a77, a78, a79, rS70, rfl, hS70⟩ := un10 hS60
  obtain ⟨a80, a81, a82, a83, a84, a85, a86, a87, a88, a89, rS80, rfl, hS80⟩ := un10 hS70
  obtain ⟨a90, a91, a92, a93, a94, a95, a96, a97, a98, a99, rS90, rfl, hS90⟩ := un10 hS80
  obtain ⟨a100, a101, a102, a103, a104, a105, a106, a107, a108, a109, rS100, rfl, hS100⟩ := un10 hS90
  obtain ⟨a110, a111, a112, a113, a114, a115, a116, a117, a118, a119, rS110, rfl, hS110⟩ := un10 hS100
  obtain ⟨a120, rS120, rfl, hS120⟩ := un1 hS110
  obtain ⟨a121, rS121, rfl, hS121⟩ := un1 hS120
  obtain ⟨a122, rS122, rfl, hS122⟩ := un1 hS121
  obtain ⟨a123, rS123, rfl, hS123⟩ := un1 hS122
  obtain ⟨a124, rS124, rfl, hS124⟩ := un1 hS123
  obtain ⟨a125, rS125, rfl, hS125⟩ := un1 hS124
  obtain ⟨a126, rS126, rfl, hS126⟩ := un1 hS125
  obtain rfl := un0 hS126
  clear hlen5 hS0 hS10 hS20 hS30 hS40 hS50 hS60 hS70 hS80 hS90 hS100 hS110 hS120 hS121 hS122 hS123 hS124 hS125 hS126
  simp at hh
  obtain ⟨hv0, rfl, rfl⟩ := hh
  have hv1 := hv0.symm
  subst hv1
  clear hg3 hn3 hst hal hg2 hn2 hk1
  by_cases hlong : 100 < l.length
  · have hl' : (100 : Int) < (l.length : Int) := by omega
    simp [push_cast, aEq, kind26, kindEq1, aEq1, hlen, hl']
    refine jh9 (by simp [fn12]) (speaks15_ret W h5) ?_
    simp [push_cast]
  have hl' : ¬ (100 : Int) < (l.length : Int) := by omega
  simp [push_cast, aEq, kind26, kindEq1, aEq1, hlen, hl']
  refine hideL fun Q1 K1 hQ1 hK1 => ?_
  refine loopN (cc_ok W) (SetI 127 v) 3 ⟨by simp, 1, R, base0, none, by omega, by omega, hv5, fi0, by simp⟩ ?_
  clear hv5
  rintro m e' h' ⟨hlen', i, R, f, w, him, hi1, hvis, hfi, hh⟩
  obtain ⟨a0, a1, a2, a3, a4, a5, a6, a7, a8, a9, rS0, rfl, hS0⟩ := un10 hlen'
  obtain ⟨a10, a11, a12, a13, a14, a15, a16, a17, a18, a19, rS10, rfl, hS10⟩ := un10 hS0
  obtain ⟨a20, a21, a22, a23, a24, a25, a26, a27, a28, a29, rS20, rfl, hS20⟩ := un10 hS10
  obtain ⟨a30, a31, a32, a33, a34, a35, a36, a37, a38, a39, rS30, rfl, hS30⟩ := un10 hS20
  obtain ⟨a40, a41, a42, a43, a44, a45, a46, a47, a48, a49, rS40, rfl, hS40⟩ := un10 hS30
  obtain ⟨a50, a51, a52, a53, a54, a55, a56, a57, a58, a59, rS50, rfl, hS50⟩ := un10 hS40
  obtain ⟨a60, a61, a62, a63, a64, a65, a66, a67, a68, a69, rS60, rfl, hS60⟩ := un10 hS50
  obtain ⟨a70, a71, a72, a73, a74, a75, a76, a77, a78, a79, rS70, rfl, hS70⟩ := un10 hS60
  obtain ⟨a80, a81, a82, a83, a84, a85, a86, a87, a88, a89, rS80, rfl, hS80⟩ := un10 hS70
  obtain ⟨a90, a91, a92, a93, a94, a95, a96, a97, a98, a99, rS90, rfl, hS90⟩ := un10 hS80
  obtain ⟨a100, a101, a102, a103, a104, a105, a106, a107, a108, a109, rS100, rfl, hS100⟩ := un10 hS90
  obtain ⟨a110, a111, a112, a113, a114, a115, a116, a117, a118, a119, rS110, rfl, hS110⟩ := un10 hS100
  obtain ⟨a120, rS120, rfl, hS120⟩ := un1 hS110
  obtain ⟨a121, rS121, rfl, hS121⟩ := un1 hS120
  obtain ⟨a122, rS122, rfl, hS122⟩ := un1 hS121
  obtain ⟨a123, rS123, rfl, hS123⟩ := un1 hS122
  obtain ⟨a124, rS124, rfl, hS124⟩ := un1 hS123
  obtain ⟨a125, rS125, rfl, hS125⟩ := un1 hS124
  obtain ⟨a126, rS126, rfl, hS126⟩ := un1 hS125
  obtain rfl := un0 hS126
  clear hlen' hS0 hS10 hS20 hS30 hS40 hS50 hS60 hS70 hS80 hS90 hS100 hS110 hS120 hS121 hS122 hS123 hS124 hS125 hS126
  simp at hh
  obtain ⟨hv0, rfl, rfl⟩ := hh
  have hv1 := hv0.symm
  subst hv1
  by_cases hlt : i < 4
  · have hlt' : (i : Int) < 4 := by omega
    have wi : IntKind.i64.wrap ((i : Int) + 1) = (i : Int) + 1 := wrap64 (by omega) (by omega)
    obtain ⟨f', e1, hf'⟩ := set_one hfi hi1 hlt
    have hset := vw_set (W := W) hvis (i : Int) (bare 1 1) rfl
    rw [e1] at hset
    simp [push_cast, hlt', build_file1]
    refine callK_Vw (by simp [fn16]) hset fun h6 v6 _ => ?_
    simp [push_cast, wi]
    exact ⟨m - 1, by omega, by simp, i + 1, R, f', w, by omega, by omega, v6, hf', by simp⟩
  have hlt' : ¬ (i : Int) < 4 := by omega
  have hi4 : i = 4 := by omega
  subst hi4
  simp [push_cast]
  subst hQ1 hK1
  simp [push_cast, hlen]
  refine hideL fun Q2 K2 hQ2 hK2 => ?_
  refine loopN (cc_ok W) (StpI 127 v l) l.length ⟨by simp, 0, R, f, w, nsI 4, by simp, hvis, hfi, by decide, by simp⟩ ?_
  clear hvis hfi
  rintro m e' h' ⟨hlen', i, R, f, w, ns, him, hvis, hfi, hz, hh⟩
  obtain ⟨a0, a1, a2, a3, a4, a5, a6, a7, a8, a9, rS0, rfl, hS0⟩ := un10 hlen'
  obtain ⟨a10, a11, a12, a13, a14, a15, a16, a17, a18, a19, rS10, rfl, hS10⟩ := un10 hS0
  obtain ⟨a20, a21, a22, a23, a24, a25, a26, a27, a28, a29, rS20, rfl, hS20⟩ := un10 hS10
  obtain ⟨a30, a31, a32, a33, a34, a35, a36, a37, a38, a39, rS30, rfl, hS30⟩ := un10 hS20
  obtain ⟨a40, a41, a42, a43, a44, a45, a46, a47, a48, a49, rS40, rfl, hS40⟩ := un10 hS30
  obtain ⟨a50, a51, a52, a53, a54, a55, a56, a57, a58, a59, rS50, rfl, hS50⟩ := un10 hS40
  obtain ⟨a60, a61, a62, a63, a64, a65, a66, a67, a68, a69, rS60, rfl, hS60⟩ := un10 hS50
  obtain ⟨a70, a71, a72, a73, a74, a75, a76, a77, a78, a79, rS70, rfl, hS70⟩ := un10 hS60
  obtain ⟨a80, a81, a82, a83, a84, a85, a86, a87, a88, a89, rS80, rfl, hS80⟩ := un10 hS70
  obtain ⟨a90, a91, a92, a93, a94, a95, a96, a97, a98, a99, rS90, rfl, hS90⟩ := un10 hS80
  obtain ⟨a100, a101, a102, a103, a104, a105, a106, a107, a108, a109, rS100, rfl, hS100⟩ := un10 hS90
  obtain ⟨a110, a111, a112, a113, a114, a115, a116, a117, a118, a119, rS110, rfl, hS110⟩ := un10 hS100
  obtain ⟨a120, rS120, rfl, hS120⟩ := un1 hS110
  obtain ⟨a121, rS121, rfl, hS121⟩ := un1 hS120
  obtain ⟨a122, rS122, rfl, hS122⟩ := un1 hS121
  obtain ⟨a123, rS123, rfl, hS123⟩ := un1 hS122
  obtain ⟨a124, rS124, rfl, hS124⟩ := un1 hS123
  obtain ⟨a125, rS125, rfl, hS125⟩ := un1 hS124
  obtain ⟨a126, rS126, rfl, hS126⟩ := un1 hS125
  obtain rfl := un0 hS126
  clear hlen' hS0 hS10 hS20 hS30 hS40 hS50 hS60 hS70 hS80 hS90 hS100 hS110 hS120 hS121 hS122 hS123 hS124 hS125 hS126
  simp at hh
  obtain ⟨rfl, rfl, rfl, rfl⟩ := hh
  by_cases hlt : i < l.length
  · have hlt' : (i : Int) < (l.length : Int) := by omega
    have wi : IntKind.i64.wrap ((i : Int) + 1) = (i : Int) + 1 := wrap64 (by omega) (by omega)
    obtain ⟨s, hs⟩ : ∃ s, l[i]? = some s := ⟨l[i], by simp [hlt]⟩
    obtain ⟨a', u, hix, ⟨rfl, hok⟩, hld⟩ := (hv h').at (T := 25) (kind25 W) (size35 W) hs
    have hld' := hld h' (Keeps.refl _)
    have hal := alloc_stp (W := W) (h := h')
    have hg2 : (h'.push (.cells stp0 35)).get h'.next = some (.cells stp0 35) := by simp
    have hk2 := Keeps.push h' (.cells stp0 35)
    generalize h'.push (.cells stp0 35) = h2' at hal hg2 hk2
    have hst := st_stp (W := W) (s := s) hg2 rfl
    have hk3 := hk2.set (Nat.le_refl _) (.cells s.cells 35)
    have hg3 : (h2'.set h'.next (.cells s.cells 35)).get h'.next = some (.cells s.cells 35) := by simp
    generalize h2'.set h'.next (.cells s.cells 35) = h3 at hst hk3 hg3
    have v3 := hvis.keeps hk3
    generalize h'.next = k10 at *
    generalize hcs : AV.agg s.cells = cv at *
    obtain ⟨q0, q1, q2, q4⟩ := stp_lds (W := W) hg3
    obtain ⟨i1, i2, a1, a2, dl⟩ := hok
    generalize s.kd = kd at q0
    generalize s.i = si at q1 i1 i2
    generalize s.at_ = sa at q2 a1 a2
    generalize s.data = sd at q4 dl
    by_cases k0 : kd = 0 ∨ kd = 1
    · have hw := vw_write (W := W) v3 si sa sd a1 a2 dl
      obtain ⟨ns', hfi', hns'⟩ := write_any c0_ok hfi si sa sd
      have hz' : ns' 0 = Ino.zero := by rw [(hns' 0 (by decide)).2 (by rw [hz]; rfl), hz]
      rcases k0 with rfl | rfl
      · simp [push_cast, hlt, hlt', hix, hld', hal, hst, fa35_0, fa35_1, fa35_2, fa35_4, q0, q1, q2, q4]
        refine callK_Vm (by simp [fn14]) hw fun R5 w5 h5 v5 m5 => ?_
        simp [push_cast, wi]
        exact ⟨m - 1, by omega, by simp, i + 1, R5, _, w5, ns', by omega, v5, hfi', hz', by simp [m5.kv]⟩
      · simp [push_cast, hlt, hlt', hix, hld', hal, hst, fa35_0, fa35_1, fa35_2, fa35_4, q0, q1, q2, q4]
        refine callK_Vm (by simp [fn14]) hw fun R5 w5 h5 v5 m5 => ?_
        simp [push_cast, wi]
        exact ⟨m - 1, by omega, by simp, i + 1, R5, _, w5, ns', by omega, v5, hfi', hz', by simp [m5.kv]⟩
    · have k01 : ¬ kd = 0 := fun e => k0 (.inl e)
      have k02 : ¬ kd = 1 := fun e => k0 (.inr e)
      by_cases k2 : kd = 2
      · have hw := vw_cut (W := W) v3 si sa
        obtain ⟨ns', hfi', hns'⟩ := cut_any c0_ok hfi si sa
        have hz' : ns' 0 = Ino.zero := by rw [(hns' 0 (by decide)).2 (by rw [hz]; rfl), hz]
        subst k2
        simp [push_cast, hlt, hlt', hix, hld', hal, hst, fa35_0, fa35_1, fa35_2, q0, q1, q2]
        refine callK_Vm (by simp [fn15]) hw fun R5 w5 h5 v5 m5 => ?_
        simp [push_cast, wi]
        exact ⟨m - 1, by omega, by simp, i + 1, R5, _, w5, ns', by omega, v5, hfi', hz', by simp [m5.kv]⟩
      · simp [push_cast, hlt, hlt', hix, hld', hal, hst, fa35_0, q0, k01, k02, k2, wi]
        exact ⟨m - 1, by omega, by simp, i + 1, R, f, w, ns, by omega, v3, hfi, hz, by simp⟩
  have hlt' : ¬ (i : Int) < (l.length : Int) := by omega
  simp [push_cast, hlt, hlt']
  subst hQ2 hK2
  have hal := alloc_seen (W := W) (h := h')
  have hkA := Keeps.push h' (.cells (seenC fun _ => false) 51)
  have hgA : (h'.push (.cells (seenC fun _ => false) 51)).get h'.next = some (.cells (seenC fun _ => false) 51) := by simp
  have hnA : h'.next < (h'.push (.cells (seenC fun _ => false) 51)).next := by simp
  rw [← seen_none (lp c0 f ns)] at hal hkA hgA hnA
  generalize h'.push (.cells (seenC (seenX (lp c0 f ns) (askL 1 0))) 51) = hA at hal hkA hgA hnA
  have hks : h'.next ≤ h'.next := Nat.le_refl _
  generalize hkse : h'.next = ks at hal hgA hnA hks
  simp [push_cast, hal]
  refine hideL fun Q3 K3 hQ3 hK3 => ?_
  refine loopN (cc_ok W) (ApO h' R f ns ks) 3 ⟨by simp, 1, by omega, by omega, hkA, hnA, hgA, by simp; rfl⟩ ?_
  clear hkA hgA hnA hal
  rintro m2 e2 h2 ⟨hlen2, j, hjm, hj1, hk2, hn2, hg2, hh⟩
  obtain ⟨a0, a1, a2, a3, a4, a5, a6, a7, a8, a9, rS0, rfl, hS0⟩ := un10 hlen2
  obtain ⟨a10, a11, a12, a13, a14, a15, a16, a17, a18, a19, rS10, rfl, hS10⟩ := un10 hS0
  obtain ⟨a20, a21, a22, a23, a24, a25, a26, a27, a28, a29, rS20, rfl, hS20⟩ := un10 hS10
  obtain ⟨a30, a31, a32, a33, a34, a35, a36, a37, a38, a39, rS30, rfl, hS30⟩ := un10 hS20
  obtain ⟨a40, a41, a42, a43, a44, a45, a46, a47, a48, a49, rS40, rfl, hS40⟩ := un10 hS30
  obtain ⟨a50, a51, a52, a53, a54, a55, a56, a57, a58, a59, rS50, rfl, hS50⟩ := un10 hS40
  obtain ⟨a60, a61, a62, a63, a64, a65, a66, a67, a68, a69, rS60, rfl, hS60⟩ := un10 hS50
  obtain ⟨a70, a71, a72, a73, a74, a75, a76, a77, a78, a79, rS70, rfl, hS70⟩ := un10 hS60
  obtain ⟨a80, a81, a82, a83, a84, a85, a86, a87, a88, a89, rS80, rfl, hS80⟩ := un10 hS70
  obtain ⟨a90, a91, a92, a93, a94, a95, a96, a97, a98, a99, rS90, rfl, hS90⟩ := un10 hS80
  obtain ⟨a100, a101, a102, a103, a104, a105, a106, a107, a108, a109, rS100, rfl, hS100⟩ := un10 hS90
  obtain ⟨a110, a111, a112, a113, a114, a115, a116, a117, a118, a119, rS110, rfl, hS110⟩ := un10 hS100
  obtain ⟨a120, rS120, rfl, hS120⟩ := un1 hS110
  obtain ⟨a121, rS121, rfl, hS121⟩ := un1 hS120
  obtain ⟨a122, rS122, rfl, hS122⟩ := un1 hS121
  obtain ⟨a123, rS123, rfl, hS123⟩ := un1 hS122
  obtain ⟨a124, rS124, rfl, hS124⟩ := un1 hS123
  obtain ⟨a125, rS125, rfl, hS125⟩ := un1 hS124
  obtain ⟨a126, rS126, rfl, hS126⟩ := un1 hS125
  obtain rfl := un0 hS126
  clear hlen2 hS0 hS10 hS20 hS30 hS40 hS50 hS60 hS70 hS80 hS90 hS100 hS110 hS120 hS121 hS122 hS123 hS124 hS125 hS126
  simp at hh
  obtain ⟨rfl, rfl, rfl, rfl⟩ := hh
  by_cases hjlt : j < 4
  · have hjlt' : (j : Int) < 4 := by omega
    have wj : IntKind.i64.wrap ((j : Int) + 1) = (j : Int) + 1 := wrap64 (by omega) (by omega)
    simp [push_cast, hjlt']
    refine hideL fun Q4 K4 hQ4 hK4 => ?_
    refine loopN (cc_ok W) (ApN h' R f ns ks j) 4166 ⟨by simp, 0, by omega, hk2, hn2, hg2, by simp⟩ ?_
    clear hk2 hn2 hg2
    rintro m3 e3 h3 ⟨hlen3, k, hkm, hk3, hn3, hg3, hh⟩
    obtain ⟨a0, a1, a2, a3, a4, a5, a6, a7, a8, a9, rS0, rfl, hS0⟩ := un10 hlen3
    obtain ⟨a10, a11, a12, a13, a14, a15, a16, a17, a18, a19, rS10, rfl, hS10⟩ := un10 hS0
    obtain ⟨a20, a21, a22, a23, a24, a25, a26, a27, a28, a29, rS20, rfl, hS20⟩ := un10 hS10
    obtain ⟨a30, a31, a32, a33, a34, a35, a36, a37, a38, a39, rS30, rfl, hS30⟩ := un10 hS20
    obtain ⟨a40, a41, a42, a43, a44, a45, a46, a47, a48, a49, rS40, rfl, hS40⟩ := un10 hS30
    obtain ⟨a50, a51, a52, a53, a54, a55, a56, a57, a58, a59, rS50, rfl, hS50⟩ := un10 hS40
    obtain ⟨a60, a61, a62, a63, a64, a65, a66, a67, a68, a69, rS60, rfl, hS60⟩ := un10 hS50
    obtain ⟨a70, a71, a72, a73, a74, a75, a76, a77, a78, a79, rS70, rfl, hS70⟩ := un10 hS60
    obtain ⟨a80, a81, a82, a83, a84, a85, a86, a87, a88, a89, rS80, rfl, hS80⟩ := un10 hS70
    obtain ⟨a90, a91, a92, a93, a94, a95, a96, a97, a98, a99, rS90, rfl, hS90⟩ := un10 hS80
    obtain ⟨a100, a101, a102, a103, a104, a105, a106, a107, a108, a109, rS100, rfl, hS100⟩ := un10 hS90
    obtain ⟨a110, a111, a112, a113, a114, a115, a116, a117, a118, a119, rS110, rfl, hS110⟩ := un10 hS100
    obtain ⟨a120, rS120, rfl, hS120⟩ := un1 hS110
    obtain ⟨a121, rS121, rfl, hS121⟩ := un1 hS120
    obtain ⟨a122, rS122, rfl, hS122⟩ := un1 hS121
    obtain ⟨a123, rS123, rfl, hS123⟩ := un1 hS122
    obtain ⟨a124, rS124, rfl, hS124⟩ := un1 hS123
    obtain ⟨a125, rS125, rfl, hS125⟩ := un1 hS124
    obtain ⟨a126, rS126, rfl, hS126⟩ := un1 hS125
    obtain rfl := un0 hS126
    clear hlen3 hS0 hS10 hS20 hS30 hS40 hS50 hS60 hS70 hS80 hS90 hS100 hS110 hS120 hS121 hS122 hS123 hS124 hS125 hS126
    simp at hh
    obtain ⟨rfl, rfl, rfl, rfl, rfl⟩ := hh
    by_cases hklt : k < 4166
    · have hklt' : (k : Int) < 4166 := by omega
      have wk : IntKind.i64.wrap ((k : Int) + 1) = (k : Int) + 1 := wrap64 (by omega) (by omega)
      have hat := vw_at (W := W) (hvis.keeps hk3) (j : Int) (k : Int)
      have hjN : j < c0.N := hjlt
      rw [at_law hfi hjN hklt] at hat
      have hun := unseen hfi hj1 hjN hklt
      have hrg := lp_rng (c := c0) (f := f) (ns := ns) (i := j) (y := k)
      have hs0 := seenX_zero (P := lp c0 f ns) (l := askL j k) (i := j) (k := k)
      have hs1 := fun x => seenX_snoc (P := lp c0 f ns) (l := askL j k) (i := j) (k := k) (x := x)
      have hc0 := cntX_zero (P := lp c0 f ns) (l := askL j k) (i := j) (k := k)
      have hc1 := cntX_snoc (P := lp c0 f ns) (l := askL j k) (i := j) (k := k)
      have hcl : cntX (lp c0 f ns) (askL j k) ≤ 20000 := by
        have := cntX_le (lp c0 f ns) (askL j k)
        rw [askL_len] at this
        omega
      rw [← askL_succ] at hs0 hc0 hc1
      simp only [← askL_succ] at hs1
      have hlp : ptr c0 f (ns j) (leaf k) = lp c0 f ns j k := rfl
      rw [hlp] at hat
      generalize lp c0 f ns j k = p at hat hun hrg hs0 hs1 hc0 hc1
      simp [push_cast, hklt']
      refine callK_RetVk (by simp [fn22]) hat fun h5 hk5 => ?_
      have hk35 := hk3.trans hk5
      have hg5 := (hk5.2 ks hn3).trans hg3
      have hn5 : ks < h5.next := Nat.lt_of_lt_of_le hn3 hk5.1
      by_cases hp : p = 0
      · subst hp
        simp [push_cast, wk]
        exact ⟨m3 - 1, by omega, by simp, k + 1, by omega, hk35, hn5, by rw [hs0 rfl]; exact hg5, by simp; rw [hc0 rfl]⟩
      · obtain ⟨hr1, hr2⟩ := hrg hp
        have hr2 : p < 40 := hr2
        have g1 : ¬ (p : Int) < 0 := by omega
        have g2 : ¬ (40 : Int) ≤ (p : Int) := by omega
        have g3 : (0 : Int) < (p : Int) := by omega
        have g3' : 0 < p := by omega
        have g2' : ¬ 40 ≤ p := by omega
        have hld := ld_seen (W := W) hg5 hr2
        rw [hun hp] at hld
        have hst := st_seen (W := W) hg5 hr2
        have hix := idx_seen (W := W) (k := ks) hr2
        have wc : IntKind.i64.wrap ((cntX (lp c0 f ns) (askL j k) : Int) + 1) = (cntX (lp c0 f ns) (askL j k) : Int) + 1 := wrap64 (by omega) (by omega)
        have hg6 : (h5.set ks (.cells (seenC fun y => seenX (lp c0 f ns) (askL j k) y || decide (p = y)) 51)).get ks = some (.cells (seenC fun y => seenX (lp c0 f ns) (askL j k) y || decide (p = y)) 51) := by simp
        have hk6 := hk35.set (show h'.next ≤ ks by omega) (.cells (seenC fun y => seenX (lp c0 f ns) (askL j k) y || decide (p = y)) 51)
        have hn6 : ks < (h5.set ks (.cells (seenC fun y => seenX (lp c0 f ns) (askL j k) y || decide (p = y)) 51)).next := by simpa using hn5
        generalize h5.set ks (.cells (seenC fun y => seenX (lp c0 f ns) (askL j k) y || decide (p = y)) 51) = h6 at hst hg6 hk6 hn6
        simp [push_cast, g1, g2, g3, g2', g3', hix, hld, hst, wk, wc]
        exact ⟨m3 - 1, by omega, by simp, k + 1, by omega, hk6, hn6, by rw [hg6]; congr 3; funext y; exact (hs1 y hp).symm, by simp; rw [hc1 hp]; simp⟩
    have hklt' : ¬ (k : Int) < 4166 := by omega
    have hk4 : k = 4166 := by omega
    subst hk4
    simp [push_cast]
    subst hQ4 hK4
    simp [push_cast, wj]
    exact ⟨m2 - 1, by omega, by simp, j + 1, by omega, by omega, hk3, hn3, by rw [askL_next hj1]; exact hg3, by simp; rw [askL_next hj1]⟩
  have hjlt' : ¬ (j : Int) < 4 := by omega
  have hj4 : j = 4 := by omega
  subst hj4
  simp [push_cast]
  subst hQ3 hK3
  have hall := cnt_all hfi c0_ok (N := 3) rfl
  have hfr := vw_free (W := W) (hvis.keeps hk2)
  have hcb : c0.B - c0.dt = 17 := by decide
  rw [hcb] at hall
  generalize vFree c0 f = fr at hall hfr
  have wf : IntKind.i64.wrap (17 - (fr : Int)) = 17 - (fr : Int) := wrap64 (by omega) (by omega)
  have hall : cntX (lp c0 f ns) (askL 4 0) + fr ≤ 17 := hall
  generalize cntX (lp c0 f ns) (askL 4 0) = n at hall hg2
  have g1 : (n : Int) ≤ 17 - (fr : Int) := by omega
  simp [push_cast]
  refine jh9 (by simp [fn21]) hfr ?_
  simp [push_cast, wf, g1]
  refine jh9 (by simp [fn12]) (speaks15_ret W h2) ?_
  simp [push_cast]

theorem apart_law15 (W : World) (v : AV) (hv : ∃ l : List Stp, (∀ h0, BSl W h0 35 16 StpP v l) ∧ l.length ≤ maxLen) :
    ACall (CC W) 5 [v] AH.empty (fun w _ => w = .bool true) (fun _ _ => False) := by
  obtain ⟨l, hv, _⟩ := hv
  exact apart_walk W v l hv
end Go.Proofs.Ytgcoipcnhmkeaaa.Ax
end
