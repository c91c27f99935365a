/- The texts DwJ, DwK, DwL, DwM, as one. -/
import Derived.Test.YtgcoipcnhmkeaaaGha

/-! A view: a block is had, changed, made, let go -/
section
set_option linter.unusedVariables false
set_option linter.unusedSimpArgs false
namespace Go.Proofs.Ytgcoipcnhmkeaaa.Ax
open Go.RowKit

/-- A view's own blocks: itself, its blocks, its changes, its changes ahead of a cut. -/
structure VR where
  kv : Nat
  kb : Nat
  ko : Nat
  kw : Option Nat
/-- A view's cells. -/
def vwC (c : Cf) (bv ov wv : AV) : List AV := [.int .i64 c.B, .int .i64 c.J, .int .i64 c.N, .int .i64 1, .int .i64 c.bm, .int .i64 c.tb, .int .i64 c.dt, .int .i64 ((c.B - c.dt : Nat) : Int), bv, ov, wv]
/-- A view among the own blocks. -/
structure VIs (h : AH) (R : VR) (c : Cf) (base f : Dsk) (w : Option Dsk) : Prop where
  ok : c.OK
  v : ∃ cap gr, h.get R.kv = some (.cells (vwC c (.sl (some (.new R.kb 0)) c.B cap gr) (.map (some R.ko)) (.map R.kw)) 85)
  b : ∃ cs, h.get R.kb = some (.cells cs 9) ∧ ∀ x, x < c.B → cs[x]? = some (.str (base x)) ∧ (base x).length = 128
  o : ∃ g, OvIs h R.ko g ∧ (∀ x, f x = (g x).getD (base x)) ∧ ∀ x b, g x = some b → x < c.B
  w : match R.kw, w with
    | none, none => True
    | some kw, some w => kw < h.next ∧ kw ≠ R.kv ∧ kw ≠ R.kb ∧ kw ≠ R.ko ∧ ∃ g, OvIs h kw g ∧ ∀ x, w x = (g x).getD (base x)
    | _, _ => False
  lv : R.kv < h.next
  lb : R.kb < h.next
  lo : R.ko < h.next
  vb : R.kv ≠ R.kb
  vo : R.kv ≠ R.ko
  bo : R.kb ≠ R.ko
/-- What a change of a view's blocks leaves. -/
def VOff (R : VR) (h h' : AH) : Prop := h.next ≤ h'.next ∧ ∀ k, k < h.next → k ≠ R.ko → h'.get k = h.get k
theorem VOff.refl (R : VR) (h : AH) : VOff R h h := ⟨Nat.le_refl _, fun _ _ _ => rfl⟩
theorem VOff.trans {R : VR} {a b d : AH} (x : VOff R a b) (y : VOff R b d) : VOff R a d := ⟨Nat.le_trans x.1 y.1, fun k hk hne => (y.2 k (Nat.lt_of_lt_of_le hk x.1) hne).trans (x.2 k hk hne)⟩
theorem VOff.of {R : VR} {a b : AH} (k : Keeps a b) : VOff R a b := ⟨k.1, fun j hj _ => k.2 j hj⟩

section
variable {h h' : AH} {R : VR} {c : Cf} {base f : Dsk} {w : Option Dsk}
theorem VIs.frame (v : VIs h R c base f w) (hn : h.next ≤ h'.next) (hk : ∀ k, k < h.next → k = R.kv ∨ k = R.kb ∨ k = R.ko ∨ some k = R.kw → h'.get k = h.get k) : VIs h' R c base f w where
  ok := v.ok
  v := by obtain ⟨cap, gr, e⟩ := v.v; exact ⟨cap, gr, (hk _ v.lv (.inl rfl)).trans e⟩
  b := by obtain ⟨cs, e, e2⟩ := v.b; exact ⟨cs, (hk _ v.lb (.inr (.inl rfl))).trans e, e2⟩
  o := by obtain ⟨g, e, e2⟩ := v.o; exact ⟨g, e.same hn (hk _ v.lo (.inr (.inr (.inl rfl)))), e2⟩
  w := by
    have := v.w
    revert this hk
    cases R.kw with
    | none => intro _; cases w <;> exact id
    | some kw =>
      intro hk
      cases w with
      | none => exact id
      | some w =>
        rintro ⟨h1, h2, h3, h4, g, h5, h6⟩
        exact ⟨Nat.lt_of_lt_of_le h1 hn, h2, h3, h4, g, h5.same hn (hk _ h1 (.inr (.inr (.inr rfl)))), h6⟩
  lv := Nat.lt_of_lt_of_le v.lv hn
  lb := Nat.lt_of_lt_of_le v.lb hn
  lo := Nat.lt_of_lt_of_le v.lo hn
  vb := v.vb
  vo := v.vo
  bo := v.bo
theorem VIs.keeps (v : VIs h R c base f w) (hk : Keeps h h') : VIs h' R c base f w := v.frame hk.1 fun k hl _ => hk.2 k hl
theorem VIs.len (v : VIs h R c base f w) {x : Nat} (hx : x < c.B) : (f x).length = 128 := by
  obtain ⟨g, e, e2, _⟩ := v.o
  rw [e2]
  cases hg : g x with
  | none => obtain ⟨cs, _, h2⟩ := v.b; exact (h2 x hx).2
  | some b => exact (e.some_lt x b hg).2
/-- A cell of a view. -/
theorem VIs.cell {W : World} (v : VIs h R c base f w) {o : Nat} {n : Int} (hv : ∀ bv ov wv, (vwC c bv ov wv)[o]? = some (.int .i64 n)) : aLoad (CC W) h 3 (.new R.kv o) = some (.int .i64 n) := by
  obtain ⟨cap, gr, e⟩ := v.v
  rw [ld3]
  simp only [aCell, e]
  exact hv _ _ _
/-- The changes are changed. -/
theorem VIs.set {W : World} (v : VIs h R c base f w) {x : Nat} (hx : x < c.B) {b : Bts} (hb : b.length = 128) :
    ∃ h', aMapSet (CC W) h 83 (.map (some R.ko)) (.int .i64 (x : Int)) (.str b) = some h' ∧ VIs h' R c base (upd f x b) w ∧ VOff R h h' := by
  obtain ⟨g, hg, hf, hgb⟩ := v.o
  have hB := v.ok.b2
  obtain ⟨h', h1, h2, h3, h4⟩ := hg.put (W := W) (x := x) (by omega) hb
  refine ⟨h', h1, ⟨v.ok, ?_, ?_, ⟨_, h2, fun y => ?_, fun y b' hy => ?_⟩, ?_, by rw [h3]; exact v.lv, by rw [h3]; exact v.lb, by rw [h3]; exact v.lo, v.vb, v.vo, v.bo⟩, by rw [h3]; exact Nat.le_refl _, fun k _ hne => h4 k hne⟩
  · obtain ⟨cap, gr, e⟩ := v.v; exact ⟨cap, gr, (h4 _ v.vo).trans e⟩
  · obtain ⟨cs, e, e2⟩ := v.b; exact ⟨cs, (h4 _ v.bo).trans e, e2⟩
  · unfold upd
    by_cases e : y = x
    · simp [e]
    · simp [e, hf y]
  · split at hy
    · rename_i e; omega
    · exact hgb y b' hy
  · have := v.w
    revert this
    cases R.kw with
    | none => cases w <;> exact id
    | some kw =>
      cases w with
      | none => exact id
      | some w =>
        rintro ⟨g1, g2, g3, g4, g, g5, g6⟩
        exact ⟨by rw [h3]; exact g1, g2, g3, g4, g, g5.same (by rw [h3]; exact Nat.le_refl _) (h4 _ g4), g6⟩
end

section
variable {W : World} {h : AH} {k : Nat} {cs : List AV} {t : TypeId} {v : AV}
theorem ld_map {o : Nat} (hg : h.get k = some (.cells cs t)) (hv : cs[o]? = some v) : aLoad (CC W) h 83 (.new k o) = some v := by
  have : aLoad (CC W) h 83 (.new k o) = aCell (CC W) h (.new k o) := rfl
  rw [this]
  simp only [aCell, hg]
  exact hv
theorem ld_strs {o : Nat} (hg : h.get k = some (.cells cs t)) (hv : cs[o]? = some v) : aLoad (CC W) h 24 (.new k o) = some v := by
  have : aLoad (CC W) h 24 (.new k o) = aCell (CC W) h (.new k o) := rfl
  rw [this]
  simp only [aCell, hg]
  exact hv
theorem ld_str {o : Nat} (hg : h.get k = some (.cells cs t)) (hv : cs[o]? = some v) : aLoad (CC W) h 9 (.new k o) = some v := by
  rw [ld9]
  simp only [aCell, hg]
  exact hv
theorem idx_strs {n c i : Nat} {g : Option Nat} (hi : i < n) : aIndexAddr (CC W) 24 (.sl (some (.new k 0)) n c g) (.int .i64 (i : Int)) = some (.ptr (some (.new k i))) := by
  simp only [aIndexAddr, kind24, size9]
  rw [if_pos (by omega)]
  simp [AA.add]
end

set_option maxRecDepth 20000 in
set_option maxHeartbeats 2000000 in
theorem vw_get (W : World) (h : AH) {R : VR} {c : Cf} {base f : Dsk} {w : Option Dsk} (v : VIs h R c base f w) {x : Nat} (hx : x < c.B) : RetH (CC W) 43 [.ptr (some (.new R.kv 0)), .int .i64 x] h (.str (f x)) := by
  refine jj9 (cc_ok W) (fn43 W) (by simp only [Try.f43]; rfl) rfl rfl ?_
  obtain ⟨cap, gr, hv⟩ := v.v
  obtain ⟨cs, hb, hbs⟩ := v.b
  obtain ⟨g, hg, hf, _⟩ := v.o
  have hm := ld_map (W := W) (o := 9) hv rfl
  have hs := ld_strs (W := W) (o := 8) hv rfl
  have hlk := hg.look (W := W) x
  have hld := ld_str (W := W) hb (hbs x hx).1
  have hix := idx_strs (W := W) (k := R.kb) (n := c.B) (c := cap) (g := gr) hx
  rw [hf x]
  cases hgx : g x with
  | none =>
    rw [hgx] at hlk
    simp [push_cast, jd9, fa85_3, fa85_2, hm, hs, hlk, hix, hld]
  | some b =>
    rw [hgx] at hlk
    simp [push_cast, jd9, fa85_3, hm, hlk]
set_option maxRecDepth 20000 in
set_option maxHeartbeats 2000000 in
theorem vw_put (W : World) (h : AH) {R : VR} {c : Cf} {base f : Dsk} {w : Option Dsk} (v : VIs h R c base f w) {x : Nat} (hx : x < c.B) {b : Bts} (hb : b.length = 128) :
    ACall (CC W) 44 [.ptr (some (.new R.kv 0)), .int .i64 x, .str b] h (fun r h' => r = .tup [] ∧ VIs h' R c base (upd f x b) w ∧ VOff R h h') (fun _ _ => False) := by
  refine jj9 (cc_ok W) (fn44 W) (by simp only [Try.f44]; rfl) rfl rfl ?_
  obtain ⟨cap, gr, hv⟩ := v.v
  have hm := ld_map (W := W) (o := 9) hv rfl
  obtain ⟨h', h1, h2, h3⟩ := v.set (W := W) hx hb
  simp [push_cast, jd9, fa85_3, hm, h1]
  exact ⟨rfl, h2, h3⟩
set_option maxRecDepth 20000 in
set_option maxHeartbeats 2000000 in
theorem vw_data (W : World) (h : AH) {R : VR} {c : Cf} {base f : Dsk} {w : Option Dsk} (v : VIs h R c base f w) (n : Nat) : RetH (CC W) 74 [.ptr (some (.new R.kv 0)), .int .i64 n] h (.int .i64 (vDat c n)) := by
  refine jj9 (cc_ok W) (fn74 W) (by simp only [Try.f74]; rfl) rfl rfl ?_
  have h6 := v.cell (W := W) (o := 6) (n := c.dt) (fun _ _ _ => rfl)
  have h0 := v.cell (W := W) (o := 0) (n := c.B) (fun _ _ _ => rfl)
  by_cases h1 : n < c.dt
  · have hd : vDat c n = 0 := by unfold vDat; rw [if_pos (.inl h1)]
    simp [push_cast, jd9, fa85_1, fa77_3, h6, h1, hd]
  · by_cases h2 : c.B ≤ n
    · have hd : vDat c n = 0 := by unfold vDat; rw [if_pos (.inr h2)]
      simp [push_cast, jd9, fa85_1, fa85_0, fa77_3, fa23_0, h6, h0, h1, h2, hd]
    · have hd : vDat c n = n := by unfold vDat; rw [if_neg (by omega)]
      simp [push_cast, jd9, fa85_1, fa85_0, fa77_3, fa23_0, h6, h0, h1, h2, hd]
set_option maxRecDepth 20000 in
set_option maxHeartbeats 2000000 in
theorem vw_named (W : World) (h : AH) {R : VR} {c : Cf} {base f : Dsk} {w : Option Dsk} (v : VIs h R c base f w) {a k : Nat} (ha : a < c.B) (hk : k < 64) : RetH (CC W) 75 [.ptr (some (.new R.kv 0)), .int .i64 a, .int .i64 k] h (.int .i64 (vNamed c f a k)) := by
  refine jj9 (cc_ok W) (fn75 W) (by simp only [Try.f75]; rfl) rfl rfl ?_
  by_cases h0 : a = 0
  · subst h0
    simp [push_cast, vNamed]
  · have h0' : ¬ (a : Int) = 0 := by omega
    have hn : vNamed c f a k = vDat c (numR (f a) k) := by unfold vNamed; rw [if_neg h0]
    rw [hn]
    simp [push_cast, h0, h0']
    refine jh9 (by simp [fn43]) (vw_get W h v ha) ?_
    simp [push_cast]
    refine jh9 (by simp [fn93]) (nd_name W h _ k (v.len ha) hk) ?_
    simp [push_cast]
    refine jh9 (by simp [fn74]) (vw_data W h v _) ?_
    simp [push_cast]
end Go.Proofs.Ytgcoipcnhmkeaaa.Ax
end

/-! A view: blocks are named, made, let go -/
section
set_option linter.unusedVariables false
set_option linter.unusedSimpArgs false
namespace Go.Proofs.Ytgcoipcnhmkeaaa.Ax
open Go.RowKit

/-- A call that changes a view's blocks. -/
def RetVw (W : World) (f : FuncId) (args : List AV) (h : AH) (R : VR) (c : Cf) (base : Dsk) (w : Option Dsk) (r : AV) (f' : Dsk) : Prop :=
  ACall (CC W) f args h (fun x h' => x = r ∧ VIs h' R c base f' w ∧ VOff R h h') (fun _ _ => False)
theorem callK_Vw {W : World} {Q : Post} {ks : List Fr} {e : Env} {h : AH} {ops : Array Oper} {rest : List Oper} {dst : Option Tmp} {f : FuncId} {args : List AV} {R : VR} {c : Cf} {base : Dsk} {w : Option Dsk} {r : AV} {f' : Dsk} (hf : ((CC W).fn f).isSome = true) (hc : RetVw W f args h R c base w r f')
    (hk : ∀ h', VIs h' R c base f' w → VOff R h h' → Rg (CC W) Q ops rest ks (za9 e dst r) h') : CallK (CC W) Q ops rest ks e dst f args h :=
  je9 hf hc fun x h' hx => by rw [hx.1]; exact hk h' hx.2.1 hx.2.2

theorem numR_of {c : Cf} (k : c.OK) {n : Nat} (h : n < c.B) : n < 1024 := by have := k.b2; omega
section
variable {W : World} {h : AH} {R : VR} {c : Cf} {base f : Dsk} {w : Option Dsk}
set_option maxRecDepth 20000 in
set_option maxHeartbeats 2000000 in
theorem vw_name (v : VIs h R c base f w) {a k to : Nat} (ha : a < c.B) (hk : k < 64) (ht : to < 1024) : RetVw W 73 [.ptr (some (.new R.kv 0)), .int .i64 a, .int .i64 k, .int .i64 to] h R c base w (.tup []) (vName f a k to) := by
  refine jj9 (cc_ok W) (fn73 W) (by simp only [Try.f73]; rfl) rfl rfl ?_
  simp [push_cast]
  refine jh9 (by simp [fn43]) (vw_get W h v ha) ?_
  simp [push_cast]
  refine callK_RetVk (by simp [fn92]) (nd_rename W h _ k to (v.len ha) hk ht) fun h1 hk1 => ?_
  have v1 := v.keeps hk1
  simp [push_cast]
  refine je9 (by simp [fn44]) (vw_put W h1 v1 ha (ren_len (v.len ha) hk)) fun x h2 ⟨hx, v2, ho⟩ => ?_
  subst hx
  simp [push_cast]
  exact ⟨rfl, v2, (VOff.of hk1).trans ho⟩
set_option maxRecDepth 20000 in
set_option maxHeartbeats 2000000 in
theorem vw_drop (v : VIs h R c base f w) {a : Nat} (ha : a < c.B) : RetVw W 72 [.ptr (some (.new R.kv 0)), .int .i64 a] h R c base w (.tup []) (vDrop c f a) := by
  refine jj9 (cc_ok W) (fn72 W) (by simp only [Try.f72]; rfl) rfl rfl ?_
  have hok := v.ok
  have hbm : c.bm < c.B := by have := hok.dt0; omega
  have h4 := v.cell (W := W) (o := 4) (n := c.bm) (fun _ _ _ => rfl)
  simp [push_cast, jd9, fa85_1, fa77_1, h4]
  refine jh9 (by simp [fn43]) (vw_get W h v hbm) ?_
  simp [push_cast]
  refine callK_RetVk (by simp [fn91]) (bt_set W h _ a false (v.len hbm) (numR_of hok ha)) fun h1 hk1 => ?_
  have v1 := v.keeps hk1
  have h4 := v1.cell (W := W) (o := 4) (n := c.bm) (fun _ _ _ => rfl)
  simp [push_cast, jd9, fa85_1, fa77_1, h4]
  refine je9 (by simp [fn44]) (vw_put W h1 v1 hbm (by rw [setL_length]; exact v.len hbm)) fun x h2 ⟨hx, v2, ho⟩ => ?_
  subst hx
  simp [push_cast]
  exact ⟨rfl, v2, (VOff.of hk1).trans ho⟩
set_option maxRecDepth 20000 in
set_option maxHeartbeats 4000000 in
theorem vw_make (v : VIs h R c base f w) : RetVw W 90 [.ptr (some (.new R.kv 0))] h R c base w (.int .i64 (vMake c f).1) (vMake c f).2 := by
  refine jj9 (cc_ok W) (fn90 W) (by simp only [Try.f90]; rfl) rfl rfl ?_
  have hok := v.ok
  have hd := hok.dt0
  have hbm : c.bm < c.B := by omega
  have h4 := v.cell (W := W) (o := 4) (n := c.bm) (fun _ _ _ => rfl)
  have h6 := v.cell (W := W) (o := 6) (n := c.dt) (fun _ _ _ => rfl)
  have h0 := v.cell (W := W) (o := 0) (n := c.B) (fun _ _ _ => rfl)
  have hle := bt_least W h (f c.bm) c.dt (c.B - c.dt) (v.len hbm) (by omega)
  rw [show (c.dt : Int) + ((c.B - c.dt : Nat) : Int) = c.B by omega] at hle
  simp [push_cast, jd9, fa85_1, fa77_1, h4]
  refine jh9 (by simp [fn43]) (vw_get W h v hbm) ?_
  simp [push_cast]
  refine drawS [0, 1, 2, 3, 4, 5, 6, 7, 8, 9, 10, 11, 12, 13, 14, 15, 16] (by kernel_rfl) (by kernel_rfl) ?_
  simp [push_cast, zx9, zy9, SgO, opA, isE, isRead, jd9, fa85_1, fa85_0, fa77_3, fa23_0, h6, h0]
  refine jb9 (f := 120) (args := [.str (f c.bm), .int .i64 c.dt, .int .i64 c.B]) (by rfl) (by rfl) (by rfl) (by simp [fn120]) hle fun x h1 ⟨hx, hh⟩ => ?_
  subst hx hh
  refine ⟨?_, ?_⟩
  · simp only [zz9, ja9]
    exact ⟨fun hr => absurd hr (by decide), fun hr => absurd hr (by decide), trivial⟩
  unfold vMake
  cases hl : leastB (f c.bm) c.dt (c.B - c.dt) with
  | none =>
    simp [push_cast, zx9, zy9, SgO, opA, isE, isRead, lstV]
    exact ⟨v, VOff.refl _ _⟩
  | some a =>
    obtain ⟨a1, a2, _⟩ := leastB_some hl
    have ha : a < c.B := by omega
    simp [push_cast, zx9, zy9, SgO, opA, isE, isRead, lstV]
    refine callK_RetVk (by simp [fn91]) (bt_set W h1 _ a true (v.len hbm) (by omega)) fun h2 hk2 => ?_
    have v2 := v.keeps hk2
    have h4 := v2.cell (W := W) (o := 4) (n := c.bm) (fun _ _ _ => rfl)
    simp [push_cast, jd9, fa85_1, fa77_1, h4]
    refine je9 (by simp [fn44]) (vw_put W h2 v2 hbm (by rw [setL_length]; exact v.len hbm)) fun x h3 ⟨hx, v3, ho3⟩ => ?_
    subst hx
    simp [push_cast]
    refine callK_RetVk (by simp [fn48]) (nd_zeros W h3 128 (by omega)) fun h5 hk5 => ?_
    have v5 := v3.keeps hk5
    simp [push_cast]
    refine je9 (by simp [fn44]) (vw_put W h5 v5 ha (by simp [zeros])) fun x h7 ⟨hx, v7, ho7⟩ => ?_
    subst hx
    simp [push_cast]
    exact ⟨v7, (((VOff.of hk2).trans ho3).trans (VOff.of hk5)).trans ho7⟩
set_option maxRecDepth 20000 in
set_option maxHeartbeats 2000000 in
theorem vw_below (v : VIs h R c base f w) {a k : Nat} (ha : a < c.B) (hk : k < 64) : RetVw W 71 [.ptr (some (.new R.kv 0)), .int .i64 a, .int .i64 k] h R c base w (.int .i64 (vBelow c f a k).1) (vBelow c f a k).2 := by
  refine jj9 (cc_ok W) (fn71 W) (by simp only [Try.f71]; rfl) rfl rfl ?_
  unfold vBelow
  simp [push_cast]
  refine jh9 (by simp [fn75]) (vw_named W h v ha hk) ?_
  by_cases h0 : vNamed c f a k = 0
  · simp [push_cast, h0]
    refine callK_Vw (by simp [fn90]) (vw_make v) fun h1 v1 ho1 => ?_
    have hm := make_lt v.ok f
    by_cases h2 : (vMake c f).1 = 0
    · simp [push_cast, h2]
      exact ⟨v1, ho1⟩
    · have h2' : ¬ ((vMake c f).1 : Int) = 0 := by omega
      simp [push_cast, h2, h2']
      refine callK_Vw (by simp [fn73]) (vw_name v1 ha hk hm) fun h3 v3 ho3 => ?_
      simp [push_cast]
      exact ⟨v3, ho1.trans ho3⟩
  · have h0' : ¬ (vNamed c f a k : Int) = 0 := by omega
    simp [push_cast, h0, h0']
    exact ⟨v, VOff.refl _ _⟩
def EmpI (h : AH) (kv a : Nat) (c : Cf) (f : Dsk) (m : Nat) (e' : Env) (h' : AH) : Prop :=
  h' = h ∧ e'.length = 15 ∧ ∃ i : Nat, i + m = 64 ∧ (∀ j, j < i → vNamed c f a j = 0) ∧ (e'.getD 0 .undef = .ptr (some (.new kv 0)) ∧ e'.getD 1 .undef = .int .i64 a ∧ e'.getD 6 .undef = .int .i64 i)
set_option maxRecDepth 20000 in
set_option maxHeartbeats 4000000 in
theorem vw_empty (v : VIs h R c base f w) {a : Nat} (ha : a < c.B) : RetH (CC W) 76 [.ptr (some (.new R.kv 0)), .int .i64 a] h (.bool (vEmpty c f a)) := by
  refine jj9 (cc_ok W) (fn76 W) (by simp only [Try.f76]; rfl) rfl rfl ?_
  simp [push_cast]
  refine loopN (cc_ok W) (EmpI h R.kv a c f) 64 ⟨rfl, by simp, 0, by simp, fun j hj => by omega, by simp⟩ ?_
  rintro m e' h' ⟨rfl, hl, i, him, hz, hh⟩
  obtain ⟨a0, a1, a2, a3, a4, a5, a6, a7, a8, a9, rS0, rfl, hS0⟩ := un10 hl
  obtain ⟨a10, rS10, rfl, hS10⟩ := un1 hS0
  obtain ⟨a11, rS11, rfl, hS11⟩ := un1 hS10
  obtain ⟨a12, rS12, rfl, hS12⟩ := un1 hS11
  obtain ⟨a13, rS13, rfl, hS13⟩ := un1 hS12
  obtain ⟨a14, rS14, rfl, hS14⟩ := un1 hS13
  obtain rfl := un0 hS14
  clear hl hS0 hS10 hS11 hS12 hS13 hS14
  simp at hh
  obtain ⟨rfl, rfl, rfl⟩ := hh
  by_cases hlt : i < 64
  · have hlt' : (i : Int) < 64 := by omega
    have hwi : IntKind.i64.wrap ((i : Int) + 1) = (i : Int) + 1 := wrap64 (by omega) (by omega)
    simp [push_cast, hlt']
    refine jh9 (by simp [fn75]) (vw_named W h' v ha hlt) ?_
    by_cases h0 : vNamed c f a i = 0
    · simp [push_cast, h0, hwi]
      refine ⟨m - 1, by omega, rfl, by simp, i + 1, by omega, fun j hj => ?_, by simp⟩
      rcases Nat.lt_or_ge j i with h1 | h1
      · exact hz j h1
      · rw [show j = i by omega]; exact h0
    · have h0' : ¬ (vNamed c f a i : Int) = 0 := by omega
      have he : vEmpty c f a = false := by
        rw [Bool.eq_false_iff]
        intro e
        exact h0 (empty_iff.1 e i hlt)
      simp [push_cast, h0, h0', he]
  · obtain rfl : i = 64 := by omega
    have he : vEmpty c f a = true := empty_iff.2 fun j hj => hz j hj
    simp [push_cast, he]
set_option maxRecDepth 20000 in
set_option maxHeartbeats 4000000 in
theorem vw_leave {was : Dsk} (v : VIs h R c base f (some was)) {a : Nat} (ha : a < c.B) (hw : (was a).length = 128) : RetVw W 77 [.ptr (some (.new R.kv 0)), .int .i64 a] h R c base (some was) (.tup []) (vLeave c was f a) := by
  refine jj9 (cc_ok W) (fn77 W) (by simp only [Try.f77]; rfl) rfl rfl ?_
  simp [push_cast]
  refine callK_Vw (by simp [fn72]) (vw_drop v ha) fun h1 v1 ho1 => ?_
  obtain ⟨cap, gr, hv⟩ := v1.v
  obtain ⟨cs, hb, hbs⟩ := v1.b
  have hww := v1.w
  cases hkw : R.kw with
  | none => rw [hkw] at hww; exact hww.elim
  | some kw =>
    rw [hkw] at hww hv
    obtain ⟨_, _, _, _, g, hg, hwg⟩ := hww
    have hm := ld_map (W := W) (o := 10) hv rfl
    have hs := ld_strs (W := W) (o := 8) hv rfl
    have hlk := hg.look (W := W) a
    have hld := ld_str (W := W) hb (hbs a ha).1
    have hix := idx_strs (W := W) (k := R.kb) (n := c.B) (c := cap) (g := gr) ha
    have hwa := hwg a
    cases hga : g a with
    | none =>
      rw [hga] at hlk hwa
      simp [push_cast, jd9, aUnN, fa85_4, fa85_2, hm, hs, hlk, hix, hld]
      have hb2 : base a = was a := hwa.symm
      rw [hb2]
      refine je9 (by simp [fn44]) (vw_put W h1 v1 ha hw) fun x h2 ⟨hx, v2, ho⟩ => ?_
      subst hx
      simp [push_cast]
      exact ⟨rfl, v2, ho1.trans ho⟩
    | some b =>
      rw [hga] at hlk hwa
      simp [push_cast, jd9, aUnN, fa85_4, hm, hlk]
      have hb2 : b = was a := hwa.symm
      rw [hb2]
      refine je9 (by simp [fn44]) (vw_put W h1 v1 ha hw) fun x h2 ⟨hx, v2, ho⟩ => ?_
      subst hx
      simp [push_cast]
      exact ⟨rfl, v2, ho1.trans ho⟩
set_option maxRecDepth 20000 in
set_option maxHeartbeats 4000000 in
theorem vw_look (v : VIs h R c base f w) (n : Ino) {x : Nat} (hx : x < 4166) : RetVk (CC W) 47 [.ptr (some (.new R.kv 0)), .agg (inoC n), .int .i64 x] h (.int .i64 (vLook c f n x)) := by
  refine jj9 (cc_ok W) (fn47 W) (by simp only [Try.f47]; rfl) rfl rfl ?_
  have hbx := box_ino (h := h) (l := inoC n)
  have hK := Keeps.push h (.cells (inoC n) 33)
  have hg : (h.push (.cells (inoC n) 33)).get h.next = some (.cells (inoC n) 33) := by simp
  generalize h.push (.cells (inoC n) 33) = h1 at hbx hK hg
  generalize h.next = kn at hbx hg
  have v1 := v.keeps hK
  have hB := v.ok.dt0
  have hdB : ∀ n, vDat c n < c.B := fun n => by
    by_cases e : vDat c n = 0
    · omega
    · exact (dat_rng e).2
  have hnB : ∀ a k, vNamed c f a k < c.B := fun a k => by rw [← named_dat]; exact hdB _
  have hpl := nd_place W h1 x hx
  simp [push_cast, hbx]
  refine jh9 (by simp [fn51]) hpl ?_
  unfold plcV vLook
  by_cases h6 : x < 6
  · have hix := idxa_six (W := W) (k := kn) h6
    have hcl : aLoad (CC W) h1 3 (.new kn (3 + x)) = some (.int .i64 (n.dr.getD x 0 : Nat)) := by
      rw [ld3]
      simp only [aCell, hg]
      match x, h6 with
      | 0, _ => rfl
      | 1, _ => rfl
      | 2, _ => rfl
      | 3, _ => rfl
      | 4, _ => rfl
      | 5, _ => rfl
    generalize n.dr.getD x 0 = p at *
    simp [push_cast, h6, fa33_3, hix, hcl]
    refine jh9 (by simp [fn74]) (vw_data W h1 v1 p) ?_
    simp [push_cast]
    exact hK
  · by_cases h70 : x < 70
    · simp [push_cast, h6, h70, fa33_4, cell_ino (W := W) (o := 9) hg rfl]
      refine jh9 (by simp [fn74]) (vw_data W h1 v1 n.sg) ?_
      simp [push_cast]
      refine jh9 (by simp [fn75]) (vw_named W h1 v1 (hdB _) (by omega)) ?_
      simp [push_cast]
      exact hK
    · have q1 : (x - 70) / 64 < 64 := by omega
      have q2 : (x - 70) % 64 < 64 := by omega
      generalize (x - 70) / 64 = q at *
      generalize (x - 70) % 64 = r at *
      simp [push_cast, h6, h70, fa33_5, cell_ino (W := W) (o := 10) hg rfl]
      refine jh9 (by simp [fn74]) (vw_data W h1 v1 n.db) ?_
      simp [push_cast]
      refine jh9 (by simp [fn75]) (vw_named W h1 v1 (hdB _) q1) ?_
      simp [push_cast]
      refine jh9 (by simp [fn75]) (vw_named W h1 v1 (hnB _ _) q2) ?_
      simp [push_cast]
      exact hK
end
end Go.Proofs.Ytgcoipcnhmkeaaa.Ax
end

/-! A view: an index's block is made, or let go -/
section
set_option linter.unusedVariables false
set_option linter.unusedSimpArgs false
namespace Go.Proofs.Ytgcoipcnhmkeaaa.Ax
open Go.RowKit

/-- What a change of a view's blocks and of one inode leaves. -/
def VnOff (R : VR) (kn : Nat) (h h' : AH) : Prop := h.next ≤ h'.next ∧ ∀ k, k < h.next → k ≠ R.ko → k ≠ kn → h'.get k = h.get k
theorem VnOff.refl (R : VR) (kn : Nat) (h : AH) : VnOff R kn h h := ⟨Nat.le_refl _, fun _ _ _ _ => rfl⟩
theorem VnOff.trans {R : VR} {kn : Nat} {a b d : AH} (x : VnOff R kn a b) (y : VnOff R kn b d) : VnOff R kn a d := ⟨Nat.le_trans x.1 y.1, fun k hk h1 h2 => (y.2 k (Nat.lt_of_lt_of_le hk x.1) h1 h2).trans (x.2 k hk h1 h2)⟩
theorem VnOff.of {R : VR} {kn : Nat} {a b : AH} (k : VOff R a b) : VnOff R kn a b := ⟨k.1, fun j hj h1 _ => k.2 j hj h1⟩
theorem VnOff.ofK {R : VR} {kn : Nat} {a b : AH} (k : Keeps a b) : VnOff R kn a b := VnOff.of (VOff.of k)
/-- An own block that is none of a view's. -/
structure Apart (R : VR) (kn : Nat) : Prop where
  v : kn ≠ R.kv
  b : kn ≠ R.kb
  o : kn ≠ R.ko
  w : R.kw ≠ some kn
section
variable {W : World} {h : AH} {R : VR} {c : Cf} {base f : Dsk} {w : Option Dsk}
/-- Another own block is changed. -/
theorem VIs.set' (v : VIs h R c base f w) {kn : Nat} (ha : Apart R kn) (o : AObj) : VIs (h.set kn o) R c base f w :=
  v.frame (by simp) fun k _ hk => by
    rw [AH.get_set, if_neg]
    rintro rfl
    rcases hk with hk | hk | hk | hk
    · exact ha.v hk
    · exact ha.b hk
    · exact ha.o hk
    · exact ha.w hk.symm
theorem ld_cell {kn o : Nat} {cs : List AV} {t : TypeId} {x : AV} (hg : h.get kn = some (.cells cs t)) (ho : cs[o]? = some x) : aLoad (CC W) h 3 (.new kn o) = some x := by
  rw [ld3]
  simp only [aCell, hg]
  exact ho
set_option maxRecDepth 20000 in
set_option maxHeartbeats 4000000 in
theorem vw_ensure (v : VIs h R c base f w) {kn o p : Nat} {cs : List AV} {t : TypeId} (ha : Apart R kn) (hl : kn < h.next) (hg : h.get kn = some (.cells cs t)) (ho : cs[o]? = some (.int .i64 (p : Int))) :
    ACall (CC W) 70 [.ptr (some (.new R.kv 0)), .ptr (some (.new kn o))] h (fun r h' => r = .bool (decide ((vEns c f p).1 ≠ 0)) ∧ VIs h' R c base (vEns c f p).2 w ∧ h'.get kn = some (.cells (cs.set o (.int .i64 (vEns c f p).1)) t) ∧ VnOff R kn h h') (fun _ _ => False) := by
  refine jj9 (cc_ok W) (fn70 W) (by simp only [Try.f70]; rfl) rfl rfl ?_
  have hol : o < cs.length := (List.getElem?_eq_some_iff.1 ho).1
  have hld := ld_cell (W := W) hg ho
  have hst := st_cell (W := W) (n := (vDat c p : Nat)) hg hol
  simp [push_cast, jd9, hld]
  refine jh9 (by simp [fn74]) (vw_data W h v p) ?_
  have v1 := v.set' ha (.cells (cs.set o (.int .i64 (vDat c p : Nat))) t)
  have hg1 : (h.set kn (.cells (cs.set o (.int .i64 (vDat c p : Nat))) t)).get kn = some (.cells (cs.set o (.int .i64 (vDat c p : Nat))) t) := by simp
  have ho1 : VnOff R kn h (h.set kn (.cells (cs.set o (.int .i64 (vDat c p : Nat))) t)) := ⟨by simp, fun k _ _ hne => by rw [AH.get_set, if_neg hne]⟩
  have hld1 := ld_cell (W := W) hg1 (o := o) (x := .int .i64 (vDat c p : Nat)) (by rw [List.getElem?_set, if_pos rfl, if_pos hol])
  have hl1 : kn < (h.set kn (.cells (cs.set o (.int .i64 (vDat c p : Nat))) t)).next := by simpa using hl
  generalize h.set kn (.cells (cs.set o (.int .i64 (vDat c p : Nat))) t) = h1 at *
  unfold vEns
  by_cases h0 : vDat c p = 0
  · have z : ((0 : Nat) : Int) = 0 := rfl
    rw [h0, z] at hld1 hg1 hst
    simp [push_cast, jd9, hst, hld1, h0]
    refine callK_Vw (by simp [fn90]) (vw_make v1) fun h2 v2 o2 => ?_
    have hg2 := (o2.2 kn hl1 ha.o).trans hg1
    have hst2 := st_cell (W := W) (n := ((vMake c f).1 : Nat)) hg2 (o := o) (by rw [List.length_set]; exact hol)
    rw [List.set_set] at hst2
    have v3 := v2.set' ha (.cells (cs.set o (.int .i64 ((vMake c f).1 : Nat))) t)
    have hg3 : (h2.set kn (.cells (cs.set o (.int .i64 ((vMake c f).1 : Nat))) t)).get kn = some (.cells (cs.set o (.int .i64 ((vMake c f).1 : Nat))) t) := by simp
    have ho3 : VnOff R kn h2 (h2.set kn (.cells (cs.set o (.int .i64 ((vMake c f).1 : Nat))) t)) := ⟨by simp, fun k _ _ hne => by rw [AH.get_set, if_neg hne]⟩
    have hld3 := ld_cell (W := W) hg3 (o := o) (x := .int .i64 ((vMake c f).1 : Nat)) (by rw [List.getElem?_set, if_pos rfl, if_pos hol])
    generalize h2.set kn (.cells (cs.set o (.int .i64 ((vMake c f).1 : Nat))) t) = h3 at *
    have hoff := (ho1.trans (VnOff.of o2)).trans ho3
    by_cases hm : (vMake c f).1 = 0
    · rw [hm, z] at hld3 hst2
      simp [push_cast, jd9, hm, hst2, hld3]
      rw [hm, z] at hg3
      exact ⟨v3, hg3, hoff⟩
    · have hm' : ¬ ((vMake c f).1 : Int) = 0 := by omega
      simp [push_cast, jd9, hst2, hld3, hm, hm']
      exact ⟨v3, hg3, hoff⟩
  · have h0' : ¬ (vDat c p : Int) = 0 := by omega
    simp [push_cast, jd9, hst, hld1, h0, h0']
    exact ⟨v1, hg1, ho1⟩

theorem inoC_d {n : Ino} {x v : Nat} (hx : x < 6) (h6 : n.dr.length = 6) : (inoC n).set (3 + x) (.int .i64 (v : Int)) = inoC { n with dr := n.dr.set x v } := by
  obtain ⟨a, b, c, d, e, f, hd⟩ := six h6
  obtain ⟨kd, ln, sz, dr, sg, db⟩ := n
  simp only at hd
  subst hd
  match x, hx with
  | 0, _ => rfl
  | 1, _ => rfl
  | 2, _ => rfl
  | 3, _ => rfl
  | 4, _ => rfl
  | 5, _ => rfl
theorem inoC_s {n : Ino} {v : Nat} : (inoC n).set 9 (.int .i64 (v : Int)) = inoC { n with sg := v } := rfl
theorem inoC_b {n : Ino} {v : Nat} : (inoC n).set 10 (.int .i64 (v : Int)) = inoC { n with db := v } := rfl
theorem inoC_at {n : Ino} {x : Nat} (hx : x < 6) : (inoC n)[3 + x]? = some (.int .i64 (n.dr.getD x 0 : Nat)) := by
  match x, hx with
  | 0, _ => rfl
  | 1, _ => rfl
  | 2, _ => rfl
  | 3, _ => rfl
  | 4, _ => rfl
  | 5, _ => rfl
theorem datB (k : c.OK) (n : Nat) : vDat c n < c.B := by
  have := k.dt0
  by_cases e : vDat c n = 0
  · omega
  · exact (dat_rng e).2
theorem namedB (k : c.OK) (f : Dsk) (a m : Nat) : vNamed c f a m < c.B := by rw [← named_dat]; exact datB k _
theorem makeB (k : c.OK) (f : Dsk) : (vMake c f).1 < c.B := by
  have := k.dt0
  by_cases h : (vMake c f).1 = 0
  · omega
  · obtain ⟨x, h1, h2, _, e⟩ := vMake_some h
    rw [e]; exact h2
theorem ensB (k : c.OK) (f : Dsk) (p : Nat) : (vEns c f p).1 < c.B := by
  unfold vEns
  split
  · exact makeB k f
  · exact datB k p
theorem belowB (k : c.OK) (f : Dsk) (a m : Nat) : (vBelow c f a m).1 < c.B := by
  have := k.dt0
  unfold vBelow
  split
  · split
    · show 0 < c.B; omega
    · exact makeB k f
  · exact namedB k f a m

/-- A call that changes a view's blocks and an inode. -/
def RetVn (W : World) (fn : FuncId) (args : List AV) (h : AH) (R : VR) (c : Cf) (base : Dsk) (w : Option Dsk) (kn : Nat) (r : AV) (n' : Ino) (f' : Dsk) : Prop :=
  ACall (CC W) fn args h (fun x h' => x = r ∧ VIs h' R c base f' w ∧ h'.get kn = some (.cells (inoC n') 33) ∧ VnOff R kn h h') (fun _ _ => False)
theorem callK_Vn {Q : Post} {ks : List Fr} {e : Env} {ops : Array Oper} {rest : List Oper} {dst : Option Tmp} {fn : FuncId} {args : List AV} {kn : Nat} {r : AV} {n' : Ino} {f' : Dsk} (hf : ((CC W).fn fn).isSome = true) (hc : RetVn W fn args h R c base w kn r n' f')
    (hk : ∀ h', VIs h' R c base f' w → h'.get kn = some (.cells (inoC n') 33) → VnOff R kn h h' → Rg (CC W) Q ops rest ks (za9 e dst r) h') : CallK (CC W) Q ops rest ks e dst fn args h :=
  je9 hf hc fun x h' hx => by rw [hx.1]; exact hk h' hx.2.1 hx.2.2.1 hx.2.2.2
set_option maxRecDepth 20000 in
set_option maxHeartbeats 8000000 in
theorem vw_grow (v : VIs h R c base f w) {kn x : Nat} {n : Ino} (ha : Apart R kn) (hl : kn < h.next) (hg : h.get kn = some (.cells (inoC n) 33)) (h6 : n.dr.length = 6) (hx : x < 4166) :
    RetVn W 42 [.ptr (some (.new R.kv 0)), .ptr (some (.new kn 0)), .int .i64 x] h R c base w kn (.int .i64 (vGrow c f n x).1) (vGrow c f n x).2.1 (vGrow c f n x).2.2 := by
  refine jj9 (cc_ok W) (fn42 W) (by simp only [Try.f42]; rfl) rfl rfl ?_
  have hok := v.ok
  have hpl := nd_place W h x hx
  simp [push_cast]
  refine jh9 (by simp [fn51]) hpl ?_
  unfold plcV vGrow
  by_cases c6 : x < 6
  · have hix := idxa_six (W := W) (k := kn) c6
    have hens := vw_ensure (W := W) v ha hl hg (inoC_at (n := n) c6)
    simp [push_cast, c6, jd9, fa33_3, hix]
    refine je9 (by simp [fn70]) hens fun r h1 ⟨hr, v1, g1, o1⟩ => ?_
    subst hr
    have hld : aLoad (CC W) h1 3 (.new kn (3 + x)) = some (.int .i64 (vEns c f (n.dr.getD x 0)).1) := ld_cell (W := W) g1 (by rw [List.getElem?_set, if_pos rfl, if_pos (by show 3 + x < 11; omega)])
    rw [inoC_d c6 h6] at g1
    simp [push_cast, jd9, fa33_3, hix, hld]
    exact ⟨v1, g1, o1⟩
  · by_cases c70 : x < 70
    · have hens := vw_ensure (W := W) (o := 9) (p := n.sg) v ha hl hg rfl
      simp [push_cast, c6, c70, jd9, fa33_4]
      refine je9 (by simp [fn70]) hens fun r h1 ⟨hr, v1, g1, o1⟩ => ?_
      subst hr
      rw [inoC_s] at g1
      have hld : aLoad (CC W) h1 3 (.new kn 9) = some (.int .i64 (vEns c f n.sg).1) := ld_cell (W := W) g1 rfl
      by_cases e0 : (vEns c f n.sg).1 = 0
      · rw [e0] at g1
        simp [push_cast, e0, aUnN]
        exact ⟨v1, g1, o1⟩
      · have hb := ensB hok f n.sg
        simp [push_cast, e0, aUnN, jd9, fa33_4, hld]
        have hkl : kn < h1.next := Nat.lt_of_lt_of_le hl o1.1
        refine callK_Vw (by simp [fn71]) (vw_below v1 hb (by omega)) fun h2 v2 o2 => ?_
        have g2 := (o2.2 kn hkl ha.o).trans g1
        simp [push_cast]
        exact ⟨v2, g2, o1.trans (VnOff.of o2)⟩
    · have q1 : (x - 70) / 64 < 64 := by omega
      have q2 : (x - 70) % 64 < 64 := by omega
      generalize (x - 70) / 64 = q at *
      generalize (x - 70) % 64 = r at *
      have hens := vw_ensure (W := W) (o := 10) (p := n.db) v ha hl hg rfl
      simp [push_cast, c6, c70, jd9, fa33_5]
      refine je9 (by simp [fn70]) hens fun r' h1 ⟨hr, v1, g1, o1⟩ => ?_
      subst hr
      rw [inoC_b] at g1
      have hld : aLoad (CC W) h1 3 (.new kn 10) = some (.int .i64 (vEns c f n.db).1) := ld_cell (W := W) g1 rfl
      by_cases e0 : (vEns c f n.db).1 = 0
      · rw [e0] at g1
        simp [push_cast, e0, aUnN]
        exact ⟨v1, g1, o1⟩
      · have hb := ensB hok f n.db
        simp [push_cast, e0, aUnN, jd9, fa33_5, hld]
        have hkl : kn < h1.next := Nat.lt_of_lt_of_le hl o1.1
        refine callK_Vw (by simp [fn71]) (vw_below v1 hb q1) fun h2 v2 o2 => ?_
        have g2 := (o2.2 kn hkl ha.o).trans g1
        have hb2 := belowB hok (vEns c f n.db).2 (vEns c f n.db).1 q
        have ho2 := o1.trans (VnOff.of o2)
        generalize vBelow c (vEns c f n.db).2 (vEns c f n.db).1 q = z at *
        by_cases e1 : z.1 = 0
        · simp [push_cast, e1]
          exact ⟨v2, g2, ho2⟩
        · have e1' : ¬ (z.1 : Int) = 0 := by omega
          simp [push_cast, e1, e1']
          refine callK_Vw (by simp [fn71]) (vw_below v2 hb2 q2) fun h3 v3 o3 => ?_
          have g3 := (o3.2 kn (Nat.lt_of_lt_of_le hl ho2.1) ha.o).trans g2
          simp [push_cast]
          exact ⟨v3, g3, ho2.trans (VnOff.of o3)⟩
end
end Go.Proofs.Ytgcoipcnhmkeaaa.Ax
end

/-! A view: an index's block is let go; blocks of names that name none are let go -/
section
set_option linter.unusedVariables false
set_option linter.unusedSimpArgs false
namespace Go.Proofs.Ytgcoipcnhmkeaaa.Ax
open Go.RowKit

section
variable {W : World} {h : AH} {R : VR} {c : Cf} {base f : Dsk} {w : Option Dsk}
theorem VnOff.set {R : VR} {kn : Nat} {h : AH} {o : AObj} : VnOff R kn h (h.set kn o) := ⟨by simp, fun k _ _ hne => by rw [AH.get_set, if_neg hne]⟩
set_option maxRecDepth 20000 in
set_option maxHeartbeats 8000000 in
theorem vw_forget (v : VIs h R c base f w) {kn x : Nat} {n : Ino} (ha : Apart R kn) (hl : kn < h.next) (hg : h.get kn = some (.cells (inoC n) 33)) (h6 : n.dr.length = 6) (hx : x < 4166) :
    RetVn W 45 [.ptr (some (.new R.kv 0)), .ptr (some (.new kn 0)), .int .i64 x] h R c base w kn (.tup []) (vForget c (n, f) x).1 (vForget c (n, f) x).2 := by
  refine jj9 (cc_ok W) (fn45 W) (by simp only [Try.f45]; rfl) rfl rfl ?_
  have hok := v.ok
  have hld : aLoad (CC W) h 33 (.new kn 0) = some (.agg (inoC n)) := ld_ino hg
  have hlB : vLook c f n x < c.B := by rw [look_ptr, ← ptr_dat]; exact datB hok _
  unfold vForget
  simp [push_cast, jd9, hld]
  refine callK_RetVk (by simp [fn47]) (vw_look v n hx) fun h1 hk1 => ?_
  have v1 := v.keeps hk1
  have g1 := (hk1.2 kn hl).trans hg
  have l1 := Nat.lt_of_lt_of_le hl hk1.1
  generalize hb : vLook c f n x = b at *
  by_cases e0 : b = 0
  · simp [push_cast, e0]
    exact ⟨v1, g1, VnOff.ofK hk1⟩
  · have e0' : ¬ (b : Int) = 0 := by omega
    simp [push_cast, e0, e0']
    refine callK_Vw (by simp [fn72]) (vw_drop v1 hlB) fun h2 v2 o2 => ?_
    have g2 := (o2.2 kn l1 ha.o).trans g1
    have l2 := Nat.lt_of_lt_of_le l1 o2.1
    have oo2 := (VnOff.ofK (R := R) (kn := kn) hk1).trans (VnOff.of o2)
    have hpl := nd_place W h2 x hx
    simp [push_cast]
    refine jh9 (by simp [fn51]) hpl ?_
    unfold plcV
    by_cases c6 : x < 6
    · have hix := idxa_six (W := W) (k := kn) c6
      have hst := st_cell (W := W) (n := 0) g2 (o := 3 + x) (by show 3 + x < 11; omega)
      have e : (inoC n).set (3 + x) (.int .i64 (0 : Int)) = inoC { n with dr := n.dr.set x 0 } := inoC_d (v := 0) c6 h6
      rw [e] at hst
      have v3 := v2.set' ha (.cells (inoC { n with dr := n.dr.set x 0 }) 33)
      have o3 := oo2.trans (VnOff.set (R := R) (kn := kn) (h := h2) (o := .cells (inoC { n with dr := n.dr.set x 0 }) 33))
      simp [push_cast, c6, jd9, fa33_3, hix, hst]
      exact ⟨rfl, v3, by simp, o3⟩
    · by_cases c70 : x < 70
      · simp [push_cast, c6, c70, jd9, fa33_4, cell_ino (W := W) (o := 9) g2 rfl]
        refine jh9 (by simp [fn74]) (vw_data W h2 v2 n.sg) ?_
        simp [push_cast]
        refine callK_Vw (by simp [fn73]) (vw_name v2 (to := 0) (datB hok n.sg) (by omega) (by omega)) fun h3 v3 o3 => ?_
        have g3 := (o3.2 kn l2 ha.o).trans g2
        simp [push_cast]
        exact ⟨rfl, v3, g3, oo2.trans (VnOff.of o3)⟩
      · have q1 : (x - 70) / 64 < 64 := by omega
        have q2 : (x - 70) % 64 < 64 := by omega
        generalize (x - 70) / 64 = q at *
        generalize (x - 70) % 64 = r at *
        simp [push_cast, c6, c70, jd9, fa33_5, cell_ino (W := W) (o := 10) g2 rfl]
        refine jh9 (by simp [fn74]) (vw_data W h2 v2 n.db) ?_
        simp [push_cast]
        refine jh9 (by simp [fn75]) (vw_named W h2 v2 (datB hok n.db) q1) ?_
        simp [push_cast]
        refine callK_Vw (by simp [fn73]) (vw_name v2 (to := 0) (namedB hok _ _ _) q2 (by omega)) fun h3 v3 o3 => ?_
        have g3 := (o3.2 kn l2 ha.o).trans g2
        simp [push_cast]
        exact ⟨rfl, v3, g3, oo2.trans (VnOff.of o3)⟩

theorem build_ptrs {kn : Nat} : aBuild (CC W) 134 [(0, .ptr (some (.new kn 9))), (1, .ptr (some (.new kn 10)))] = some (.agg [.ptr (some (.new kn 9)), .ptr (some (.new kn 10))]) := rfl
theorem idx_ptrs0 {a b : AV} : aIndex (CC W) 134 (.agg [a, b]) (.int .i64 0) = some a := rfl
theorem idx_ptrs1 {a b : AV} : aIndex (CC W) 134 (.agg [a, b]) (.int .i64 1) = some b := rfl

def ShI (h0 : AH) (R : VR) (c : Cf) (base f was : Dsk) (n : Ino) (kn d : Nat) (m : Nat) (e' : Env) (h' : AH) : Prop :=
  e'.length = 68 ∧ ∃ i : Nat, i + m = 64 ∧ VIs h' R c base ((List.range i).foldl (vShedK c was d) f) (some was) ∧ h'.get kn = some (.cells (inoC n) 33) ∧ VnOff R kn h0 h' ∧
    (e'.getD 0 .undef = .ptr (some (.new R.kv 0)) ∧ e'.getD 1 .undef = .ptr (some (.new kn 0)) ∧ e'.getD 4 .undef = .int .i64 d ∧ e'.getD 18 .undef = .int .i64 i)
/-- The numbers of the second loop. -/
def shN (c : Cf) (was : Dsk) (n : Ino) (f1 : Dsk) : Nat → Ino × Dsk
  | 0 => (n, f1)
  | 1 => ({ n with sg := (vShedP c was n.sg f1).1 }, (vShedP c was n.sg f1).2)
  | _ => ({ n with sg := (vShedP c was n.sg f1).1, db := (vShedP c was n.db (vShedP c was n.sg f1).2).1 }, (vShedP c was n.db (vShedP c was n.sg f1).2).2)
def Sh2 (h0 : AH) (R : VR) (c : Cf) (base f1 was : Dsk) (n : Ino) (kn : Nat) (m : Nat) (e' : Env) (h' : AH) : Prop :=
  e'.length = 68 ∧ ∃ i : Nat, i + m = 2 ∧ VIs h' R c base (shN c was n f1 i).2 (some was) ∧ h'.get kn = some (.cells (inoC (shN c was n f1 i).1) 33) ∧ VnOff R kn h0 h' ∧
    (e'.getD 0 .undef = .ptr (some (.new R.kv 0)) ∧ e'.getD 1 .undef = .ptr (some (.new kn 0)) ∧ e'.getD 46 .undef = .agg [.ptr (some (.new kn 9)), .ptr (some (.new kn 10))] ∧ e'.getD 47 .undef = .int .i64 i)

set_option maxRecDepth 20000 in
set_option maxHeartbeats 16000000 in
theorem vw_shed {was : Dsk} (hw : ∀ x, x < c.B → (was x).length = 128) (v : VIs h R c base f (some was)) {kn : Nat} {n : Ino} (ha : Apart R kn) (hl : kn < h.next) (hg : h.get kn = some (.cells (inoC n) 33)) :
    RetVn W 46 [.ptr (some (.new R.kv 0)), .ptr (some (.new kn 0))] h R c base (some was) kn (.tup []) (vShed c was (n, f)).1 (vShed c was (n, f)).2 := by
  refine jj9 (cc_ok W) (fn46 W) (by simp only [Try.f46]; rfl) rfl rfl ?_
  have hok := v.ok
  have hE : vShed c was (n, f) = shN c was n (vShedD c was (vDat c n.db) f) 2 := rfl
  rw [hE]
  rw [qa9]
  refine wc_cut (fun e' h' => e'.length = 68 ∧ VIs h' R c base (vShedD c was (vDat c n.db) f) (some was) ∧ h'.get kn = some (.cells (inoC n) 33) ∧ VnOff R kn h h' ∧ (e'.getD 0 .undef = .ptr (some (.new R.kv 0)) ∧ e'.getD 1 .undef = .ptr (some (.new kn 0)))) ?_ ?_
  · simp [push_cast, jd9, fa33_5, cell_ino (W := W) (o := 10) hg rfl, qx9]
    refine jh9 (by simp [fn74]) (vw_data W h v n.db) ?_
    have hdB := datB hok n.db
    unfold vShedD
    generalize vDat c n.db = d at *
    by_cases e0 : d = 0
    · simp [push_cast, e0, List.replicate]
      exact ⟨v, hg, VnOff.refl _ _ _⟩
    · have e0' : ¬ (d : Int) = 0 := by omega
      simp [push_cast, e0, e0', List.replicate]
      refine loopN (cc_ok W) (ShI h R c base f was n kn d) 64 ⟨by simp, 0, by simp, v, hg, VnOff.refl _ _ _, by simp⟩ ?_
      rintro m e' h1 ⟨hlen, i, him, v1, g1, o1, hh⟩
      obtain ⟨a0, a1, a2, a3, a4, a5, a6, a7, a8, a9, rS0, rfl, hS0⟩ := un10 hlen
      obtain ⟨a10, a11, a12, a13, a14, a15, a16, a17, a18, a19, rS10, rfl, hS10⟩ := un10 hS0
      obtain ⟨a20, a21, a22, a23, a24, a25, a26, a27, a28, a29, rS20, rfl, hS20⟩ := un10 hS10
      obtain ⟨a30, a31, a32, a33, a34, a35, a36, a37, a38, a39, rS30, rfl, hS30⟩ := un10 hS20
      obtain ⟨a40, a41, a42, a43, a44, a45, a46, a47, a48, a49, rS40, rfl, hS40⟩ := un10 hS30
      obtain ⟨a50, a51, a52, a53, a54, a55, a56, a57, a58, a59, rS50, rfl, hS50⟩ := un10 hS40
      obtain ⟨a60, rS60, rfl, hS60⟩ := un1 hS50
      obtain ⟨a61, rS61, rfl, hS61⟩ := un1 hS60
      obtain ⟨a62, rS62, rfl, hS62⟩ := un1 hS61
      obtain ⟨a63, rS63, rfl, hS63⟩ := un1 hS62
      obtain ⟨a64, rS64, rfl, hS64⟩ := un1 hS63
      obtain ⟨a65, rS65, rfl, hS65⟩ := un1 hS64
      obtain ⟨a66, rS66, rfl, hS66⟩ := un1 hS65
      obtain ⟨a67, rS67, rfl, hS67⟩ := un1 hS66
      obtain rfl := un0 hS67
      clear hlen hS0 hS10 hS20 hS30 hS40 hS50 hS60 hS61 hS62 hS63 hS64 hS65 hS66 hS67
      simp at hh
      obtain ⟨rfl, rfl, rfl, rfl⟩ := hh
      have l1 := Nat.lt_of_lt_of_le hl o1.1
      by_cases hlt : i < 64
      · have hlt' : (i : Int) < 64 := by omega
        have hwi : IntKind.i64.wrap ((i : Int) + 1) = (i : Int) + 1 := wrap64 (by omega) (by omega)
        have hfd : (List.range (i + 1)).foldl (vShedK c was d) f = vShedK c was d ((List.range i).foldl (vShedK c was d) f) i := by
          rw [List.range_succ, List.foldl_append, List.foldl_cons, List.foldl_nil]
        generalize (List.range i).foldl (vShedK c was d) f = fi at *
        simp [push_cast, hlt']
        refine jh9 (by simp [fn75]) (vw_named W h1 v1 hdB hlt) ?_
        have hbB := namedB hok fi d i
        rw [show vShedK c was d fi i = if vNamed c fi d i ≠ 0 ∧ vEmpty c fi (vNamed c fi d i) = true then vName (vLeave c was fi (vNamed c fi d i)) d i 0 else fi from rfl] at hfd
        generalize hb : vNamed c fi d i = b at *
        by_cases b0 : b = 0
        · rw [if_neg (by simp [b0])] at hfd
          simp [push_cast, b0, hwi]
          exact ⟨m - 1, by omega, by simp, i + 1, by omega, by rw [hfd]; exact v1, g1, o1, by simp⟩
        · have b0' : ((b : Int) != 0) = true := by simp [b0]
          simp [push_cast, b0']
          refine jh9 (by simp [fn76]) (vw_empty v1 hbB) ?_
          cases hem : vEmpty c fi b with
          | false =>
            rw [if_neg (by simp [hem])] at hfd
            simp [push_cast, hwi]
            exact ⟨m - 1, by omega, by simp, i + 1, by omega, by rw [hfd]; exact v1, g1, o1, by simp⟩
          | true =>
            rw [if_pos ⟨b0, hem⟩] at hfd
            simp [push_cast]
            refine callK_Vw (by simp [fn77]) (vw_leave v1 hbB (hw b hbB)) fun h2 v2 o2 => ?_
            simp [push_cast]
            refine callK_Vw (by simp [fn73]) (vw_name v2 (to := 0) hdB hlt (by omega)) fun h3 v3 o3 => ?_
            have oo := o2.trans o3
            simp [push_cast, hwi]
            exact ⟨m - 1, by omega, by simp, i + 1, by omega, by rw [hfd]; exact v3, (oo.2 kn l1 ha.o).trans g1, o1.trans (VnOff.of oo), by simp⟩
      · obtain rfl : i = 64 := by omega
        simp [push_cast]
        exact ⟨v1, g1, o1⟩
  rintro e' h1 ⟨hlen, v1, g1, o1, hh⟩
  obtain ⟨a0, a1, a2, a3, a4, a5, a6, a7, a8, a9, rS0, rfl, hS0⟩ := un10 hlen
  obtain ⟨a10, a11, a12, a13, a14, a15, a16, a17, a18, a19, rS10, rfl, hS10⟩ := un10 hS0
  obtain ⟨a20, a21, a22, a23, a24, a25, a26, a27, a28, a29, rS20, rfl, hS20⟩ := un10 hS10
  obtain ⟨a30, a31, a32, a33, a34, a35, a36, a37, a38, a39, rS30, rfl, hS30⟩ := un10 hS20
  obtain ⟨a40, a41, a42, a43, a44, a45, a46, a47, a48, a49, rS40, rfl, hS40⟩ := un10 hS30
  obtain ⟨a50, a51, a52, a53, a54, a55, a56, a57, a58, a59, rS50, rfl, hS50⟩ := un10 hS40
  obtain ⟨a60, rS60, rfl, hS60⟩ := un1 hS50
  obtain ⟨a61, rS61, rfl, hS61⟩ := un1 hS60
  obtain ⟨a62, rS62, rfl, hS62⟩ := un1 hS61
  obtain ⟨a63, rS63, rfl, hS63⟩ := un1 hS62
  obtain ⟨a64, rS64, rfl, hS64⟩ := un1 hS63
  obtain ⟨a65, rS65, rfl, hS65⟩ := un1 hS64
  obtain ⟨a66, rS66, rfl, hS66⟩ := un1 hS65
  obtain ⟨a67, rS67, rfl, hS67⟩ := un1 hS66
  obtain rfl := un0 hS67
  clear hlen hS0 hS10 hS20 hS30 hS40 hS50 hS60 hS61 hS62 hS63 hS64 hS65 hS66 hS67
  simp at hh
  obtain ⟨rfl, rfl⟩ := hh
  generalize vShedD c was (vDat c n.db) f = f1 at *
  have l1 := Nat.lt_of_lt_of_le hl o1.1
  have hbp := build_ptrs (W := W) (kn := kn)
  rw [ql9]
  simp [push_cast]
  refine draw1 (cc_ok W) [0, 1, 2, 3, 4, 5, 6, 7] (by kernel_rfl) (by kernel_rfl) (by kernel_rfl) rfl ?_
  simp [push_cast, jd9, fa33_4, fa33_5, hbp]
  refine loopN (cc_ok W) (Sh2 h R c base f1 was n kn) 2 ⟨by simp, 0, by simp, v1, g1, o1, by simp⟩ ?_
  clear v1 g1 o1 l1
  rintro m e' h1 ⟨hlen, i, him, v1, g1, o1, hh⟩
  obtain ⟨a0, a1, a2, a3, a4, a5, a6, a7, a8, a9, rS0, rfl, hS0⟩ := un10 hlen
  obtain ⟨a10, a11, a12, a13, a14, a15, a16, a17, a18, a19, rS10, rfl, hS10⟩ := un10 hS0
  obtain ⟨a20, a21, a22, a23, a24, a25, a26, a27, a28, a29, rS20, rfl, hS20⟩ := un10 hS10
  obtain ⟨a30, a31, a32, a33, a34, a35, a36, a37, a38, a39, rS30, rfl, hS30⟩ := un10 hS20
  obtain ⟨a40, a41, a42, a43, a44, a45, a46, a47, a48, a49, rS40, rfl, hS40⟩ := un10 hS30
  obtain ⟨a50, a51, a52, a53, a54, a55, a56, a57, a58, a59, rS50, rfl, hS50⟩ := un10 hS40
  obtain ⟨a60, rS60, rfl, hS60⟩ := un1 hS50
  obtain ⟨a61, rS61, rfl, hS61⟩ := un1 hS60
  obtain ⟨a62, rS62, rfl, hS62⟩ := un1 hS61
  obtain ⟨a63, rS63, rfl, hS63⟩ := un1 hS62
  obtain ⟨a64, rS64, rfl, hS64⟩ := un1 hS63
  obtain ⟨a65, rS65, rfl, hS65⟩ := un1 hS64
  obtain ⟨a66, rS66, rfl, hS66⟩ := un1 hS65
  obtain ⟨a67, rS67, rfl, hS67⟩ := un1 hS66
  obtain rfl := un0 hS67
  clear hlen hS0 hS10 hS20 hS30 hS40 hS50 hS60 hS61 hS62 hS63 hS64 hS65 hS66 hS67
  simp at hh
  obtain ⟨rfl, rfl, rfl, rfl⟩ := hh
  have l1 := Nat.lt_of_lt_of_le hl o1.1
  -- what one round does
  have three : i = 0 ∨ i = 1 ∨ i = 2 := by omega
  rcases three with rfl | rfl | rfl
  · have hbB := datB hok n.sg
    have hn1 : shN c was n f1 1 = ({ n with sg := (vShedP c was n.sg f1).1 }, (vShedP c was n.sg f1).2) := rfl
    change VIs h1 R c base f1 (some was) at v1
    change h1.get kn = some (.cells (inoC n) 33) at g1
    have w1 : IntKind.i64.wrap 1 = 1 := wrap64 (by omega) (by omega)
    simp [push_cast, idx_ptrs0, jd9, ld_cell (W := W) (o := 9) g1 rfl]
    refine jh9 (by simp [fn74]) (vw_data W h1 v1 n.sg) ?_
    unfold vShedP at hn1
    by_cases b0 : vDat c n.sg = 0
    · rw [if_neg (by simp [b0])] at hn1
      simp [push_cast, b0, w1]
      exact ⟨m - 1, by omega, by simp, 1, by omega, by rw [hn1]; exact v1, by rw [hn1]; exact g1, o1, by simp⟩
    · have b0' : ((vDat c n.sg : Int) != 0) = true := by simp [b0]
      simp [push_cast, b0']
      refine jh9 (by simp [fn76]) (vw_empty v1 hbB) ?_
      cases hem : vEmpty c f1 (vDat c n.sg) with
      | false =>
        rw [if_neg (by simp [hem])] at hn1
        simp [push_cast, w1]
        exact ⟨m - 1, by omega, by simp, 1, by omega, by rw [hn1]; exact v1, by rw [hn1]; exact g1, o1, by simp⟩
      | true =>
        rw [if_pos ⟨b0, hem⟩] at hn1
        simp [push_cast]
        refine callK_Vw (by simp [fn77]) (vw_leave v1 hbB (hw _ hbB)) fun h2 v2 o2 => ?_
        have g2 := (o2.2 kn l1 ha.o).trans g1
        have hst : aStoreOp (CC W) h2 3 (.ptr (some (.new kn 9))) (.int .i64 0) = some (h2.set kn (.cells (inoC { n with sg := 0 }) 33)) := st_cell (W := W) (n := 0) g2 (o := 9) (by show 9 < 11; decide)
        have v3 := v2.set' ha (.cells (inoC { n with sg := 0 }) 33)
        have o3 := (o1.trans (VnOff.of o2)).trans (VnOff.set (R := R) (kn := kn) (h := h2) (o := .cells (inoC { n with sg := 0 }) 33))
        simp [push_cast, jd9, hst, w1]
        exact ⟨m - 1, by omega, by simp, 1, by omega, by rw [hn1]; exact v3, by rw [hn1]; simp, o3, by simp⟩
  · have hbB := datB hok n.db
    have hn1 : shN c was n f1 2 = ({ (shN c was n f1 1).1 with db := (vShedP c was n.db (shN c was n f1 1).2).1 }, (vShedP c was n.db (shN c was n f1 1).2).2) := rfl
    have hdb : (shN c was n f1 1).1.db = n.db := rfl
    have w2 : IntKind.i64.wrap 2 = 2 := wrap64 (by omega) (by omega)
    generalize shN c was n f1 1 = s at *
    obtain ⟨n1, f2⟩ := s
    simp only at v1 g1 hn1 hdb
    have hc10 : aLoad (CC W) h1 3 (.new kn 10) = some (.int .i64 (n.db : Int)) := by rw [← hdb]; exact ld_cell (W := W) (o := 10) g1 rfl
    simp [push_cast, idx_ptrs1, jd9, hc10]
    refine jh9 (by simp [fn74]) (vw_data W h1 v1 n.db) ?_
    have hsame : ({ n1 with db := n.db } : Ino) = n1 := by rw [← hdb]
    unfold vShedP at hn1
    by_cases b0 : vDat c n.db = 0
    · rw [if_neg (by simp [b0])] at hn1
      simp only [hsame] at hn1
      simp [push_cast, b0, w2]
      exact ⟨m - 1, by omega, by simp, 2, by omega, by rw [hn1]; exact v1, by rw [hn1]; exact g1, o1, by simp⟩
    · have b0' : ((vDat c n.db : Int) != 0) = true := by simp [b0]
      simp [push_cast, b0']
      refine jh9 (by simp [fn76]) (vw_empty v1 hbB) ?_
      cases hem : vEmpty c f2 (vDat c n.db) with
      | false =>
        rw [if_neg (by simp [hem])] at hn1
        simp only [hsame] at hn1
        simp [push_cast, w2]
        exact ⟨m - 1, by omega, by simp, 2, by omega, by rw [hn1]; exact v1, by rw [hn1]; exact g1, o1, by simp⟩
      | true =>
        rw [if_pos ⟨b0, hem⟩] at hn1
        simp [push_cast]
        refine callK_Vw (by simp [fn77]) (vw_leave v1 hbB (hw _ hbB)) fun h2 v2 o2 => ?_
        have g2 := (o2.2 kn l1 ha.o).trans g1
        have hst : aStoreOp (CC W) h2 3 (.ptr (some (.new kn 10))) (.int .i64 0) = some (h2.set kn (.cells (inoC { n1 with db := 0 }) 33)) := st_cell (W := W) (n := 0) g2 (o := 10) (by show 10 < 11; decide)
        have v3 := v2.set' ha (.cells (inoC { n1 with db := 0 }) 33)
        have o3 := (o1.trans (VnOff.of o2)).trans (VnOff.set (R := R) (kn := kn) (h := h2) (o := .cells (inoC { n1 with db := 0 }) 33))
        simp [push_cast, jd9, hst, w2]
        exact ⟨m - 1, by omega, by simp, 2, by omega, by rw [hn1]; exact v3, by rw [hn1]; simp, o3, by simp⟩
  · simp [push_cast]
    exact ⟨rfl, v1, g1, o1⟩
end
end Go.Proofs.Ytgcoipcnhmkeaaa.Ax
end
