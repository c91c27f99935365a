/- The texts DwN, DwO, DwP, DwQ, DwR, as one. -/
import Derived.Test.YtgcoipcnhmkeaaaGi

/-! A view: inodes, what is asked of them, how many blocks are free -/
section
set_option linter.unusedVariables false
set_option linter.unusedSimpArgs false
namespace Go.Proofs.Ytgcoipcnhmkeaaa.Ax
open Go.RowKit

/-- An inode and an error, as a call tells. -/
def inoV (r : Nat × Ino) : AV := .tup [.agg (inoC r.2), .int .i64 r.1]
theorem getV_ino {c : Cf} {f : Dsk} {i : Nat} (hi : i < c.N) : getV (f (c.tb + i / 4)) (i % 4) = inoV (vIno c f i) := by
  unfold getV inoV vIno
  rw [if_neg (by omega), Int.toNat_natCast]
  cases getI (f (c.tb + i / 4)) (i % 4) <;> rfl
theorem vIno_out {c : Cf} {f : Dsk} {i : Int} (h : i < 0 ∨ (c.N : Int) ≤ i) : vIno c f i = (6, .zero) := by unfold vIno; rw [if_pos h]
theorem st_inoC {W : World} {h : AH} {k : Nat} {cs : List AV} {t : TypeId} (n : Ino) (hg : h.get k = some (.cells cs t)) (hc : cs.length = 11) : aStoreOp (CC W) h 33 (.ptr (some (.new k 0))) (.agg (inoC n)) = some (h.set k (.cells (inoC n) t)) := st_ino hg hc
theorem ld_inoC {W : World} {h : AH} {k : Nat} {t : TypeId} {n : Ino} (hg : h.get k = some (.cells (inoC n) t)) : aLoad (CC W) h 33 (.new k 0) = some (.agg (inoC n)) := ld_ino hg
theorem alloc_inoC {W : World} {h : AH} : aAlloc (CC W) h 33 = some (.ptr (some (.new h.next 0)), h.push (.cells (inoC .zero) 33)) := rfl
theorem build_inoC {W : World} : aBuild (CC W) 33 [] = some (.agg (inoC .zero)) := rfl

section
variable {W : World} {h : AH} {R : VR} {c : Cf} {base f : Dsk} {w : Option Dsk}
set_option maxRecDepth 20000 in
set_option maxHeartbeats 8000000 in
theorem vw_inode (v : VIs h R c base f w) (i : Int) : RetVk (CC W) 23 [.ptr (some (.new R.kv 0)), .int .i64 i] h (inoV (vIno c f i)) := by
  refine jj9 (cc_ok W) (fn23 W) (by simp only [Try.f23]; rfl) rfl rfl ?_
  have hok := v.ok
  have ha := alloc_inoC (W := W) (h := h)
  have hK := Keeps.push h (.cells (inoC .zero) 33)
  have hg : (h.push (.cells (inoC .zero) 33)).get h.next = some (.cells (inoC .zero) 33) := by simp
  have hlt : h.next < (h.push (.cells (inoC .zero) 33)).next := by simp
  have hkk : h.next ≤ h.next := Nat.le_refl _
  generalize h.push (.cells (inoC .zero) 33) = h1 at ha hK hg hlt
  generalize hkn : h.next = kn at ha hg hlt hkk
  have v1 := v.keeps hK
  have h2 := v1.cell (W := W) (o := 2) (n := c.N) (fun _ _ _ => rfl)
  have h5 := v1.cell (W := W) (o := 5) (n := c.tb) (fun _ _ _ => rfl)
  have hb := build_inoC (W := W)
  have key : ∀ (hx : AH) (n : Ino), Keeps h1 hx → aStoreOp (CC W) hx 33 (.ptr (some (.new kn 0))) (.agg (inoC n)) = some (hx.set kn (.cells (inoC n) 33)) ∧ aLoad (CC W) (hx.set kn (.cells (inoC n) 33)) 33 (.new kn 0) = some (.agg (inoC n)) ∧ Keeps h (hx.set kn (.cells (inoC n) 33)) := fun hx n hk =>
    ⟨st_inoC n ((hk.2 kn hlt).trans hg) rfl, ld_inoC (t := 33) (by simp), (hK.trans hk).set (by omega) _⟩
  by_cases o1 : i < 0
  · rw [vIno_out (.inl o1)]
    obtain ⟨e1, e2, e3⟩ := key h1 .zero (Keeps.refl _)
    simp [push_cast, ha, aEq, kind26, kindEq1, aEq1, o1, hb, e1, e2, e3, inoV]
  · by_cases o2 : (c.N : Int) ≤ i
    · rw [vIno_out (.inr o2)]
      obtain ⟨e1, e2, e3⟩ := key h1 .zero (Keeps.refl _)
      simp [push_cast, ha, aEq, kind26, kindEq1, aEq1, jd9, fa85_0, fa23_2, h2, o1, o2, hb, e1, e2, e3, inoV]
    · obtain ⟨j, rfl⟩ : ∃ j : Nat, i = j := ⟨i.toNat, by omega⟩
      have hj : j < c.N := by omega
      have hN := hok.n2
      have htb := hok.tbl hj
      have hdt := hok.dt0
      have q1 : IntKind.i64.wrap ((j : Int) / 4) = ((j / 4 : Nat) : Int) := wrap64 (by omega) (by omega)
      have q2 : IntKind.i64.wrap ((c.tb : Int) + ((j / 4 : Nat) : Int)) = ((c.tb + j / 4 : Nat) : Int) := wrap64 (by omega) (by omega)
      have q3 : Int.tmod (j : Int) 4 = ((j % 4 : Nat) : Int) := rfl
      have q4 : Int.tdiv (j : Int) 4 = (j : Int) / 4 := rfl
      have q5 : (j : Int) % 4 = ((j % 4 : Nat) : Int) := by omega
      have hget := vw_get W h1 v1 (x := c.tb + j / 4) (by omega)
      have hlen := v1.len (x := c.tb + j / 4) (by omega)
      have hgv := getV_ino (f := f) hj
      have hm : j % 4 < 4 := Nat.mod_lt _ (by decide)
      generalize j / 4 = a at *
      generalize j % 4 = b at *
      generalize hx : c.tb + a = x at *
      simp [push_cast, ha, aEq, kind26, kindEq1, aEq1, jd9, fa85_0, fa85_1, fa23_2, fa77_2, h2, h5, o1, o2, q1, q2, q3, q4, q5]
      refine jh9 (by simp [fn43]) hget ?_
      simp [push_cast, q3, q5]
      refine callK_RetVk (by simp [fn52]) (nd_get W h1 _ b hlen hm) fun h3 hk3 => ?_
      rw [hgv]
      generalize vIno c f j = r at *
      obtain ⟨e1, e2, e3⟩ := key h3 r.2 hk3
      simp [push_cast, inoV, e1, e2, e3]
set_option maxRecDepth 20000 in
set_option maxHeartbeats 8000000 in
theorem vw_open (v : VIs h R c base f w) (i : Int) : RetVk (CC W) 40 [.ptr (some (.new R.kv 0)), .int .i64 i] h (inoV (vOpen c f i)) := by
  refine jj9 (cc_ok W) (fn40 W) (by simp only [Try.f40]; rfl) rfl rfl ?_
  have ha := alloc_inoC (W := W) (h := h)
  have hK := Keeps.push h (.cells (inoC .zero) 33)
  have hg : (h.push (.cells (inoC .zero) 33)).get h.next = some (.cells (inoC .zero) 33) := by simp
  have hlt : h.next < (h.push (.cells (inoC .zero) 33)).next := by simp
  have hkk : h.next ≤ h.next := Nat.le_refl _
  generalize h.push (.cells (inoC .zero) 33) = h1 at ha hK hg hlt
  generalize hkn : h.next = kn at ha hg hlt hkk
  have v1 := v.keeps hK
  simp [push_cast, ha]
  refine callK_RetVk (by simp [fn23]) (vw_inode v1 i) fun h2 hk2 => ?_
  unfold vOpen
  generalize vIno c f i = r at *
  obtain ⟨e, n⟩ := r
  have hg2 := (hk2.2 kn hlt).trans hg
  have hlt2 := Nat.lt_of_lt_of_le hlt hk2.1
  have ha2 := alloc_inoC (W := W) (h := h2)
  have hK2 := Keeps.push h2 (.cells (inoC .zero) 33)
  have hg3 : (h2.push (.cells (inoC .zero) 33)).get h2.next = some (.cells (inoC .zero) 33) := by simp
  have hg4 : (h2.push (.cells (inoC .zero) 33)).get kn = some (.cells (inoC .zero) 33) := (hK2.2 kn hlt2).trans hg2
  have hne : kn ≠ h2.next := by omega
  have hn2 := hk2.1
  generalize h2.push (.cells (inoC .zero) 33) = h3 at ha2 hK2 hg3 hg4
  generalize hkm : h2.next = km at ha2 hg3 hne hlt2 hn2
  have hst := st_inoC (W := W) n hg3 rfl
  have hg5 : (h3.set km (.cells (inoC n) 33)).get km = some (.cells (inoC n) 33) := by simp
  have hg6 : (h3.set km (.cells (inoC n) 33)).get kn = some (.cells (inoC .zero) 33) := by rw [AH.get_set, if_neg hne]; exact hg4
  have hK3 : Keeps h (h3.set km (.cells (inoC n) 33)) := ((hK.trans hk2).trans hK2).set (by have := hK.1; omega) _
  generalize h3.set km (.cells (inoC n) 33) = h4 at *
  have hld := ld_inoC (W := W) hg5
  have hkd := cell_ino (W := W) (o := 0) hg5 rfl
  have hst2 := st_inoC (W := W) n hg6 rfl
  have hld2 : aLoad (CC W) (h4.set kn (.cells (inoC n) 33)) 33 (.new kn 0) = some (.agg (inoC n)) := ld_inoC (t := 33) (by simp)
  have hK4 : Keeps h (h4.set kn (.cells (inoC n) 33)) := hK3.set (by omega) _
  by_cases e0 : e = 0
  · subst e0
    by_cases k0 : n.kd = 0
    · simp [push_cast, inoV, ha2, hst, fa33_0, hkd, k0, hld, hst2, hld2, hK4]
    · have k0' : ¬ (n.kd : Int) = 0 := by omega
      simp [push_cast, inoV, ha2, hst, fa33_0, hkd, k0, k0', hld, hst2, hld2, hK4]
  · have e0' : ((e : Int) == 0) = false := by simp [e0]
    rw [if_neg (fun hc => e0 hc.1)]
    simp [push_cast, inoV, ha2, hst, e0', hld, hst2, hld2, hK4]
set_option maxRecDepth 20000 in
set_option maxHeartbeats 8000000 in
theorem vw_at (v : VIs h R c base f w) (i x : Int) : RetVk (CC W) 22 [.ptr (some (.new R.kv 0)), .int .i64 i, .int .i64 x] h (.tup [.int .i64 (vAt c f i x).2, .int .i64 (vAt c f i x).1]) := by
  refine jj9 (cc_ok W) (fn22 W) (by simp only [Try.f22]; rfl) rfl rfl ?_
  simp [push_cast]
  refine callK_RetVk (by simp [fn23]) (vw_inode v i) fun h2 hk2 => ?_
  unfold vAt
  generalize vIno c f i = r at *
  obtain ⟨e, n⟩ := r
  have ha2 := alloc_inoC (W := W) (h := h2)
  have hK2 := Keeps.push h2 (.cells (inoC .zero) 33)
  have hg3 : (h2.push (.cells (inoC .zero) 33)).get h2.next = some (.cells (inoC .zero) 33) := by simp
  have hlt3 : h2.next < (h2.push (.cells (inoC .zero) 33)).next := by simp
  have hkk : h2.next ≤ h2.next := Nat.le_refl _
  have hn2 := hk2.1
  generalize h2.push (.cells (inoC .zero) 33) = h3 at ha2 hK2 hg3 hlt3
  generalize hkm : h2.next = km at ha2 hg3 hlt3 hkk hn2
  have hst := st_inoC (W := W) n hg3 rfl
  have hg5 : (h3.set km (.cells (inoC n) 33)).get km = some (.cells (inoC n) 33) := by simp
  have hK3 : Keeps h (h3.set km (.cells (inoC n) 33)) := (hk2.trans hK2).set (by omega) _
  generalize h3.set km (.cells (inoC n) 33) = h4 at *
  have hld := ld_inoC (W := W) hg5
  by_cases e0 : e = 0
  · subst e0
    simp [push_cast, inoV, ha2, hst]
    by_cases hx : x < 0 ∨ 4166 ≤ x
    · refine jh9 (by simp [fn51]) (nd_placeN W h4 x hx) ?_
      simp [push_cast, hx, hK3]
    · obtain ⟨y, rfl⟩ : ∃ y : Nat, x = y := ⟨x.toNat, by omega⟩
      have hy : y < 4166 := by omega
      have hp : ∃ a b d : Int, plcV y = .tup [.int .i64 a, .int .i64 b, .int .i64 d, .int .i64 0] := by
        unfold plcV
        split
        · exact ⟨_, _, _, rfl⟩
        · split
          · exact ⟨_, _, _, rfl⟩
          · exact ⟨_, _, _, rfl⟩
      obtain ⟨a, b, d, hp⟩ := hp
      refine jh9 (by simp [fn51]) (nd_place W h4 y hy) ?_
      rw [hp]
      simp [push_cast, hld]
      refine callK_RetVk (by simp [fn47]) (vw_look (v.keeps hK3) n hy) fun h5 hk5 => ?_
      have hx2 : (if (y : Int) < 0 ∨ 4166 ≤ (y : Int) then ((1 : Nat), (0 : Nat)) else (0, vLook c f n y)) = (0, vLook c f n y) := if_neg hx
      simp [push_cast, hx2]
      exact hK3.trans hk5
  · have e0' : ¬ (e : Int) = 0 := by omega
    simp [push_cast, inoV, ha2, hst, e0, e0', hK3]
set_option maxRecDepth 20000 in
set_option maxHeartbeats 8000000 in
theorem vw_free (v : VIs h R c base f w) : RetH (CC W) 21 [.ptr (some (.new R.kv 0))] h (.int .i64 (vFree c f)) := by
  refine jj9 (cc_ok W) (fn21 W) (by simp only [Try.f21]; rfl) rfl rfl ?_
  have hok := v.ok
  have hd := hok.dt0
  have hbm : c.bm < c.B := by omega
  have h4 := v.cell (W := W) (o := 4) (n := c.bm) (fun _ _ _ => rfl)
  have h6 := v.cell (W := W) (o := 6) (n := c.dt) (fun _ _ _ => rfl)
  have h7 := v.cell (W := W) (o := 7) (n := ((c.B - c.dt : Nat) : Int)) (fun _ _ _ => rfl)
  have h0 := v.cell (W := W) (o := 0) (n := c.B) (fun _ _ _ => rfl)
  have hle := bt_count W h (f c.bm) c.dt (c.B - c.dt) (v.len hbm) (by omega)
  rw [show (c.dt : Int) + ((c.B - c.dt : Nat) : Int) = c.B by omega] at hle
  have hcl := cntB_le (f c.bm) c.dt (c.B - c.dt)
  have hfr : vFree c f = c.B - c.dt - cntB (f c.bm) c.dt (c.B - c.dt) := rfl
  have hget := vw_get W h v hbm
  generalize cntB (f c.bm) c.dt (c.B - c.dt) = z at *
  generalize hq : c.B - c.dt = q at *
  have hw : IntKind.i64.wrap ((q : Int) - (z : Int)) = ((q - z : Nat) : Int) := by rw [show (q : Int) - (z : Int) = ((q - z : Nat) : Int) by omega]; exact wrap64 (by omega) (by omega)
  simp [push_cast, aEq, kind26, kindEq1, aEq1]
  refine drawS [0, 1, 2, 3, 4, 5, 7, 8, 9, 10, 11, 12, 13, 14, 15, 16, 6, 17, 18, 19, 20, 21, 22] (by kernel_rfl) (by kernel_rfl) ?_
  simp [push_cast, zx9, zy9, SgO, opA, isE, isRead, jd9, fa85_1, fa85_0, fa77_1, fa77_3, fa23_0, h4, h6, h0]
  refine jb9 (f := 43) (args := [.ptr (some (.new R.kv 0)), .int .i64 c.bm]) (by rfl) (by rfl) (by rfl) (by simp [fn43]) hget fun x h1 ⟨hx, hh⟩ => ?_
  subst hx hh
  refine ⟨?_, ?_⟩
  · simp only [zz9, ja9]
    refine ⟨fun _ => ?_, fun _ => ?_, fun _ => ?_, trivial⟩ <;> simp [push_cast, opA, h4, h6, h0]
  simp [push_cast, zx9, zy9, SgO, opA, isE, isRead]
  refine jb9 (f := 50) (args := [.str (f c.bm), .int .i64 c.dt, .int .i64 c.B]) (by rfl) (by rfl) (by rfl) (by simp [fn50]) hle fun x h2 ⟨hx, hh⟩ => ?_
  subst hx hh
  refine ⟨?_, ?_⟩
  · simp only [zz9, ja9]
    refine ⟨fun _ => ?_, fun _ => ?_, fun _ => ?_, trivial⟩ <;> simp [push_cast, opA, h4, h6, h0]
  simp [push_cast, zx9, zy9, SgO, opA, isE, isRead, jd9, fa85_1, fa77_4, h7, hw, hfr]
end
end Go.Proofs.Ytgcoipcnhmkeaaa.Ax
end

/-! A view: an inode is set -/
section
set_option linter.unusedVariables false
set_option linter.unusedSimpArgs false
namespace Go.Proofs.Ytgcoipcnhmkeaaa.Ax
open Go.RowKit

theorem vIno_six {c : Cf} {f : Dsk} {i : Int} : (vIno c f i).1 = 6 ↔ (i < 0 ∨ (c.N : Int) ≤ i) := by
  unfold vIno
  split
  · rename_i h; simp [h]
  · rename_i h
    split <;> simp [h]
section
variable {W : World} {h : AH} {R : VR} {c : Cf} {base f : Dsk} {w : Option Dsk}
/-- What Set puts: a table's block with an inode, or what is wrong with it. -/
def SetPut (W : World) (b : Bts) (k : Nat) (cs : List AV) (r : Bts × Int) : Prop := ∀ h : AH, RetVk (CC W) 49 [.str b, .int .i64 k, .agg cs] h (.tup [.str r.1, .int .i64 r.2])
set_option maxRecDepth 20000 in
set_option maxHeartbeats 16000000 in
theorem vw_setG (v : VIs h R c base f w) (i : Int) (kd ln sz : Int) (d : Nat → Int) (sg db : Int) (r : Bts × Int) (hp : ¬ (i < 0 ∨ (c.N : Int) ≤ i) → SetPut W (f (c.tb + i.toNat / 4)) (i.toNat % 4) (zC kd ln sz d sg db) r) (hr : r.2 = 0 → r.1.length = 128) (hr0 : 0 ≤ r.2) :
    ACall (CC W) 16 [.ptr (some (.new R.kv 0)), .int .i64 i, .agg (zC kd ln sz d sg db)] h
      (fun x h' => x = .int .i64 (if i < 0 ∨ (c.N : Int) ≤ i then 6 else r.2) ∧ VIs h' R c base (if i < 0 ∨ (c.N : Int) ≤ i then f else if r.2 = 0 then upd f (c.tb + i.toNat / 4) r.1 else f) w ∧ VOff R h h') (fun _ _ => False) := by
  refine jj9 (cc_ok W) (fn16 W) (by simp only [Try.f16]; rfl) rfl rfl ?_
  have hok := v.ok
  have hbx := box_ino (h := h) (l := zC kd ln sz d sg db)
  have hK := Keeps.push h (.cells (zC kd ln sz d sg db) 33)
  have hg : (h.push (.cells (zC kd ln sz d sg db) 33)).get h.next = some (.cells (zC kd ln sz d sg db) 33) := by simp
  have hlt : h.next < (h.push (.cells (zC kd ln sz d sg db) 33)).next := by simp
  have hkk : h.next ≤ h.next := Nat.le_refl _
  generalize h.push (.cells (zC kd ln sz d sg db) 33) = h1 at hbx hK hg hlt
  generalize hkn : h.next = kn at hbx hg hlt hkk
  have v1 := v.keeps hK
  simp [push_cast, hbx]
  refine callK_RetVk (by simp [fn23]) (vw_inode v1 i) fun h2 hk2 => ?_
  have hsix := vIno_six (c := c) (f := f) (i := i)
  generalize vIno c f i = q at *
  obtain ⟨e, n⟩ := q
  have hg2 := (hk2.2 kn hlt).trans hg
  have hlt2 := Nat.lt_of_lt_of_le hlt hk2.1
  have ha2 := alloc_inoC (W := W) (h := h2)
  have hK2 := Keeps.push h2 (.cells (inoC .zero) 33)
  have hg3 : (h2.push (.cells (inoC .zero) 33)).get h2.next = some (.cells (inoC .zero) 33) := by simp
  have hg4 := (hK2.2 kn hlt2).trans hg2
  have hlt3 : h2.next < (h2.push (.cells (inoC .zero) 33)).next := by simp
  have hne : kn ≠ h2.next := by omega
  have hn2 := hk2.1
  generalize h2.push (.cells (inoC .zero) 33) = h3 at ha2 hK2 hg3 hg4 hlt3
  generalize hkm : h2.next = km at ha2 hg3 hne hlt2 hn2 hlt3
  have hst := st_inoC (W := W) n hg3 rfl
  have hg6 : (h3.set km (.cells (inoC n) 33)).get kn = some (.cells (zC kd ln sz d sg db) 33) := by rw [AH.get_set, if_neg hne]; exact hg4
  have hK3 : Keeps h (h3.set km (.cells (inoC n) 33)) := ((hK.trans hk2).trans hK2).set (by have := hK.1; omega) _
  generalize h3.set km (.cells (inoC n) 33) = h4 at *
  have hld := ld_ino (W := W) hg6
  have v4 := v.keeps hK3
  by_cases ho : i < 0 ∨ (c.N : Int) ≤ i
  · have e6 : e = 6 := hsix.2 ho
    subst e6
    simp [push_cast, inoV, ha2, hst, ho]
    exact ⟨v4, VOff.of hK3⟩
  · have e6 : ¬ e = 6 := fun he => ho (hsix.1 he)
    have e6' : ¬ (e : Int) = 6 := by omega
    have hp := hp ho
    obtain ⟨j, rfl⟩ : ∃ j : Nat, i = j := ⟨i.toNat, by omega⟩
    have hj : j < c.N := by omega
    rw [Int.toNat_natCast] at hp
    simp only [Int.toNat_natCast, if_neg ho]
    have hN := hok.n2
    have htb := hok.tbl hj
    have hdt := hok.dt0
    have h5 := v4.cell (W := W) (o := 5) (n := c.tb) (fun _ _ _ => rfl)
    have q1 : IntKind.i64.wrap ((j : Int) / 4) = ((j / 4 : Nat) : Int) := wrap64 (by omega) (by omega)
    have q2 : IntKind.i64.wrap ((c.tb : Int) + ((j / 4 : Nat) : Int)) = ((c.tb + j / 4 : Nat) : Int) := wrap64 (by omega) (by omega)
    have q3 : Int.tmod (j : Int) 4 = ((j % 4 : Nat) : Int) := rfl
    have q4 : Int.tdiv (j : Int) 4 = (j : Int) / 4 := rfl
    have q5 : (j : Int) % 4 = ((j % 4 : Nat) : Int) := by omega
    have hget := vw_get W h4 v4 (x := c.tb + j / 4) (by omega)
    have hm : j % 4 < 4 := Nat.mod_lt _ (by decide)
    have hxB : c.tb + j / 4 < c.B := by omega
    generalize j / 4 = a at *
    generalize j % 4 = b at *
    generalize hx : c.tb + a = x at *
    simp [push_cast, inoV, ha2, hst, e6, e6']
    refine drawS [0, 1, 2, 3, 4, 5, 6, 7, 8, 10, 11, 12, 9, 13, 14, 15, 16, 17, 18] (by kernel_rfl) (by kernel_rfl) ?_
    simp [push_cast, zx9, zy9, SgO, opA, isE, isRead, jd9, fa85_1, fa77_2, h5, hld, q1, q2, q3, q4, q5]
    refine jb9 (f := 43) (args := [.ptr (some (.new R.kv 0)), .int .i64 x]) (by rfl) (by rfl) (by rfl) (by simp [fn43]) hget fun y h6 ⟨hy, hh⟩ => ?_
    subst hy hh
    refine ⟨?_, ?_⟩
    · simp only [zz9, ja9]
      refine ⟨fun _ => ?_, fun _ => ?_, trivial⟩ <;> simp [push_cast, opA, h5, hld]
    simp [push_cast, zx9, zy9, SgO, opA, isE, isRead]
    refine jb9 (f := 49) (args := [.str (f x), .int .i64 b, .agg (zC kd ln sz d sg db)]) (by rfl) (by rfl) (by rfl) (by simp [fn49]) (hp h6) fun y h7 ⟨hy, hk7⟩ => ?_
    subst hy
    refine ⟨?_, ?_⟩
    · simp only [zz9, ja9]
      refine ⟨fun hr => absurd hr (by decide), fun hr => absurd hr (by decide), trivial⟩
    have v7 := v4.keeps hk7
    have h5 := v7.cell (W := W) (o := 5) (n := c.tb) (fun _ _ _ => rfl)
    have hcond : ¬ ((j : Int) < 0 ∨ (c.N : Int) ≤ (j : Int)) := ho
    by_cases hr2 : r.2 = 0
    · simp [push_cast, zx9, zy9, SgO, opA, isE, isRead, hr2, jd9, fa85_1, fa77_2, h5, q1, q2, q4]
      refine je9 (by simp [fn44]) (vw_put W h7 v7 hxB (hr hr2)) fun y h8 ⟨hy, v8, ho8⟩ => ?_
      subst hy
      simp [push_cast, hr2]
      exact ⟨v8, ((VOff.of hK3).trans (VOff.of hk7)).trans ho8⟩
    · simp [push_cast, zx9, zy9, SgO, opA, isE, isRead, hr2]
      exact ⟨v7, (VOff.of hK3).trans (VOff.of hk7)⟩
theorem vw_set (v : VIs h R c base f w) (i : Int) (n : Ino) (h6 : n.dr.length = 6) : RetVw W 16 [.ptr (some (.new R.kv 0)), .int .i64 i, .agg (inoC n)] h R c base w (.int .i64 (vSetN c f i n).1) (vSetN c f i n).2 := by
  have hok := v.ok
  have hdt := hok.dt0
  have hlen : ¬ (i < 0 ∨ (c.N : Int) ≤ i) → (f (c.tb + i.toNat / 4)).length = 128 ∧ i.toNat % 4 < 4 := fun ho => ⟨v.len (by have := hok.tbl (i := i.toNat) (by omega); omega), Nat.mod_lt _ (by decide)⟩
  cases hn : inoOk n with
  | true =>
    have hI := inoOk_iff.1 hn
    by_cases ho : i < 0 ∨ (c.N : Int) ≤ i
    · refine (vw_setG v i n.kd n.ln n.sz (inoD n) n.sg n.db ([], 1) (fun hno => absurd ho hno) (by simp) (by simp)).mono (fun x h' ⟨e1, e2, e3⟩ => ?_) fun _ _ => id
      rw [if_pos ho] at e1 e2
      unfold vSetN
      rw [if_pos ho]
      exact ⟨e1, e2, e3⟩
    · obtain ⟨l1, l2⟩ := hlen ho
      refine (vw_setG v i n.kd n.ln n.sz (inoD n) n.sg n.db (putI (f (c.tb + i.toNat / 4)) (i.toNat % 4) n, 0) (fun _ => fun h => nd_put W h _ _ l1 l2 n hI) (fun _ => putI_len l1 l2 h6) (by simp)).mono (fun x h' ⟨e1, e2, e3⟩ => ?_) fun _ _ => id
      rw [if_neg ho] at e1 e2
      unfold vSetN
      rw [if_neg ho, if_pos hn]
      exact ⟨e1, e2, e3⟩
  | false =>
    have hc := chk_ino h6
    rw [hn] at hc
    refine (vw_setG v i n.kd n.ln n.sz (inoD n) n.sg n.db ([], 120) (fun hno => fun h => nd_put_bad W h _ _ (hlen hno).1 (hlen hno).2 _ _ _ _ _ _ hc) (by simp) (by simp)).mono (fun x h' ⟨e1, e2, e3⟩ => ?_) fun _ _ => id
    unfold vSetN
    by_cases ho : i < 0 ∨ (c.N : Int) ≤ i
    · rw [if_pos ho] at e1 e2 ⊢
      exact ⟨e1, e2, e3⟩
    · rw [if_neg ho] at e1 e2 ⊢
      rw [if_neg (by simp [hn])]
      exact ⟨e1, e2, e3⟩
end
end Go.Proofs.Ytgcoipcnhmkeaaa.Ax
end

/-! A view: bytes are read -/
section
set_option linter.unusedVariables false
set_option linter.unusedSimpArgs false
namespace Go.Proofs.Ytgcoipcnhmkeaaa.Ax
open Go.RowKit

theorem aMax2 {a b : Int} : aMax [.int .i64 a, .int .i64 b] = some (.int .i64 (max a b)) := by
  show some (AV.int .i64 (if b > a then b else a)) = _
  congr 2
  split <;> omega
theorem aMin2 {a b : Int} : aMin [.int .i64 a, .int .i64 b] = some (.int .i64 (min a b)) := by
  show some (AV.int .i64 (if b < a then b else a)) = _
  congr 2
  split <;> omega

section
variable {W : World} {h : AH} {R : VR} {c : Cf} {base f : Dsk} {w : Option Dsk}
theorem look_B (k : c.OK) (f : Dsk) (n : Ino) (x : Nat) : vLook c f n x < c.B := by rw [look_ptr, ← ptr_dat]; exact datB k _
end
end Go.Proofs.Ytgcoipcnhmkeaaa.Ax
end

/-! A view: bytes are written -/
section
set_option linter.unusedVariables false
set_option linter.unusedSimpArgs false
namespace Go.Proofs.Ytgcoipcnhmkeaaa.Ax
open Go.RowKit

/-- What a change leaves that may move the changes to another own block. -/
structure VMov (R : VR) (h : AH) (R' : VR) (h' : AH) : Prop where
  nx : h.next ≤ h'.next
  kv : R'.kv = R.kv
  kb : R'.kb = R.kb
  ko : R'.ko = R.ko ∨ h.next ≤ R'.ko
  kw : R'.kw = R.kw ∨ ∃ k, R'.kw = some k ∧ h.next ≤ k
  off : ∀ k, k < h.next → k ≠ R.kv → k ≠ R.ko → h'.get k = h.get k
theorem VMov.of {R : VR} {h h' : AH} (o : VOff R h h') : VMov R h R h' := ⟨o.1, rfl, rfl, .inl rfl, .inl rfl, fun k hk _ h2 => o.2 k hk h2⟩
theorem VMov.trans {R1 R2 R3 : VR} {a b d : AH} (x : VMov R1 a R2 b) (y : VMov R2 b R3 d) : VMov R1 a R3 d where
  nx := Nat.le_trans x.nx y.nx
  kv := y.kv.trans x.kv
  kb := y.kb.trans x.kb
  ko := by
    rcases y.ko with e | e
    · rcases x.ko with e2 | e2
      · exact .inl (e.trans e2)
      · exact .inr (by rw [e]; exact e2)
    · exact .inr (Nat.le_trans x.nx e)
  kw := by
    rcases y.kw with e | ⟨k, e, e2⟩
    · rcases x.kw with e3 | ⟨k, e3, e4⟩
      · exact .inl (e.trans e3)
      · exact .inr ⟨k, e.trans e3, e4⟩
    · exact .inr ⟨k, e, Nat.le_trans x.nx e2⟩
  off := fun k hk h1 h2 => by
    rw [y.off k (Nat.lt_of_lt_of_le hk x.nx) (by rw [x.kv]; exact h1) (fun e => by
      rcases x.ko with e2 | e2
      · exact h2 (e.trans e2)
      · omega)]
    exact x.off k hk h1 h2
/-- Where a view lies behind a change. -/
def VEnd (R : VR) (h : AH) (c : Cf) (base f' : Dsk) (h' : AH) : Prop := ∃ R' w', VIs h' R' c base f' w' ∧ VMov R h R' h'
def setSz (n : Ino) (z : Nat) : Ino := { n with sz := z }
/-- A call that changes a view. -/
def RetVm (W : World) (fn : FuncId) (args : List AV) (h : AH) (R : VR) (c : Cf) (base : Dsk) (r : AV) (f' : Dsk) : Prop :=
  ACall (CC W) fn args h (fun x h' => x = r ∧ VEnd R h c base f' h') (fun _ _ => False)
theorem callK_Vm {W : World} {Q : Post} {ks : List Fr} {e : Env} {h : AH} {ops : Array Oper} {rest : List Oper} {dst : Option Tmp} {fn : FuncId} {args : List AV} {R : VR} {c : Cf} {base : Dsk} {r : AV} {f' : Dsk} (hf : ((CC W).fn fn).isSome = true) (hc : RetVm W fn args h R c base r f')
    (hk : ∀ R' w' h', VIs h' R' c base f' w' → VMov R h R' h' → Rg (CC W) Q ops rest ks (za9 e dst r) h') : CallK (CC W) Q ops rest ks e dst fn args h :=
  je9 hf hc fun x h' hx => by obtain ⟨e1, R', w', v', m'⟩ := hx; rw [e1]; exact hk R' w' h' v' m'

def WrJ (h0 : AH) (R : VR) (c : Cf) (base : Dsk) (w : Option Dsk) (km kc a E : Nat) (data : Bts) (g0 : Nat → Option Bts) (tot : Option (Ino × Dsk)) (iv : AV) (m : Nat) (e' : Env) (h' : AH) : Prop :=
  e'.length = 117 ∧ ∃ (k : Nat) (n : Ino) (f : Dsk), k + m = a / 128 + wrCount a data.length ∧ a / 128 ≤ k ∧ VIs h' R c base f w ∧ h'.get km = some (.cells (inoC n) 33) ∧ OvIs h' kc g0 ∧ InoOK n ∧ n.kd ≠ 0 ∧ vWr c a data m k n f = tot ∧
    h0.next ≤ h'.next ∧ (∀ j, j < h0.next → j ≠ R.ko → j ≠ km → h'.get j = h0.get j) ∧
    (e'.getD 0 .undef = .ptr (some (.new R.kv 0)) ∧ e'.getD 1 .undef = iv ∧ e'.getD 2 .undef = .int .i64 a ∧ e'.getD 3 .undef = .str data ∧ e'.getD 9 .undef = .ptr (some (.new km 0)) ∧ e'.getD 11 .undef = .map (some kc) ∧ e'.getD 12 .undef = .int .i64 E ∧ e'.getD 13 .undef = .int .i64 k)
theorem cloneD_ret (W : World) (h : AH) (km clock : Nat) (es : List AEnt) (hg : h.get km = some (.map es clock)) :
    ACall (CC W) 41 [.map (some km)] h (fun w h' => w = .map (some h.next) ∧ h' = h.push (.map es clock)) (fun _ _ => False) := by
  refine jj9 (cc_ok W) (fn41 W) (by simp only [Try.f41]; rfl) rfl rfl ?_
  simp [push_cast, aEq, kind83, kindEq1, aEq1, cloneA, hg, aAssert]
/-- A copy of a map of blocks. -/
theorem ov_clone (W : World) (h : AH) {ko : Nat} {g : Nat → Option Bts} (o : OvIs h ko g) :
    ACall (CC W) 41 [.map (some ko)] h (fun w h' => w = .map (some h.next) ∧ Keeps h h' ∧ OvIs h' h.next g) (fun _ _ => False) := by
  obtain ⟨es, clock, h1, h2, h3, h4⟩ := o.map
  refine (cloneD_ret W h ko clock es h1).mono (fun w h' ⟨e1, e2⟩ => ⟨e1, ?_, ?_⟩) fun _ _ => id
  · rw [e2]; exact Keeps.push _ _
  · rw [e2]; exact ⟨by simp, o.some_lt, es, clock, by simp, h2, h3, h4⟩
theorem st_map {W : World} {h : AH} {k o kc : Nat} {cs : List AV} {t : TypeId} (hg : h.get k = some (.cells cs t)) (ho : o < cs.length) : aStoreOp (CC W) h 83 (.ptr (some (.new k o))) (.map (some kc)) = some (h.set k (.cells (cs.set o (.map (some kc))) t)) := by
  have hsz : (CC W).size 83 = some 1 := rfl
  simp only [aStoreOp, aCellsOf, hsz, aStore, hg, List.length_singleton, if_true]
  rw [if_pos ⟨by omega, by rfl⟩, overlay_1 ho]
/-- Another map is the view's changes. -/
theorem VIs.turn {h : AH} {R : VR} {c : Cf} {base f f' : Dsk} {w : Option Dsk} (v : VIs h R c base f w) {kc : Nat} {g : Nat → Option Bts} (ho : OvIs h kc g) (hf : ∀ x, f' x = (g x).getD (base x)) (hB : ∀ x b, g x = some b → x < c.B) (ha : Apart R kc) :
    ∃ cap gr, h.get R.kv = some (.cells (vwC c (.sl (some (.new R.kb 0)) c.B cap gr) (.map (some R.ko)) (.map R.kw)) 85) ∧ VIs (h.set R.kv (.cells (vwC c (.sl (some (.new R.kb 0)) c.B cap gr) (.map (some kc)) (.map R.kw)) 85)) { R with ko := kc } c base f' w := by
  obtain ⟨cap, gr, hv⟩ := v.v
  refine ⟨cap, gr, hv, v.ok, ⟨cap, gr, by simp⟩, ?_, ⟨g, ?_, hf, hB⟩, ?_, by simpa using v.lv, by simpa using v.lb, by simpa using ho.lt, v.vb, fun e => ha.v e.symm, fun e => ha.b e.symm⟩
  · obtain ⟨cs, e, e2⟩ := v.b
    exact ⟨cs, by rw [AH.get_set, if_neg fun e => v.vb e.symm]; exact e, e2⟩
  · exact ho.same (by simp) (by rw [AH.get_set, if_neg ha.v])
  · have := v.w
    have haw := ha.w
    revert this haw
    cases R.kw with
    | none => intro _ _; cases w <;> assumption
    | some kw =>
      cases w with
      | none => exact fun h _ => h
      | some w =>
        rintro ⟨g1, g2, g3, g4, g, g5, g6⟩ haw
        exact ⟨by simpa using g1, g2, g3, fun e => haw (by rw [e]), g, g5.same (by simp) (by rw [AH.get_set, if_neg g2]), g6⟩
section
variable {W : World} {h : AH} {R : VR} {c : Cf} {base f : Dsk} {w : Option Dsk}
set_option maxRecDepth 100000 in
set_option maxHeartbeats 32000000 in
theorem vw_write (v : VIs h R c base f w) (i at_ : Int) (data : Bts) (h1a : -9223372036854775808 ≤ at_) (h1b : at_ < 9223372036854775808) (hdl : data.length < 9223372036854775808) : RetVm W 14 [.ptr (some (.new R.kv 0)), .int .i64 i, .int .i64 at_, .str data] h R c base (.int .i64 (vWrite c f i at_ data).1) (vWrite c f i at_ data).2 := by
  refine jj9 (cc_ok W) (fn14 W) (by simp only [Try.f14]; rfl) rfl rfl ?_
  have hok := v.ok
  simp [push_cast]
  refine callK_RetVk (by simp [fn40]) (vw_open v i) fun h2 hk2 => ?_
  have hok2 := fun (e : (vOpen c f i).1 = 0) => open_ok e
  obtain ⟨e, n, hq⟩ : ∃ e n, vOpen c f i = (e, n) := ⟨_, _, rfl⟩
  rw [hq] at hok2 ⊢
  have ha2 := alloc_inoC (W := W) (h := h2)
  have hK2 := Keeps.push h2 (.cells (inoC .zero) 33)
  have hg3 : (h2.push (.cells (inoC .zero) 33)).get h2.next = some (.cells (inoC .zero) 33) := by simp
  have hlt3 : h2.next < (h2.push (.cells (inoC .zero) 33)).next := by simp
  have hkk : h2.next ≤ h2.next := Nat.le_refl _
  have hn2 := hk2.1
  generalize h2.push (.cells (inoC .zero) 33) = h3 at ha2 hK2 hg3 hlt3
  generalize hkm : h2.next = km at ha2 hg3 hlt3 hkk hn2
  have hst := st_inoC (W := W) n hg3 rfl
  have hg5 : (h3.set km (.cells (inoC n) 33)).get km = some (.cells (inoC n) 33) := by simp
  have hlt5 : km < (h3.set km (.cells (inoC n) 33)).next := by simpa using hlt3
  have hK3 : Keeps h (h3.set km (.cells (inoC n) 33)) := (hk2.trans hK2).set (by omega) _
  generalize h3.set km (.cells (inoC n) 33) = h4 at *
  have v4 := v.keeps hK3
  have stay : VEnd R h c base f h4 := ⟨R, w, v4, VMov.of (VOff.of hK3)⟩
  by_cases e0 : e = 0
  · subst e0
    obtain ⟨hI, hkd, hi0, hiN, _⟩ := hok2 rfl
    clear hok2
    by_cases c1 : at_ < 0
    · have hv : vWrite c f i at_ data = (1, f) := by unfold vWrite; rw [hq, if_neg (by simp), if_pos (.inl c1)]
      rw [hv]
      simp [push_cast, inoV, ha2, hst, c1, stay]
    have hlen9 : aLen (CC W) h4 9 (.str data) = some (.int .i64 data.length) := by simp [aLen, kind9]
    by_cases c2 : 1024 < data.length
    · have c2' : (1024 : Int) < data.length := by omega
      have hv : vWrite c f i at_ data = (1, f) := by unfold vWrite; rw [hq, if_neg (by simp), if_pos (.inr c2)]
      rw [hv]
      simp [push_cast, inoV, ha2, hst, c1, hlen9, c2, c2', stay]
    have c2' : ¬ (1024 : Int) < data.length := by omega
    by_cases c3 : data = []
    · have hv : vWrite c f i at_ data = (0, f) := by unfold vWrite; rw [hq, if_neg (by simp), if_neg (by omega), if_pos c3]
      rw [hv]
      subst c3
      simp [push_cast, inoV, ha2, hst, c1, hlen9, aStr, stay]
    have c3' : (data == []) = false := by simpa using c3
    have hws : IntKind.i64.wrap (533248 - (data.length : Int)) = 533248 - (data.length : Int) := wrap64 (by omega) (by omega)
    by_cases c4 : 533248 < at_ + data.length
    · have c4' : 533248 - (data.length : Int) < at_ := by omega
      have hv : vWrite c f i at_ data = (307, f) := by unfold vWrite; rw [hq, if_neg (by simp), if_neg (by omega), if_neg c3, if_pos c4]
      rw [hv]
      simp [push_cast, inoV, ha2, hst, c1, c2, c2', hlen9, aStr, c3, c3', hws, c4, c4', stay]
    have c4' : ¬ 533248 - (data.length : Int) < at_ := by omega
    obtain ⟨a, rfl⟩ : ∃ a : Nat, at_ = a := ⟨at_.toNat, by omega⟩
    obtain ⟨j, rfl⟩ : ∃ j : Nat, i = j := ⟨i.toNat, by omega⟩
    have hgoal : vWrite c f (j : Int) (a : Int) data = match vWr c a data (wrCount a data.length) (a / 128) n f with | none => (306, f) | some r => vSetN c r.2 j (setSz r.1 (max r.1.sz (a + data.length))) := by
      unfold vWrite
      rw [hq, if_neg (by simp), if_neg (by omega), if_neg c3, if_neg c4]
      rfl
    rw [hgoal]
    have hdp : 0 < data.length := List.length_pos_iff.2 c3
    obtain ⟨cap, gr, hv⟩ := v4.v
    have hm := ld_map (W := W) (o := 9) hv rfl
    obtain ⟨g0, hg0, hf0, hgB0⟩ := v4.o
    simp [push_cast, inoV, ha2, hst, c1, c2, c2', hlen9, aStr, c3, c3', hws, c4, c4', jd9, fa85_3, hm]
    refine je9 (by simp [fn41]) (ov_clone W h4 hg0) fun x h5 ⟨hx, hk5, hov5⟩ => ?_
    subst hx
    have v5 := v4.keeps hk5
    have hg5' := (hk5.2 km hlt5).trans hg5
    have hlen9' : aLen (CC W) h5 9 (.str data) = some (.int .i64 data.length) := by simp [aLen, kind9]
    obtain ⟨E, hE⟩ : ∃ E, E = a + data.length := ⟨_, rfl⟩
    have q1 : IntKind.i64.wrap ((a : Int) + (data.length : Int)) = (E : Int) := by rw [show (a : Int) + (data.length : Int) = (E : Int) by omega]; exact wrap64 (by omega) (by omega)
    have q2 : IntKind.i64.wrap ((a : Int) / 128) = ((a / 128 : Nat) : Int) := wrap64 (by omega) (by omega)
    have q3 : Int.tdiv (a : Int) 128 = (a : Int) / 128 := rfl
    have hkc : h4.next ≤ h4.next := Nat.le_refl _
    generalize hkce : h4.next = kc at hov5 hkc
    have hkmc : km < kc := by omega
    have hapm : Apart R km := ⟨by have := v.lv; omega, by have := v.lb; omega, by have := v.lo; omega, fun e => by
      have := v.w
      rw [e] at this
      cases w with
      | none => exact this
      | some w => have := this.1; omega⟩
    have hapc : Apart R kc := ⟨by have := v4.lv; omega, by have := v4.lb; omega, by have := v4.lo; omega, fun e => by
      have := v4.w
      rw [e] at this
      cases w with
      | none => exact this
      | some w => have := this.1; omega⟩
    obtain ⟨tot, htot⟩ : ∃ tot, tot = vWr c a data (wrCount a data.length) (a / 128) n f := ⟨_, rfl⟩
    rw [← htot]
    have hK5 : Keeps h h5 := hK3.trans hk5
    simp [push_cast, hlen9', q1, q2, q3]
    refine loopN (cc_ok W) (WrJ h5 R c base w km kc a E data g0 tot (.int .i64 (j : Int))) (wrCount a data.length) ⟨by simp, a / 128, n, f, rfl, Nat.le_refl _, v5, hg5', hov5, hI, hkd, htot.symm, Nat.le_refl _, fun _ _ _ _ => rfl, by simp⟩ ?_
    clear htot
    rintro m e' h6 ⟨hlen, k, n1, f1, hkm6, hak, v6, hg6, hov6, hI6, hkd6, htot, hnx, hoff, hh⟩
    obtain ⟨a0, a1, a2, a3, a4, a5, a6, a7, a8, a9, rS0, rfl, hS0⟩ := un10 hlen
    obtain ⟨a10, a11, a12, a13, a14, a15, a16, a17, a18, a19, rS10, rfl, hS10⟩ := un10 hS0
    obtain ⟨a20, a21, a22, a23, a24, a25, a26, a27, a28, a29, rS20, rfl, hS20⟩ := un10 hS10
    obtain ⟨a30, a31, a32, a33, a34, a35, a36, a37, a38, a39, rS30, rfl, hS30⟩ := un10 hS20
    obtain ⟨a40, a41, a42, a43, a44, a45, a46, a47, a48, a49, rS40, rfl, hS40⟩ := un10 hS30
    obtain ⟨a50, a51, a52, a53, a54, a55, a56, a57, a58, a59, rS50, rfl, hS50⟩ := un10 hS40
    obtain ⟨a60, a61, a62, a63, a64, a65, a66, a67, a68, a69, rS60, rfl, hS60⟩ := un10 hS50
    obtain ⟨a70, a71, a72, a73, a74, a75, a76, a77, a78, a79, rS70, rfl, hS70⟩ := un10 hS60
    obtain ⟨a80, a81, a82, a83, a84, a85, a86, a87, a88, a89, rS80, rfl, hS80⟩ := un10 hS70
    obtain ⟨a90, a91, a92, a93, a94, a95, a96, a97, a98, a99, rS90, rfl, hS90⟩ := un10 hS80
    obtain ⟨a100, a101, a102, a103, a104, a105, a106, a107, a108, a109, rS100, rfl, hS100⟩ := un10 hS90
    obtain ⟨a110, rS110, rfl, hS110⟩ := un1 hS100
    obtain ⟨a111, rS111, rfl, hS111⟩ := un1 hS110
    obtain ⟨a112, rS112, rfl, hS112⟩ := un1 hS111
    obtain ⟨a113, rS113, rfl, hS113⟩ := un1 hS112
    obtain ⟨a114, rS114, rfl, hS114⟩ := un1 hS113
    obtain ⟨a115, rS115, rfl, hS115⟩ := un1 hS114
    obtain ⟨a116, rS116, rfl, hS116⟩ := un1 hS115
    obtain rfl := un0 hS116
    clear hlen hS0 hS10 hS20 hS30 hS40 hS50 hS60 hS70 hS80 hS90 hS100 hS110 hS111 hS112 hS113 hS114 hS115 hS116
    simp at hh
    obtain ⟨rfl, rfl, rfl, rfl, rfl, rfl, rfl, rfl⟩ := hh
    have hkm6l : km < h6.next := by have := hk5.1; omega
    have hkB : k ≤ 4166 := by unfold wrCount at hkm6; omega
    obtain ⟨kk, hkke⟩ : ∃ kk, kk = k * 128 := ⟨_, rfl⟩
    have q4 : IntKind.i64.wrap ((k : Int) * 128) = (kk : Int) := by rw [show (k : Int) * 128 = (kk : Int) by omega]; exact wrap64 (by omega) (by omega)
    have hend : E ≤ 533248 := by omega
    cases m with
    | zero =>
      have hge : ¬ kk < E := by unfold wrCount at hkm6; omega
      have hge' : ¬ (kk : Int) < (E : Int) := by omega
      have hsz := cell_ino (W := W) (o := 2) hg6 rfl
      obtain ⟨S, hS⟩ : ∃ S, S = max n1.sz E := ⟨_, rfl⟩
      have hst6 := st_cell (W := W) (n := (S : Int)) hg6 (o := 2) (by show 2 < 11; decide)
      rw [show (inoC n1).set 2 (.int .i64 (S : Int)) = inoC (setSz n1 S) from rfl] at hst6
      have hmx : max (n1.sz : Int) (E : Int) = (S : Int) := by omega
      have v7 := v6.set' hapm (.cells (inoC (setSz n1 S)) 33)
      have hld7 : aLoad (CC W) (h6.set km (.cells (inoC (setSz n1 S)) 33)) 33 (.new km 0) = some (.agg (inoC (setSz n1 S))) := ld_inoC (t := 33) (by simp)
      have hoff7 : VOff R h (h6.set km (.cells (inoC (setSz n1 S)) 33)) := ⟨by have := hK5.1; simp only [AH.next_set]; omega, fun z hz hne => by
        rw [AH.get_set, if_neg (by omega), hoff z (by have := hK5.1; omega) hne (by omega)]
        exact hK5.2 z hz⟩
      simp only [vWr] at htot
      subst htot
      simp only
      rw [← hE, ← hS]
      generalize h6.set km (.cells (inoC (setSz n1 S)) 33) = h7 at *
      simp [push_cast, q4, hge, hge', fa33_2, hsz, aMax2, hmx, hst6, hld7]
      refine callK_Vw (by simp [fn16]) (vw_set v7 (j : Int) (setSz n1 S) hI6.len) fun h8 v8 o8 => ?_
      simp [push_cast]
      exact ⟨R, w, v8, VMov.of (hoff7.trans o8)⟩
    | succ m =>
      have hlt : kk < E := by unfold wrCount at hkm6; omega
      have hlt' : (kk : Int) < (E : Int) := by omega
      have hk4 : k < 4166 := by omega
      have hak2 : a < (k + 1) * 128 := by omega
      have hgr := vw_grow (W := W) v6 hapm hkm6l hg6 hI6.len hk4
      obtain ⟨gok1, gok2, gok3⟩ := grow_ok hok f1 hI6 hkd6 k
      have hgB : (vGrow c f1 n1 k).1 < c.B := by
        unfold vGrow
        split
        · exact ensB hok _ _
        · split
          · split
            · show 0 < c.B; have := hok.dt0; omega
            · exact belowB hok _ _ _
          · split
            · show 0 < c.B; have := hok.dt0; omega
            · simp only
              split
              · show 0 < c.B; have := hok.dt0; omega
              · exact belowB hok _ _ _
      simp only [vWr] at htot
      generalize vGrow c f1 n1 k = gr at *
      obtain ⟨b, n2, f2⟩ := gr
      simp only at *
      obtain ⟨k1, hk1⟩ : ∃ k1, k1 = k + 1 := ⟨_, rfl⟩
      obtain ⟨ke, hke⟩ : ∃ ke, ke = k1 * 128 := ⟨_, rfl⟩
      have q0 : IntKind.i64.wrap ((k : Int) + 1) = (k1 : Int) := by rw [show (k : Int) + 1 = (k1 : Int) by omega]; exact wrap64 (by omega) (by omega)
      have q5 : IntKind.i64.wrap ((k1 : Int) * 128) = (ke : Int) := by rw [show (k1 : Int) * 128 = (ke : Int) by omega]; exact wrap64 (by omega) (by omega)
      obtain ⟨fr, hfr⟩ : ∃ fr, fr = max a kk := ⟨_, rfl⟩
      obtain ⟨to, hto⟩ : ∃ to, to = min E ke := ⟨_, rfl⟩
      have hmx : max (a : Int) (kk : Int) = (fr : Int) := by omega
      have hmn : min (E : Int) (ke : Int) = (to : Int) := by omega
      simp [push_cast, q4, hlt, hlt']
      refine callK_Vn (by simp [fn42]) hgr fun h7 v7 hg7 o7 => ?_
      have hnx7 : h5.next ≤ h7.next := Nat.le_trans hnx o7.1
      have hoff7 : ∀ z, z < h5.next → z ≠ R.ko → z ≠ km → h7.get z = h5.get z := fun z hz h1 h2 => (o7.2 z (Nat.lt_of_lt_of_le hz hnx) h1 h2).trans (hoff z hz h1 h2)
      have hov7 := hov6.same o7.1 (o7.2 kc hov6.lt hapc.o (by omega))
      by_cases b0 : b = 0
      · -- no room: the changes are what they were
        rw [if_pos b0] at htot
        subst htot
        simp only
        obtain ⟨cap7, gr7, hv7, hv8⟩ := v7.turn hov7 hf0 hgB0 hapc
        have hst7 := st_map (W := W) (o := 9) (kc := kc) hv7 (by show 9 < 11; decide)
        rw [show (vwC c (.sl (some (.new R.kb 0)) c.B cap7 gr7) (.map (some R.ko)) (.map R.kw)).set 9 (.map (some kc)) = vwC c (.sl (some (.new R.kb 0)) c.B cap7 gr7) (.map (some kc)) (.map R.kw) from rfl] at hst7
        simp [push_cast, b0, jd9, fa85_3, hst7]
        refine ⟨{ R with ko := kc }, w, hv8, ⟨?_, rfl, rfl, .inr (by have := hK3.1; show h.next ≤ kc; omega), .inl rfl, fun z hz h1 h2 => ?_⟩⟩
        · have := hK5.1; simp only [AH.next_set]; omega
        · rw [AH.get_set, if_neg h1, hoff7 z (by have := hK5.1; omega) h2 (by omega)]
          exact hK5.2 z hz
      · have b0' : ¬ (b : Int) = 0 := by omega
        rw [if_neg b0] at htot
        have hl7 := v7.len hgB
        -- the pieces
        have t1 : IntKind.i64.wrap ((fr : Int) - (kk : Int)) = ((fr - kk : Nat) : Int) := by rw [show (fr : Int) - (kk : Int) = ((fr - kk : Nat) : Int) by omega]; exact wrap64 (by omega) (by omega)
        have t2 : IntKind.i64.wrap ((fr : Int) - (a : Int)) = ((fr - a : Nat) : Int) := by rw [show (fr : Int) - (a : Int) = ((fr - a : Nat) : Int) by omega]; exact wrap64 (by omega) (by omega)
        have t3 : IntKind.i64.wrap ((to : Int) - (a : Int)) = ((to - a : Nat) : Int) := by rw [show (to : Int) - (a : Int) = ((to - a : Nat) : Int) by omega]; exact wrap64 (by omega) (by omega)
        have t4 : IntKind.i64.wrap ((to : Int) - (kk : Int)) = ((to - kk : Nat) : Int) := by rw [show (to : Int) - (kk : Int) = ((to - kk : Nat) : Int) by omega]; exact wrap64 (by omega) (by omega)
        have s1 : aSlice (CC W) 9 (.str (f2 b)) none (some (.int .i64 ((fr - kk : Nat) : Int))) none = some (.str ((f2 b).take (fr - kk))) := slice_hi (by omega)
        have s2 : aSlice (CC W) 9 (.str data) (some (.int .i64 ((fr - a : Nat) : Int))) (some (.int .i64 ((to - a : Nat) : Int))) none = some (.str ((data.drop (fr - a)).take (to - fr))) := by
          rw [slice_lohi (by omega) (by omega), List.drop_take, show to - a - (fr - a) = to - fr by omega]
        have s3 : aSlice (CC W) 9 (.str (f2 b)) (some (.int .i64 ((to - kk : Nat) : Int))) none none = some (.str ((f2 b).drop (to - kk))) := slice_lo (by omega)
        have hsp : splice (f2 b) k a data = (f2 b).take (fr - kk) ++ (data.drop (fr - a)).take (to - fr) ++ (f2 b).drop (to - kk) := by
          unfold splice
          rw [← hE, ← hk1, ← hke, ← hkke, ← hfr, ← hto]
        have hspl := splice_len (old := f2 b) (k := k) (at_ := a) (data := data) hl7 (by omega) (by omega)
        have hget := vw_get W h7 v7 hgB
        rw [hsp] at hspl htot
        have u1 : ((f2 b).take (fr - kk)).length ≤ 128 := by simp; omega
        have u2 : ((data.drop (fr - a)).take (to - fr)).length ≤ 1024 := by simp; omega
        have u3 : ((f2 b).drop (to - kk)).length ≤ 128 := by simp; omega
        generalize (f2 b).take (fr - kk) = p1 at *
        generalize (data.drop (fr - a)).take (to - fr) = p2 at *
        generalize (f2 b).drop (to - kk) = p3 at *
        generalize fr - kk = d1 at *
        generalize fr - a = d2 at *
        generalize to - a = d3 at *
        generalize to - kk = d4 at *
        have a1 := strAdd (x := p1) (y := p2) (by omega)
        have a2 := strAdd (x := p1 ++ p2) (y := p3) (by simp; omega)
        generalize p1 ++ p2 = p12 at *
        generalize p12 ++ p3 = pq at *
        simp [push_cast, b0, b0', q4, q0, q5, aMax2, aMin2, hmx, hmn]
        refine jh9 (by simp [fn43]) hget ?_
        simp [push_cast]
        refine drawS [0, 1, 2, 3, 4, 5, 6, 7, 8, 9, 10, 11, 12, 13, 14, 15, 16, 17, 18, 19, 20, 21, 22, 23, 24] (by kernel_rfl) (by kernel_rfl) ?_
        simp [push_cast, zx9, zy9, SgO, opA, isE, isRead, q4, t1, t2, t3, t4, s1, s2, s3, a1, a2]
        refine jb9 (f := 44) (args := [.ptr (some (.new R.kv 0)), .int .i64 b, .str pq]) (by rfl) (by rfl) (by rfl) (by simp [fn44]) (vw_put W h7 v7 hgB hspl) fun x h8 ⟨hx, v8, o8⟩ => ?_
        subst hx
        refine ⟨?_, ?_⟩
        · simp only [zz9, ja9]
        simp [push_cast, zx9, zy9, SgO, opA, isE, isRead, q0]
        have hkm7 : km < h7.next := Nat.lt_of_lt_of_le hkm6l o7.1
        exact ⟨m, by omega, by simp, k1, n2, upd f2 b pq, by omega, by omega, v8, (o8.2 km hkm7 hapm.o).trans hg7, hov7.same o8.1 (o8.2 kc hov7.lt hapc.o), gok1, by rw [gok2]; exact hkd6, by rw [hk1]; exact htot, Nat.le_trans hnx7 o8.1, fun z hz h1 h2 => (o8.2 z (Nat.lt_of_lt_of_le hz hnx7) h1).trans (hoff7 z hz h1 h2), by simp⟩
  · have e0' : ¬ (e : Int) = 0 := by omega
    have hv : vWrite c f i at_ data = (e, f) := by unfold vWrite; rw [hq, if_pos e0]
    rw [hv]
    simp [push_cast, inoV, ha2, hst, e0, e0', stay]
end
end Go.Proofs.Ytgcoipcnhmkeaaa.Ax
end

/-! A view: a file is cut -/
section
set_option linter.unusedVariables false
set_option linter.unusedSimpArgs false
namespace Go.Proofs.Ytgcoipcnhmkeaaa.Ax
open Go.RowKit

/-- The changes ahead of a cut are noted. -/
theorem VIs.noted {h : AH} {R : VR} {c : Cf} {base f : Dsk} {w : Option Dsk} (v : VIs h R c base f w) {kc : Nat} {g : Nat → Option Bts} (ho : OvIs h kc g) (hf : ∀ x, f x = (g x).getD (base x)) (ha : Apart R kc) :
    ∃ cap gr, h.get R.kv = some (.cells (vwC c (.sl (some (.new R.kb 0)) c.B cap gr) (.map (some R.ko)) (.map R.kw)) 85) ∧ VIs (h.set R.kv (.cells (vwC c (.sl (some (.new R.kb 0)) c.B cap gr) (.map (some R.ko)) (.map (some kc))) 85)) { R with kw := some kc } c base f (some f) := by
  obtain ⟨cap, gr, hv⟩ := v.v
  refine ⟨cap, gr, hv, v.ok, ⟨cap, gr, by simp⟩, ?_, ?_, ?_, by simpa using v.lv, by simpa using v.lb, by simpa using v.lo, v.vb, v.vo, v.bo⟩
  · obtain ⟨cs, e, e2⟩ := v.b
    exact ⟨cs, by rw [AH.get_set, if_neg fun e => v.vb e.symm]; exact e, e2⟩
  · obtain ⟨g2, e, e2⟩ := v.o
    exact ⟨g2, e.same (by simp) (by rw [AH.get_set, if_neg fun e => v.vo e.symm]), e2⟩
  · exact ⟨by simpa using ho.lt, ha.v, ha.b, ha.o, g, ho.same (by simp) (by rw [AH.get_set, if_neg ha.v]), hf⟩

def CuJ (h0 : AH) (R : VR) (c : Cf) (base : Dsk) (w : Option Dsk) (km lo : Nat) (n0 : Ino) (f0 : Dsk) (iv : AV) (sz : Nat) (m : Nat) (e' : Env) (h' : AH) : Prop :=
  e'.length = 79 ∧ ∃ (i x : Nat), i + m = 4166 - lo ∧ x = lo + i ∧ (((List.range' lo i).foldl (vForget c) (n0, f0)).1.dr.length = 6) ∧ VIs h' R c base ((List.range' lo i).foldl (vForget c) (n0, f0)).2 w ∧ h'.get km = some (.cells (inoC ((List.range' lo i).foldl (vForget c) (n0, f0)).1) 33) ∧ VnOff R km h0 h' ∧
    (e'.getD 0 .undef = .ptr (some (.new R.kv 0)) ∧ e'.getD 1 .undef = iv ∧ e'.getD 2 .undef = .int .i64 sz ∧ e'.getD 7 .undef = .ptr (some (.new km 0)) ∧ e'.getD 9 .undef = .int .i64 x)
section
variable {W : World} {h : AH} {R : VR} {c : Cf} {base f : Dsk} {w : Option Dsk}
set_option maxRecDepth 100000 in
set_option maxHeartbeats 32000000 in
theorem vw_cut (v : VIs h R c base f w) (i size : Int) : RetVm W 15 [.ptr (some (.new R.kv 0)), .int .i64 i, .int .i64 size] h R c base (.int .i64 (vCut c f i size).1) (vCut c f i size).2 := by
  refine jj9 (cc_ok W) (fn15 W) (by simp only [Try.f15]; rfl) rfl rfl ?_
  have hok := v.ok
  simp [push_cast]
  refine callK_RetVk (by simp [fn40]) (vw_open v i) fun h2 hk2 => ?_
  have hok2 := fun (e : (vOpen c f i).1 = 0) => open_ok e
  obtain ⟨e, n, hq⟩ : ∃ e n, vOpen c f i = (e, n) := ⟨_, _, rfl⟩
  rw [hq] at hok2 ⊢
  have ha2 := alloc_inoC (W := W) (h := h2)
  have hK2 := Keeps.push h2 (.cells (inoC .zero) 33)
  have hg3 : (h2.push (.cells (inoC .zero) 33)).get h2.next = some (.cells (inoC .zero) 33) := by simp
  have hlt3 : h2.next < (h2.push (.cells (inoC .zero) 33)).next := by simp
  have hkk : h2.next ≤ h2.next := Nat.le_refl _
  have hn2 := hk2.1
  generalize h2.push (.cells (inoC .zero) 33) = h3 at ha2 hK2 hg3 hlt3
  generalize hkm : h2.next = km at ha2 hg3 hlt3 hkk hn2
  have hst := st_inoC (W := W) n hg3 rfl
  have hg5 : (h3.set km (.cells (inoC n) 33)).get km = some (.cells (inoC n) 33) := by simp
  have hlt5 : km < (h3.set km (.cells (inoC n) 33)).next := by simpa using hlt3
  have hK3 : Keeps h (h3.set km (.cells (inoC n) 33)) := (hk2.trans hK2).set (by omega) _
  generalize h3.set km (.cells (inoC n) 33) = h4 at *
  have v4 := v.keeps hK3
  have stay : VEnd R h c base f h4 := ⟨R, w, v4, VMov.of (VOff.of hK3)⟩
  by_cases e0 : e = 0
  · subst e0
    obtain ⟨hI, hkd, hi0, hiN, _⟩ := hok2 rfl
    clear hok2
    by_cases c1 : size < 0
    · have hv : vCut c f i size = (1, f) := by unfold vCut; rw [hq, if_neg (by simp), if_pos (.inl c1)]
      rw [hv]
      simp [push_cast, inoV, ha2, hst, c1, stay]
    by_cases c2 : 533248 < size
    · have hv : vCut c f i size = (1, f) := by unfold vCut; rw [hq, if_neg (by simp), if_pos (.inr c2)]
      rw [hv]
      simp [push_cast, inoV, ha2, hst, c1, c2, stay]
    obtain ⟨sz, rfl⟩ : ∃ sz : Nat, size = sz := ⟨size.toNat, by omega⟩
    obtain ⟨j, rfl⟩ : ∃ j : Nat, i = j := ⟨i.toNat, by omega⟩
    have hv : vCut c f (j : Int) (sz : Int) = vSetN c (vCutN c f n sz).2 j (vCutN c f n sz).1 := by
      unfold vCut
      rw [hq, if_neg (by simp), if_neg (by omega)]
      rfl
    rw [hv]
    obtain ⟨cap, gr, hv0⟩ := v4.v
    have hm := ld_map (W := W) (o := 9) hv0 rfl
    obtain ⟨g0, hg0, hf0, hgB0⟩ := v4.o
    have hlen4 : ∀ x, x < c.B → (f x).length = 128 := fun x hx => v4.len hx
    simp [push_cast, inoV, ha2, hst, c1, c2, jd9, fa85_3, hm]
    refine je9 (by simp [fn41]) (ov_clone W h4 hg0) fun x h5 ⟨hx, hk5, hov5⟩ => ?_
    subst hx
    have v5 := v4.keeps hk5
    have hg5' := (hk5.2 km hlt5).trans hg5
    have hkc : h4.next ≤ h4.next := Nat.le_refl _
    generalize hkce : h4.next = kc at hov5 hkc
    have hapc : Apart R kc := ⟨by have := v4.lv; omega, by have := v4.lb; omega, by have := v4.lo; omega, fun e => by
      have := v4.w
      rw [e] at this
      cases w with
      | none => exact this
      | some w => have := this.1; omega⟩
    obtain ⟨cap5, gr5, hv5, v6⟩ := v5.noted hov5 hf0 hapc
    have hst5 := st_map (W := W) (o := 10) (kc := kc) hv5 (by show 10 < 11; decide)
    rw [show (vwC c (.sl (some (.new R.kb 0)) c.B cap5 gr5) (.map (some R.ko)) (.map R.kw)).set 10 (.map (some kc)) = vwC c (.sl (some (.new R.kb 0)) c.B cap5 gr5) (.map (some R.ko)) (.map (some kc)) from rfl] at hst5
    have hkmv : km ≠ R.kv := by have := v.lv; omega
    have hg6 : (h5.set R.kv (.cells (vwC c (.sl (some (.new R.kb 0)) c.B cap5 gr5) (.map (some R.ko)) (.map (some kc))) 85)).get km = some (.cells (inoC n) 33) := by rw [AH.get_set, if_neg hkmv]; exact hg5'
    have hK5 : Keeps h h5 := hK3.trans hk5
    have hM6 : VMov R h { R with kw := some kc } (h5.set R.kv (.cells (vwC c (.sl (some (.new R.kb 0)) c.B cap5 gr5) (.map (some R.ko)) (.map (some kc))) 85)) :=
      ⟨by simpa using hK5.1, rfl, rfl, .inl rfl, .inr ⟨kc, rfl, by have := hK3.1; omega⟩, fun k hk h1 h2 => by rw [AH.get_set, if_neg h1]; exact hK5.2 k hk⟩
    have hl6 : km < (h5.set R.kv (.cells (vwC c (.sl (some (.new R.kb 0)) c.B cap5 gr5) (.map (some R.ko)) (.map (some kc))) 85)).next := by have := hk5.1; simp only [AH.next_set]; omega
    generalize h5.set R.kv (.cells (vwC c (.sl (some (.new R.kb 0)) c.B cap5 gr5) (.map (some R.ko)) (.map (some kc))) 85) = h6 at *
    obtain ⟨R2, hR2⟩ : ∃ R2 : VR, R2 = { R with kw := some kc } := ⟨_, rfl⟩
    have hkv2 : R2.kv = R.kv := by rw [hR2]
    rw [← hR2] at v6 hM6
    have hap2 : Apart R2 km := by
      rw [hR2]
      refine ⟨hkmv, by show km ≠ R.kb; have := v.lb; omega, by show km ≠ R.ko; have := v.lo; omega, fun e => ?_⟩
      have := Option.some.inj e
      omega
    rw [← hkv2] at hst5
    obtain ⟨lo, hlo⟩ : ∃ lo, lo = (sz + 127) / 128 := ⟨_, rfl⟩
    have hloB : lo ≤ 4166 := by omega
    have q1 : IntKind.i64.wrap ((sz : Int) + 128) = (sz : Int) + 128 := wrap64 (by omega) (by omega)
    have q2 : IntKind.i64.wrap ((sz : Int) + 128 - 1) = ((sz + 127 : Nat) : Int) := by rw [show (sz : Int) + 128 - 1 = ((sz + 127 : Nat) : Int) by omega]; exact wrap64 (by omega) (by omega)
    have q3 : Int.tdiv ((sz + 127 : Nat) : Int) 128 = (lo : Int) := by rw [hlo]; rfl
    have q4 : IntKind.i64.wrap (lo : Int) = (lo : Int) := wrap64 (by omega) (by omega)
    have hcut : vCutN c f n sz = ({ (vShed c f ((List.range' lo (4166 - lo)).foldl (vForget c) (n, f))).1 with sz := sz }, vTail c (vShed c f ((List.range' lo (4166 - lo)).foldl (vForget c) (n, f))) sz) := by
      rw [hlo]; rfl
    rw [hcut]
    generalize hq2 : sz + 127 = sq at *
    rw [← hkv2]
    simp [push_cast, jd9, fa85_4, hst5, q1, q2, q3, q4]
    refine loopN (cc_ok W) (CuJ h6 R2 c base (some f) km lo n f (.int .i64 (j : Int)) sz) (4166 - lo) ⟨by simp, 0, lo, by simp, rfl, hI.len, v6, hg6, VnOff.refl _ _ _, by simp⟩ ?_
    rintro m e' h7 ⟨hlen, i, x, him, hx, hd6, v7, hg7, o7, hh⟩
    obtain ⟨a0, a1, a2, a3, a4, a5, a6, a7, a8, a9, rS0, rfl, hS0⟩ := un10 hlen
    obtain ⟨a10, a11, a12, a13, a14, a15, a16, a17, a18, a19, rS10, rfl, hS10⟩ := un10 hS0
    obtain ⟨a20, a21, a22, a23, a24, a25, a26, a27, a28, a29, rS20, rfl, hS20⟩ := un10 hS10
    obtain ⟨a30, a31, a32, a33, a34, a35, a36, a37, a38, a39, rS30, rfl, hS30⟩ := un10 hS20
    obtain ⟨a40, a41, a42, a43, a44, a45, a46, a47, a48, a49, rS40, rfl, hS40⟩ := un10 hS30
    obtain ⟨a50, a51, a52, a53, a54, a55, a56, a57, a58, a59, rS50, rfl, hS50⟩ := un10 hS40
    obtain ⟨a60, a61, a62, a63, a64, a65, a66, a67, a68, a69, rS60, rfl, hS60⟩ := un10 hS50
    obtain ⟨a70, rS70, rfl, hS70⟩ := un1 hS60
    obtain ⟨a71, rS71, rfl, hS71⟩ := un1 hS70
    obtain ⟨a72, rS72, rfl, hS72⟩ := un1 hS71
    obtain ⟨a73, rS73, rfl, hS73⟩ := un1 hS72
    obtain ⟨a74, rS74, rfl, hS74⟩ := un1 hS73
    obtain ⟨a75, rS75, rfl, hS75⟩ := un1 hS74
    obtain ⟨a76, rS76, rfl, hS76⟩ := un1 hS75
    obtain ⟨a77, rS77, rfl, hS77⟩ := un1 hS76
    obtain ⟨a78, rS78, rfl, hS78⟩ := un1 hS77
    obtain rfl := un0 hS78
    clear hlen hS0 hS10 hS20 hS30 hS40 hS50 hS60 hS70 hS71 hS72 hS73 hS74 hS75 hS76 hS77 hS78
    simp at hh
    obtain ⟨rfl, rfl, rfl, rfl, rfl⟩ := hh
    have l7 : km < h7.next := Nat.lt_of_lt_of_le hl6 o7.1
    cases m with
    | succ m =>
      have hx4 : x < 4166 := by omega
      have hx4' : (x : Int) < 4166 := by omega
      obtain ⟨x1, hx1⟩ : ∃ x1, x1 = x + 1 := ⟨_, rfl⟩
      have q5 : IntKind.i64.wrap ((x : Int) + 1) = (x1 : Int) := by rw [show (x : Int) + 1 = (x1 : Int) by omega]; exact wrap64 (by omega) (by omega)
      have hfd : (List.range' lo (i + 1)).foldl (vForget c) (n, f) = vForget c ((List.range' lo i).foldl (vForget c) (n, f)) x := by
        rw [List.range'_1_concat, List.foldl_append, List.foldl_cons, List.foldl_nil, hx]
      generalize (List.range' lo i).foldl (vForget c) (n, f) = s at *
      obtain ⟨n1, f1⟩ := s
      simp only at hd6 v7 hg7
      have hfg := vw_forget (W := W) v7 hap2 l7 hg7 hd6 hx4
      have hd7 : (vForget c (n1, f1) x).1.dr.length = 6 := by
        unfold vForget
        split
        · exact hd6
        · split
          · simp [hd6]
          · split <;> exact hd6
      generalize vForget c (n1, f1) x = s2 at *
      simp [push_cast, hx4, hx4']
      refine callK_Vn (by simp [fn45]) hfg fun h8 v8 g8 o8 => ?_
      simp [push_cast, q5]
      exact ⟨m, by omega, by simp, i + 1, x1, by omega, by omega, by rw [hfd]; exact hd7, by rw [hfd]; exact v8, by rw [hfd]; exact g8, o7.trans o8, by simp⟩
    | zero =>
      obtain rfl : i = 4166 - lo := by omega
      obtain rfl : x = 4166 := by omega
      generalize (List.range' lo (4166 - lo)).foldl (vForget c) (n, f) = s at *
      obtain ⟨n1, f1⟩ := s
      simp only at hd6 v7 hg7
      have hsh := vw_shed (W := W) hlen4 v7 hap2 l7 hg7
      have hd8 : (vShed c f (n1, f1)).1.dr.length = 6 := hd6
      generalize vShed c f (n1, f1) = s2 at *
      obtain ⟨n2, f2⟩ := s2
      simp only at hd8 hsh ⊢
      simp [push_cast]
      refine callK_Vn (by simp [fn46]) hsh fun h8 v8 g8 o8 => ?_
      have l8 : km < h8.next := Nat.lt_of_lt_of_le l7 o8.1
      have o68 := o7.trans o8
      -- what stands behind the tail
      have fin : ∀ (h9 : AH) (f3 : Dsk), VIs h9 R2 c base f3 (some f) → h9.get km = some (.cells (inoC n2) 33) → VnOff R2 km h6 h9 →
          ∃ h10, aStoreOp (CC W) h9 3 (.ptr (some (.new km 2))) (.int .i64 (sz : Int)) = some h10 ∧ aLoad (CC W) h10 33 (.new km 0) = some (.agg (inoC { n2 with sz := sz })) ∧ VIs h10 R2 c base f3 (some f) ∧ VMov R h R2 h10 := by
        intro h9 f3 v9 g9 o9
        have hst9 := st_cell (W := W) (n := (sz : Int)) g9 (o := 2) (by show 2 < 11; decide)
        rw [show (inoC n2).set 2 (.int .i64 (sz : Int)) = inoC { n2 with sz := sz } from rfl] at hst9
        refine ⟨_, hst9, ld_inoC (t := 33) (by simp), v9.set' hap2 _, ⟨by have := hM6.nx; have := o9.1; simp only [AH.next_set]; omega, hM6.kv, hM6.kb, hM6.ko, hM6.kw, fun z hz h1 h2 => ?_⟩⟩
        rw [AH.get_set, if_neg (by omega), o9.2 z (by have := hM6.nx; omega) (by rw [hR2]; exact h2) (by omega)]
        exact hM6.off z hz h1 h2
      obtain ⟨r, hr⟩ : ∃ r, r = sz % 128 := ⟨_, rfl⟩
      obtain ⟨x, hx⟩ : ∃ x, x = sz / 128 := ⟨_, rfl⟩
      have r1 : Int.tmod (sz : Int) 128 = (r : Int) := by rw [hr]; rfl
      have r2 : (sz : Int) % 128 = (r : Int) := by omega
      have r3 : IntKind.i64.wrap ((sz : Int) / 128) = (x : Int) := by rw [show (sz : Int) / 128 = (x : Int) by omega]; exact wrap64 (by omega) (by omega)
      have r4 : Int.tdiv (sz : Int) 128 = (sz : Int) / 128 := rfl
      have hT : vTail c (n2, f2) sz = if r ≠ 0 ∧ vLook c f2 n2 x ≠ 0 then upd f2 (vLook c f2 n2 x) ((f2 (vLook c f2 n2 x)).take r ++ zeros (128 - r)) else f2 := by
        rw [hr, hx]; rfl
      obtain ⟨f3, hf3⟩ : ∃ f3, f3 = vTail c (n2, f2) sz := ⟨_, rfl⟩
      rw [← hf3]
      rw [hT] at hf3
      have hrl : r < 128 := by omega
      by_cases z0 : r = 0
      · obtain ⟨h10, e1, e2, e3, e4⟩ := fin h8 f2 v8 g8 o68
        rw [if_neg (by simp [z0])] at hf3
        subst hf3
        simp [push_cast, r1, r2, z0, fa33_2, e1, e2]
        refine callK_Vw (by simp [fn16]) (vw_set e3 (j : Int) { n2 with sz := sz } hd8) fun h11 v11 o11 => ?_
        simp [push_cast]
        exact ⟨R2, _, v11, e4.trans (VMov.of o11)⟩
      · have z0' : ¬ (r : Int) = 0 := by omega
        have hxB : x < 4166 := by omega
        have hld8 := ld_inoC (W := W) g8
        simp [push_cast, r1, r2, r3, r4, z0, z0', hld8]
        refine callK_RetVk (by simp [fn47]) (vw_look v8 n2 hxB) fun h9 hk9 => ?_
        have v9 := v8.keeps hk9
        have g9 := (hk9.2 km l8).trans g8
        have o69 := o68.trans (VnOff.ofK hk9)
        have hbB := look_B hok f2 n2 x
        generalize vLook c f2 n2 x = b at *
        by_cases b0 : b = 0
        · obtain ⟨h10, e1, e2, e3, e4⟩ := fin h9 f2 v9 g9 o69
          rw [if_neg (by simp [b0])] at hf3
          subst hf3
          simp [push_cast, b0, fa33_2, e1, e2]
          refine callK_Vw (by simp [fn16]) (vw_set e3 (j : Int) { n2 with sz := sz } hd8) fun h11 v11 o11 => ?_
          simp [push_cast]
          exact ⟨R2, _, v11, e4.trans (VMov.of o11)⟩
        · have b0' : ¬ (b : Int) = 0 := by omega
          rw [if_pos ⟨z0, b0⟩] at hf3
          have hbl := v9.len hbB
          have s1 : aSlice (CC W) 9 (.str (f2 b)) none (some (.int .i64 (r : Int))) none = some (.str ((f2 b).take r)) := slice_hi (by omega)
          obtain ⟨rz, hrz⟩ : ∃ rz, rz = 128 - r := ⟨_, rfl⟩
          have t1 : IntKind.i64.wrap (128 - (r : Int)) = (rz : Int) := by rw [show 128 - (r : Int) = (rz : Int) by omega]; exact wrap64 (by omega) (by omega)
          rw [← hrz] at hf3
          have hzl : (zeros rz).length = rz := by simp [zeros]
          have u1 : ((f2 b).take r).length = r := by simp; omega
          have hget := vw_get W h9 v9 hbB
          have a1 := strAdd (x := (f2 b).take r) (y := zeros rz) (by omega)
          have hpl : ((f2 b).take r ++ zeros rz).length = 128 := by rw [List.length_append, u1, hzl]; omega
          generalize (f2 b).take r = p1 at *
          have hzr := nd_zeros W h9 rz (by omega)
          have hkm9 : km < h9.next := Nat.lt_of_lt_of_le l8 hk9.1
          simp [push_cast, b0, b0']
          refine drawS [0, 1, 2, 3, 5, 7, 8, 4, 6, 9, 10, 11] (by kernel_rfl) (by kernel_rfl) ?_
          simp [push_cast, zx9, zy9, SgO, opA, isE, isRead, t1]
          refine jb9 (f := 43) (args := [.ptr (some (.new R2.kv 0)), .int .i64 b]) (by rfl) (by rfl) (by rfl) (by simp [fn43]) hget fun y h10 ⟨hy, hh⟩ => ?_
          subst hy hh
          refine ⟨by simp only [ja9], ?_⟩
          simp [push_cast, zx9, zy9, SgO, opA, isE, isRead, s1]
          refine jb9 (f := 48) (args := [.int .i64 rz]) (by rfl) (by rfl) (by rfl) (by simp [fn48]) hzr fun y h11 ⟨hy, hk11⟩ => ?_
          subst hy
          refine ⟨by simp only [ja9], ?_⟩
          generalize p1 ++ zeros rz = pq at *
          subst hf3
          have v11 := v9.keeps hk11
          simp [push_cast, zx9, zy9, SgO, opA, isE, isRead, a1]
          refine jb9 (f := 44) (args := [.ptr (some (.new R2.kv 0)), .int .i64 b, .str pq]) (by rfl) (by rfl) (by rfl) (by simp [fn44]) (vw_put W h11 v11 hbB hpl) fun y h12 ⟨hy, v12, o12⟩ => ?_
          subst hy
          refine ⟨by simp only [ja9], ?_⟩
          have g12 : h12.get km = some (.cells (inoC n2) 33) := (o12.2 km (Nat.lt_of_lt_of_le hkm9 hk11.1) hap2.o).trans ((hk11.2 km hkm9).trans g9)
          obtain ⟨h13, e1, e2, e3, e4⟩ := fin h12 _ v12 g12 ((o69.trans (VnOff.ofK hk11)).trans (VnOff.of o12))
          simp [push_cast, zx9, zy9, SgO, opA, isE, isRead, fa33_2, e1, e2]
          refine callK_Vw (by simp [fn16]) (vw_set e3 (j : Int) { n2 with sz := sz } hd8) fun h14 v14 o14 => ?_
          simp [push_cast]
          exact ⟨R2, _, v14, e4.trans (VMov.of o14)⟩
  · have e0' : ¬ (e : Int) = 0 := by omega
    have hv : vCut c f i size = (e, f) := by unfold vCut; rw [hq, if_pos e0]
    rw [hv]
    simp [push_cast, inoV, ha2, hst, e0, e0', stay]
end
end Go.Proofs.Ytgcoipcnhmkeaaa.Ax
end
