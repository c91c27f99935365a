/- The texts TraceH, TraceI, TraceM, TraceN, TraceO, TraceP, TraceQ, TraceR, TraceS, TraceT, TraceU, TraceV, TraceX, TraceY, as one. -/
import Derived.Test.YtbofhlifobjolaaGreatDoorGta
import Derived.Test.YtbofhlifobjolaaGreatDoorGh

/-! The trace's small functions, on: answers that are the same; how long a trace is -/
section
set_option linter.unusedVariables false
set_option linter.unusedSimpArgs false
namespace Go.Proofs.YtbofhlifobjolaaGreatDoor.Ax
open Go.RowKit

def sameQ (a b : Res) : Bool := a.e == b.e && (a.data == b.data && (a.kind == b.kind && (a.links == b.links && (a.size == b.size && decide (a.names = b.names)))))
set_option maxRecDepth 100000 in
set_option maxHeartbeats 16000000 in
theorem same_ret (W : World) (h : AH) (a b : Res) (na nb : AV) (ha : ∀ h', Keeps h h' → StrS W h' na a.names) (hb : ∀ h', Keeps h h' → StrS W h' nb b.names) (hl : a.names.length < 9223372036854775808) :
    RetK (CC W) 140 [res6V a na, res6V b nb] h (.bool (sameQ a b)) := by
  refine jj9 (cc_ok W) (fn140 W) (by simp only [Tryz.f140]; rfl) rfl rfl ?_
  have hbx := box_resT (h := h) (l := res6 a.e a.data a.kind a.links a.size na)
  have hk1 := Keeps.push h (.cells (res6 a.e a.data a.kind a.links a.size na) 39)
  have hg1 : (h.push (.cells (res6 a.e a.data a.kind a.links a.size na) 39)).get h.next = some (.cells (res6 a.e a.data a.kind a.links a.size na) 39) := by simp
  have hn1 : h.next < (h.push (.cells (res6 a.e a.data a.kind a.links a.size na) 39)).next := by simp
  generalize h.push (.cells (res6 a.e a.data a.kind a.links a.size na) 39) = h1 at hbx hk1 hg1 hn1
  generalize h.next = k1 at hbx hg1 hn1
  have hby := box_resT (h := h1) (l := res6 b.e b.data b.kind b.links b.size nb)
  have hk2 := Keeps.push h1 (.cells (res6 b.e b.data b.kind b.links b.size nb) 39)
  have hgb : (h1.push (.cells (res6 b.e b.data b.kind b.links b.size nb) 39)).get h1.next = some (.cells (res6 b.e b.data b.kind b.links b.size nb) 39) := by simp
  generalize h1.push (.cells (res6 b.e b.data b.kind b.links b.size nb) 39) = h2 at hby hk2 hgb
  generalize h1.next = k2 at hby hgb
  have hga := (hk2.2 k1 hn1).trans hg1
  have hkk := hk1.trans hk2
  have sA := ha h2 hkk
  have sB := hb h2 hkk
  clear hg1 ha hb
  obtain ⟨ae, adata, akind, alinks, asize, an⟩ := a
  obtain ⟨be, bdata, bkind, blinks, bsize, bn⟩ := b
  simp only [res6] at hbx hby hga hgb sA sB hl
  simp only [res6V, res6, sameQ]
  by_cases c0 : ae = be
  · subst c0
    by_cases c1 : adata = bdata
    · subst c1
      by_cases c2 : akind = bkind
      · subst c2
        by_cases c3 : alinks = blinks
        · subst c3
          by_cases c4 : asize = bsize
          · subst c4
            simp [push_cast, fa39_0, fa39_1, fa39_2, fa39_3, fa39_4, fa39_5, ld26, ld3, ld9, ld37, ji9 hga, ji9 hgb, jd9, aStr, hbx, hby]
            refine jh9 (by simp [fn114]) (texts_eq W h2 na nb an bn sA sB hl) ?_
            simp [push_cast, hkk]
          · have f4 : (asize == bsize) = false := by rw [beq_eq_false_iff_ne]; exact c4
            simp [push_cast, fa39_0, fa39_1, fa39_2, fa39_3, fa39_4, fa39_5, ld26, ld3, ld9, ld37, ji9 hga, ji9 hgb, jd9, aStr, hbx, hby, f4, hkk]
        · have f3 : (alinks == blinks) = false := by rw [beq_eq_false_iff_ne]; exact c3
          simp [push_cast, fa39_0, fa39_1, fa39_2, fa39_3, fa39_4, fa39_5, ld26, ld3, ld9, ld37, ji9 hga, ji9 hgb, jd9, aStr, hbx, hby, f3, hkk]
      · have f2 : (akind == bkind) = false := by rw [beq_eq_false_iff_ne]; exact c2
        simp [push_cast, fa39_0, fa39_1, fa39_2, fa39_3, fa39_4, fa39_5, ld26, ld3, ld9, ld37, ji9 hga, ji9 hgb, jd9, aStr, hbx, hby, f2, hkk]
    · have f1 : (adata == bdata) = false := by rw [beq_eq_false_iff_ne]; exact c1
      simp [push_cast, fa39_0, fa39_1, fa39_2, fa39_3, fa39_4, fa39_5, ld26, ld3, ld9, ld37, ji9 hga, ji9 hgb, jd9, aStr, hbx, hby, f1, hkk]
  · have f0 : (ae == be) = false := by rw [beq_eq_false_iff_ne]; exact c0
    simp [push_cast, fa39_0, fa39_1, fa39_2, fa39_3, fa39_4, fa39_5, ld26, ld3, ld9, ld37, ji9 hga, ji9 hgb, jd9, aStr, hbx, hby, f0, hkk]

/-! ### how long a trace is -/
theorem alloc_see {W : World} {h : AH} : ∃ c, aAlloc (CC W) h 73 = some (.ptr (some (.new h.next 0)), h.push (.cells c 73)) ∧ c.length = 14 := ⟨_, rfl, rfl⟩
theorem st_see {W : World} {h : AH} {k : Nat} {a b : List AV} (hg : h.get k = some (.cells a 73)) (ha : a.length = 14) (hb : b.length = 14) (hone : b.all aOne = true) : aStoreOp (CC W) h 73 (.ptr (some (.new k 0))) (.agg b) = some (h.set k (.cells b 73)) := by
  simp only [aStoreOp, aCellsOf, size73, aStore, hg]
  rw [if_pos hb, if_pos ⟨by omega, hone⟩]
  have : overlay a b 0 = b := by simp [overlay, ha, hb]
  rw [this]
theorem BSl.one {α : Type} {W : World} {h0 : AH} {E : TypeId} {sz : Nat} {P : AH → α → AV → Prop} {v : AV} {l : List α} (h : BSl W h0 E sz P v l) : aOne v = true := by
  obtain ⟨a, c, rfl⟩ := h.isSl
  rfl
/-- A step in a box. -/
theorem see_box {W : World} {h0 h : AH} {s : See} {u : AV} (hs : SeeP W h0 s u) :
    ∃ rv hv hp h2, u = .agg (s.c.cells ++ [rv, hv]) ∧ RepS W h0 rv s.reps ∧ EntS W h0 hv s.h ∧ aAlloc (CC W) h 73 = some (.ptr (some (.new h.next 0)), hp) ∧ aStoreOp (CC W) hp 73 (.ptr (some (.new h.next 0))) (.agg (s.c.cells ++ [rv, hv])) = some h2 ∧ Keeps h h2 ∧ h.next < h2.next ∧ h2.get h.next = some (.cells (s.c.cells ++ [rv, hv]) 73) := by
  obtain ⟨rv, hv, rfl, _, hr, he, _, _⟩ := hs
  obtain ⟨c, hal, hc⟩ := alloc_see (W := W) (h := h)
  have hst := st_see (W := W) (h := h.push (.cells c 73)) (k := h.next) (b := s.c.cells ++ [rv, hv]) (by simp) hc (by simp [Cho.cells, Opn.cells]) (by rw [List.all_append, Bool.and_eq_true]; exact ⟨by simp [Cho.cells, Opn.cells, aOne], by simp only [List.all_cons, List.all_nil, BSl.one hr, BSl.one he]; rfl⟩)
  exact ⟨rv, hv, _, _, rfl, hr, he, hal, hst, (Keeps.push _ _).set (Nat.le_refl _) _, by simp, by simp⟩
end Go.Proofs.YtbofhlifobjolaaGreatDoor.Ax
end

/-! How long a trace is: the walks -/
section
set_option linter.unusedVariables false
set_option linter.unusedSimpArgs false
namespace Go.Proofs.YtbofhlifobjolaaGreatDoor.Ax
open Go.RowKit

theorem SeeS.at {W : World} {h0 : AH} {v : AV} {l : List See} (hs : SeeS W h0 v l) {i : Nat} {s : See} (hx : l[i]? = some s) :
    ∃ a u, aIndexAddr (CC W) 63 v (.int .i64 (i : Int)) = some (.ptr (some a)) ∧ SeeP W h0 s u ∧ ∀ h, Keeps h0 h → aLoad (CC W) h 73 a = some u := BSl.at hs (kind63 W) (size73 W) hx
theorem SeeS.len {W : World} {h0 : AH} {v : AV} {l : List See} (hs : SeeS W h0 v l) (h : AH) : aLen (CC W) h 63 v = some (.int .i64 l.length) := BSl.lenA hs (kind63 W) h
theorem RepS.len {W : World} {h0 : AH} {v : AV} {l : List Rep} (hs : RepS W h0 v l) (h : AH) : aLen (CC W) h 70 v = some (.int .i64 l.length) := BSl.lenA hs (kind70 W) h
theorem EntS.len {W : World} {h0 : AH} {v : AV} {l : List Ent} (hs : EntS W h0 v l) (h : AH) : aLen (CC W) h 71 v = some (.int .i64 l.length) := BSl.lenA hs (kind71 W) h

set_option maxHeartbeats 4000000 in
theorem long_ret (W : World) (h0 h : AH) (s : See) (u : AV) (hs : SeeP W h0 s u) (h1 : s.reps.length ≤ 4096) (h2 : s.h.length ≤ 4096) : RetK (CC W) 62 [u] h (.bool false) := by
  refine jj9 (cc_ok W) (fn62 W) (by simp only [Tryz.f62]; rfl) rfl rfl ?_
  obtain ⟨rv, hv, rfl, _, hr, he, _, _⟩ := hs
  have hbx := box_see (h := h) (l := s.c.cells ++ [rv, hv])
  have hk1 := Keeps.push h (.cells (s.c.cells ++ [rv, hv]) 73)
  have hg : (h.push (.cells (s.c.cells ++ [rv, hv]) 73)).get h.next = some (.cells (s.c.cells ++ [rv, hv]) 73) := by simp
  generalize h.push (.cells (s.c.cells ++ [rv, hv]) 73) = h3 at hbx hk1 hg
  generalize h.next = k at hbx hg
  have l1 := hr.len h3
  have l2 := he.len h3
  have c1 : ¬ (4096 : Int) < (s.reps.length : Int) := by omega
  have c2 : ¬ (4096 : Int) < (s.h.length : Int) := by omega
  simp only [Cho.cells, Opn.cells, List.cons_append, List.nil_append] at hbx hg
  simp [push_cast, Cho.cells, Opn.cells, hbx, fa73_1, fa73_2, ld70, ld71, ji9 hg, jd9, l1, l2, c1, c2, hk1]

def LgI (h : AH) (v fv : AV) (n : Nat) (m : Nat) (e' : Env) (h' : AH) : Prop :=
  e'.length = 19 ∧ Keeps h h' ∧ ∃ k : Nat, k + m = n ∧ (e'.getD 0 .undef = v ∧ e'.getD 1 .undef = fv ∧ e'.getD 7 .undef = .int .i64 n ∧ e'.getD 8 .undef = .int .i64 k)
set_option maxHeartbeats 4000000 in
set_option maxRecDepth 20000 in
theorem nolong_ret (W : World) (h : AH) (v : AV) (l : List See) (hs : SeeS W h v l) (hl : l.length < 1000000000) (hb : ∀ s ∈ l, s.reps.length ≤ 4096 ∧ s.h.length ≤ 4096) :
    RetK (CC W) 63 [v, .fn (.func 62) [] []] h (.bool false) := by
  have idx : RetK (CC W) 102 [v, .fn (.func 62) [] []] h (.int .i64 (-1)) := by
    refine jj9 (cc_ok W) (fn102 W) (by simp only [Tryz.f102]; rfl) rfl rfl ?_
    have hln := hs.len h
    simp [push_cast, hln]
    refine loopN (cc_ok W) (LgI h v (.fn (.func 62) [] []) l.length) l.length ⟨by simp, Keeps.refl _, 0, by simp, by simp⟩ ?_
    rintro m e' h' ⟨hlen', hk, k, hkm, hh⟩
    obtain ⟨a0, a1, a2, a3, a4, a5, a6, a7, a8, a9, rS0, rfl, hS0⟩ := un10 hlen'
    obtain ⟨a10, rS10, rfl, hS10⟩ := un1 hS0
    obtain ⟨a11, rS11, rfl, hS11⟩ := un1 hS10
    obtain ⟨a12, rS12, rfl, hS12⟩ := un1 hS11
    obtain ⟨a13, rS13, rfl, hS13⟩ := un1 hS12
    obtain ⟨a14, rS14, rfl, hS14⟩ := un1 hS13
    obtain ⟨a15, rS15, rfl, hS15⟩ := un1 hS14
    obtain ⟨a16, rS16, rfl, hS16⟩ := un1 hS15
    obtain ⟨a17, rS17, rfl, hS17⟩ := un1 hS16
    obtain ⟨a18, rS18, rfl, hS18⟩ := un1 hS17
    obtain rfl := un0 hS18
    clear hlen' hS0 hS10 hS11 hS12 hS13 hS14 hS15 hS16 hS17 hS18
    simp at hh
    obtain ⟨rfl, rfl, rfl, rfl⟩ := hh
    by_cases hlt : k < l.length
    · have hlt' : (k : Int) < (l.length : Int) := by omega
      have wk : IntKind.i64.wrap ((k : Int) + 1) = (k : Int) + 1 := wrap64 (by omega) (by omega)
      have hy : l[k]? = some l[k] := by simp [hlt]
      have hm := hb l[k] (by simp)
      generalize l[k] = s at hy hm
      obtain ⟨a, u, hix, hP, hld⟩ := hs.at hy
      have hld := hld h' hk
      simp [push_cast, hlt, hlt', hix, hld]
      refine jf9 (by simp [fn62]) (long_ret W h h' s u hP hm.1 hm.2) fun h2 hk2 => ?_
      simp [push_cast, wk]
      exact ⟨m - 1, by omega, by simp, hk.trans hk2, k + 1, by omega, by simp⟩
    · have hlt' : ¬ (k : Int) < (l.length : Int) := by omega
      simp [push_cast, hlt, hlt', hk]
  refine jj9 (cc_ok W) (fn63 W) (by simp only [Tryz.f63]; rfl) rfl rfl ?_
  simp [push_cast]
  refine jf9 (by simp [fn102]) idx fun h2 hk2 => ?_
  simp [push_cast, hk2]

def totN : List See → Nat
  | [] => 0
  | s :: l => s.reps.length + s.h.length + totN l
theorem totN_app : ∀ (a b : List See), totN (a ++ b) = totN a + totN b
  | [], b => by simp [totN]
  | s :: a, b => by simp only [List.cons_append, totN, totN_app a b]; omega
theorem totN_mem : ∀ {l : List See} {s : See}, s ∈ l → s.reps.length + s.h.length ≤ totN l
  | x :: l, s, h => by
    rw [List.mem_cons] at h
    simp only [totN]
    rcases h with rfl | h
    · omega
    · have := totN_mem h; omega
def LrI (h : AH) (v : AV) (l : List See) (m : Nat) (e' : Env) (h' : AH) : Prop :=
  e'.length = 29 ∧ Keeps h h' ∧ ∃ k : Nat, k + m = l.length ∧ totN (l.take k) ≤ k * 2000000000 ∧ (e'.getD 0 .undef = v ∧ v = e'.getD 6 .undef ∧ e'.getD 3 .undef = .int .i64 (totN (l.take k) : Nat) ∧ e'.getD 7 .undef = .int .i64 l.length ∧ e'.getD 8 .undef = .int .i64 k)
set_option maxHeartbeats 8000000 in
set_option maxRecDepth 20000 in
theorem large_ret (W : World) (h : AH) (v : AV) (l : List See) (hs : SeeS W h v l) (hl : l.length ≤ 1048576) :
    RetK (CC W) 27 [v] h (.bool (decide (200 < l.length) || decide (1500 < totN l))) := by
  refine jj9 (cc_ok W) (fn27 W) (by simp only [Tryz.f27]; rfl) rfl rfl ?_
  have hln := hs.len h
  simp [push_cast, hln]
  refine loopN (cc_ok W) (LrI h v l) l.length ⟨by simp, Keeps.refl _, 0, by simp, by simp [totN], by simp [totN]⟩ ?_
  rintro m e' h' ⟨hlen', hk, k, hkm, htb, hh⟩
  obtain ⟨a0, a1, a2, a3, a4, a5, a6, a7, a8, a9, rS0, rfl, hS0⟩ := un10 hlen'
  obtain ⟨a10, a11, a12, a13, a14, a15, a16, a17, a18, a19, rS10, rfl, hS10⟩ := un10 hS0
  obtain ⟨a20, rS20, rfl, hS20⟩ := un1 hS10
  obtain ⟨a21, rS21, rfl, hS21⟩ := un1 hS20
  obtain ⟨a22, rS22, rfl, hS22⟩ := un1 hS21
  obtain ⟨a23, rS23, rfl, hS23⟩ := un1 hS22
  obtain ⟨a24, rS24, rfl, hS24⟩ := un1 hS23
  obtain ⟨a25, rS25, rfl, hS25⟩ := un1 hS24
  obtain ⟨a26, rS26, rfl, hS26⟩ := un1 hS25
  obtain ⟨a27, rS27, rfl, hS27⟩ := un1 hS26
  obtain ⟨a28, rS28, rfl, hS28⟩ := un1 hS27
  obtain rfl := un0 hS28
  clear hlen' hS0 hS10 hS20 hS21 hS22 hS23 hS24 hS25 hS26 hS27 hS28
  simp at hh
  obtain ⟨hv0, hv6, rfl, rfl, rfl⟩ := hh
  subst hv6
  subst hv0
  by_cases hlt : k < l.length
  · have hlt' : (k : Int) < (l.length : Int) := by omega
    have wk : IntKind.i64.wrap ((k : Int) + 1) = (k : Int) + 1 := wrap64 (by omega) (by omega)
    have hy : l[k]? = some l[k] := by simp [hlt]
    generalize l[k] = s at hy
    obtain ⟨a, u, hix, hP, hld⟩ := hs.at hy
    have hld := hld h' hk
    have hbd : s.reps.length < 1000000000 ∧ s.h.length < 1000000000 := by obtain ⟨_, _, _, _, _, _, a, b⟩ := hP; exact ⟨a, b⟩
    obtain ⟨rv, hv, hp, h2, rfl, hr, he, hal, hst, hk2, hn2, hg2⟩ := see_box (h := h') hP
    have l1 := hr.len h2
    have l2 := he.len h2
    have htk : totN (l.take (k + 1)) = totN (l.take k) + (s.reps.length + s.h.length) := by
      rw [List.take_add_one, hy, totN_app]; simp [totN]
    generalize totN (l.take k) = T at *
    have w1 : IntKind.i64.wrap ((T : Int) + (s.reps.length : Int)) = (T : Int) + (s.reps.length : Int) := wrap64 (by omega) (by omega)
    have w2 : IntKind.i64.wrap ((T : Int) + (s.reps.length : Int) + (s.h.length : Int)) = (T : Int) + (s.reps.length : Int) + (s.h.length : Int) := wrap64 (by omega) (by omega)
    simp only [Cho.cells, Opn.cells, List.cons_append, List.nil_append] at hg2 hst hld
    simp [push_cast, hlt, hlt', hix, hld, hal, hst, fa73_1, fa73_2, ld70, ld71, ji9 hg2, l1, l2, w1, w2, wk]
    exact ⟨m - 1, by omega, by simp, hk.trans hk2, k + 1, by omega, by omega, by simp [htk]; omega⟩
  · have hlt' : ¬ (k : Int) < (l.length : Int) := by omega
    have htk : l.take k = l := List.take_of_length_le (by omega)
    rw [htk]
    have hln := hs.len h'
    by_cases c1 : 200 < l.length
    · have c1' : (200 : Int) < (l.length : Int) := by omega
      simp [push_cast, hlt, hlt', hln, c1, c1', hk]
    · have c1' : ¬ (200 : Int) < (l.length : Int) := by omega
      by_cases c2 : 1500 < totN l
      · have c2' : (1500 : Int) < (totN l : Int) := by omega
        simp [push_cast, hlt, hlt', hln, c1, c1', c2, c2', hk]
      · have c2' : ¬ (1500 : Int) < (totN l : Int) := by omega
        simp [push_cast, hlt, hlt', hln, c1, c1', c2, c2', hk]
end Go.Proofs.YtbofhlifobjolaaGreatDoor.Ax
end

/-! Maps whose keys are requests, or numbers -/
section
set_option linter.unusedVariables false
set_option linter.unusedSimpArgs false
namespace Go.Proofs.YtbofhlifobjolaaGreatDoor.Ax
open Go.RowKit

/-- Keys of one type. -/
structure KT (W : World) (α : Type) [DecidableEq α] where
  kt : TypeId
  kv : α → AV
  eqk : ∀ a b, aEqIn (CC W) 100 kt (kv a) (kv b) = some (decide (a = b))
  okk : ∀ a, aKey (CC W) 100 kt (kv a) = true
  smk : ∀ a, aSame (kv a) (kv a) = true
def reqV (k : Int × Int) : AV := .agg [.int .i64 k.1, .int .i64 k.2]
theorem eq_req {W : World} {k x : Int × Int} : aEqIn (CC W) 100 128 (reqV k) (reqV x) = some (decide (k = x)) := by
  have hi : ∀ (x y : Int), aEqIn (CC W) 99 3 (.int .i64 x) (.int .i64 y) = some (x == y) := fun x y => rfl
  have h0 : aEqIn (CC W) 100 128 (reqV k) (reqV x) = aEqG (CC W) (aEqIn (CC W) 99) [(0, 3), (1, 3)] [.int .i64 k.1, .int .i64 k.2] [.int .i64 x.1, .int .i64 x.2] := rfl
  have p0 : ∀ (x y : AV), aPart (CC W) 3 [x, y] 0 = some x := fun x y => rfl
  have p1 : ∀ (x y : AV), aPart (CC W) 3 [x, y] 1 = some y := fun x y => rfl
  rw [h0]
  simp only [aEqG, p0, p1, hi]
  obtain ⟨a, b⟩ := k
  obtain ⟨c, d⟩ := x
  by_cases h1 : a = c
  · by_cases h2 : b = d
    · simp [h1, h2]
    · have : (b == d) = false := by simpa using h2
      simp [h1, h2, this]
  · have : (a == c) = false := by simpa using h1
    simp [h1, this]
def reqK (W : World) : KT W (Int × Int) := ⟨128, reqV, fun _ _ => eq_req, fun _ => rfl, fun x => by simp [reqV, aSame, aSame.sameL]⟩
def intK (W : World) : KT W Int := ⟨3, fun x => .int .i64 x, fun a b => by
  have : aEqIn (CC W) 100 3 (.int .i64 a) (.int .i64 b) = some (a == b) := rfl
  rw [this]
  by_cases h : a = b
  · simp [h]
  · have : (a == b) = false := by simpa using h
    simp [h], fun _ => rfl, fun x => by simp [aSame]⟩

section
variable {α β : Type} [DecidableEq α] {W : World}
/-- What a list of pairs says of a key. -/
def lookP : List (α × β) → α → Option β
  | [], _ => none
  | p :: l, k => if k = p.1 then some p.2 else lookP l k
def updP : List (α × β) → α → β → List (α × β)
  | [], k, v => [(k, v)]
  | p :: l, k, v => if k = p.1 then (p.1, v) :: l else p :: updP l k v

/-- A map in an own block: its keys and values, in the order they came. -/
def MapG (K : KT W α) (h : AH) (km : Nat) (l : List (α × AV)) : Prop :=
  ∃ es clock, h.get km = some (.map es clock) ∧ es.map (fun e => (e.key, e.val)) = l.map (fun p => (K.kv p.1, p.2)) ∧ (∀ e ∈ es, e.born < clock) ∧ (es.map (·.born)).Nodup

theorem find_kt (K : KT W α) {k : α} : ∀ (l : List (α × AV)) (es : List AEnt) (i : Nat), es.map (fun e => (e.key, e.val)) = l.map (fun p => (K.kv p.1, p.2)) →
    (lookP l k = none ∧ aFind (CC W) K.kt (K.kv k) es i = some none) ∨
    ∃ (l1 l2 : List (α × AV)) (v : AV), l = l1 ++ (k, v) :: l2 ∧ lookP l k = some v ∧ lookP l1 k = none ∧ aFind (CC W) K.kt (K.kv k) es i = some (some (i + l1.length, v))
  | [], es, i, h => by
    simp at h; subst h
    exact .inl ⟨rfl, rfl⟩
  | x :: l, es, i, h => by
    cases es with
    | nil => simp at h
    | cons e es =>
      simp only [List.map_cons, List.cons.injEq, Prod.mk.injEq] at h
      obtain ⟨⟨h1, h2⟩, h3⟩ := h
      unfold aFind
      rw [h1, K.eqk]
      by_cases hk : k = x.1
      · right
        refine ⟨[], l, x.2, by rw [hk]; rfl, by simp [lookP, hk], rfl, by simp [hk, h2]⟩
      · simp only [hk, decide_false]
        rcases find_kt K (k := k) l es (i + 1) h3 with ⟨e1, e2⟩ | ⟨l1, l2, v, e1, e2, e3, e4⟩
        · exact .inl ⟨by simp [lookP, hk, e1], e2⟩
        · refine .inr ⟨x :: l1, l2, v, by rw [e1]; rfl, by simp [lookP, hk, e2], by simp [lookP, hk, e3], ?_⟩
          rw [e4]; simp only [List.length_cons]; congr 3; omega
theorem updP_old {l1 l2 : List (α × β)} {k : α} {v w : β} (h : lookP l1 k = none) : updP (l1 ++ (k, v) :: l2) k w = l1 ++ (k, w) :: l2 := by
  induction l1 with
  | nil => simp [updP]
  | cons p l1 ih =>
    have hk : k ≠ p.1 := by
      intro e; simp [lookP, e] at h
    simp only [lookP, hk, if_false] at h
    simp [updP, hk, ih h]
theorem updP_new {l : List (α × β)} {k : α} {w : β} (h : lookP l k = none) : updP l k w = l ++ [(k, w)] := by
  induction l with
  | nil => rfl
  | cons p l ih =>
    have hk : k ≠ p.1 := by
      intro e; simp [lookP, e] at h
    simp only [lookP, hk, if_false] at h
    simp [updP, hk, ih h]

/-- A look-up. -/
theorem look_kt (K : KT W α) {T V : TypeId} (hT : (CC W).kind T = .map K.kt V) {z : AV} (hz : finLook (CC W) V false none = some z) (hv : ∀ i v, finLook (CC W) V false (some (i, v)) = some v) {h : AH} {km : Nat} {l : List (α × AV)} (hm : MapG K h km l) (k : α) :
    aLookup (CC W) h T (.map (some km)) (K.kv k) false = some ((lookP l k).getD z) := by
  obtain ⟨es, clock, hg, he, _, _⟩ := hm
  simp only [aLookup, hT, K.okk, if_true, hg]
  rcases find_kt K (k := k) l es 0 he with ⟨e1, e2⟩ | ⟨l1, l2, v, _, e2, _, e4⟩
  · rw [e1, e2]; exact hz
  · rw [e2, e4]; exact hv (0 + l1.length) v
/-- A key that is set. -/
theorem set_kt (K : KT W α) {T V : TypeId} (hT : (CC W).kind T = .map K.kt V) {h : AH} {km : Nat} {l : List (α × AV)} (hm : MapG K h km l) (k : α) (x : AV) :
    ∃ h', aMapSet (CC W) h T (.map (some km)) (K.kv k) x = some h' ∧ MapG K h' km (updP l k x) ∧ h'.next = h.next ∧ ∀ j, j ≠ km → h'.get j = h.get j := by
  obtain ⟨es, clock, hg, he, hb, hn⟩ := hm
  simp only [aMapSet, hT, hg, K.okk, if_true]
  rcases find_kt K (k := k) l es 0 he with ⟨e1, e2⟩ | ⟨l1, l2, v, rfl, e2, e3, e4⟩
  · rw [e2]
    refine ⟨_, rfl, ⟨es ++ [⟨K.kv k, x, clock⟩], clock + 1, by simp, ?_, fun e h => ?_, ?_⟩, rfl, fun j hj => by simp [hj]⟩
    · rw [updP_new e1]; simp [he]
    · rw [List.mem_append, List.mem_singleton] at h
      rcases h with h | rfl
      · have := hb e h; omega
      · simp
    · rw [List.map_append, List.nodup_append]
      refine ⟨hn, by simp, fun a ha b hb2 => ?_⟩
      obtain ⟨e, he2, rfl⟩ := List.mem_map.1 ha
      simp at hb2
      have := hb e he2
      omega
  · rw [e4]
    have hlen : l1.length < es.length := by
      have := congrArg List.length he
      simp at this; omega
    have hee : es[l1.length]? = some (es[l1.length]'hlen) := by simp [hlen]
    have hp : ((es[l1.length]'hlen).key, (es[l1.length]'hlen).val) = (K.kv k, v) := by
      have := congrArg (fun q => q[l1.length]?) he
      simp at this
      obtain ⟨a, ha, hka, hva⟩ := this
      rw [List.getElem?_eq_getElem hlen] at ha
      rw [Option.some.inj ha]
      exact Prod.ext hka hva
    have hk1 : (es[l1.length]'hlen).key = K.kv k := congrArg Prod.fst hp
    simp only [Nat.zero_add, hee, hk1, K.smk, if_true]
    refine ⟨_, rfl, ⟨es.set l1.length ⟨K.kv k, x, (es[l1.length]'hlen).born⟩, clock, by simp, ?_, fun e h => ?_, ?_⟩, rfl, fun j hj => by simp [hj]⟩
    · rw [updP_old e3, List.map_set, he]
      simp only [hk1, List.map_append, List.map_cons]
      rw [List.set_append_right _ _ (by simp)]
      simp
    · rcases List.mem_or_eq_of_mem_set h with h | rfl
      · exact hb e h
      · exact hb (es[l1.length]'hlen) (List.getElem_mem hlen)
    · rw [List.map_set]
      have : (es.map (·.born)).set l1.length (es[l1.length]'hlen).born = es.map (·.born) := by
        have h3 : (es[l1.length]'hlen).born = (es.map (·.born))[l1.length]'(by simpa using hlen) := by simp
        rw [h3]; exact List.set_getElem_self _
      rw [this]; exact hn
end
end Go.Proofs.YtbofhlifobjolaaGreatDoor.Ax
end

/-! What watches a trace, among the own blocks -/
section
set_option linter.unusedVariables false
set_option linter.unusedSimpArgs false
namespace Go.Proofs.YtbofhlifobjolaaGreatDoor.Ax
open Go.RowKit

structure Cal where
  op : Opn
  at_ : Nat
  nodes : List Int
  rep : Int
abbrev Key := Int × Int
/-- What a watcher knows. -/
structure WP where
  calls : List (Key × Cal)
  before : List Ent
  at_ : Nat
/-- Where it lies: the watcher, its map of calls, the order, each call and its nodes. -/
structure WM where
  kw : Nat
  kc : Nat
  ko : Option Nat
  cks : List (Nat × Option Nat)
def WM.ids (m : WM) : List Nat := m.kw :: m.kc :: (m.ko.toList ++ m.cks.flatMap fun p => p.1 :: p.2.toList)
def wCells (sh : Int × Int × Int) (kc : Nat) (ov bv : AV) (at_ : Nat) (c : Cho) (rv hv wv : AV) : List AV :=
  [.int .i64 sh.1, .int .i64 sh.2.1, .int .i64 sh.2.2, .map (some kc), ov, bv, .int .i64 at_, .int .i64 c.kind, .int .i64 c.node, .int .i64 c.n, .int .i64 c.torn, .int .i64 c.client, .int .i64 c.req, .int .i64 c.op.kd, .int .i64 c.op.at_, .int .i64 c.op.n, .str c.op.p, .str c.op.t, .str c.op.d, rv, hv, wv]
def cCells (c : Cal) (nv : AV) : List AV := [.int .i64 c.op.kd, .int .i64 c.op.at_, .int .i64 c.op.n, .str c.op.p, .str c.op.t, .str c.op.d, .int .i64 c.at_, nv, .int .i64 c.rep]
/-- Requests in an own block, or none. -/
def OrdIs (h : AH) (ko : Option Nat) (v : AV) (l : List Key) : Prop := match ko with
  | none => l = [] ∧ v = .sl none 0 0 none
  | some k => l ≠ [] ∧ h.get k = some (.cells (l.flatMap fun x => [.int .i64 x.1, .int .i64 x.2]) 128) ∧ v = .sl (some (.new k 0)) l.length l.length (some 2)
def NdsIs (h : AH) (ko : Option Nat) (v : AV) (l : List Int) : Prop := match ko with
  | none => l = [] ∧ v = .sl none 0 0 none
  | some k => l ≠ [] ∧ h.get k = some (.cells (ints l) 3) ∧ v = .sl (some (.new k 0)) l.length l.length (some 1)
def ptrsOf (l : List (Key × Cal)) (cks : List (Nat × Option Nat)) : List (Key × AV) := (l.zip cks).map fun p => (p.1.1, .ptr (some (.new p.2.1 0)))

structure WIs (W : World) (h0 h : AH) (m : WM) (P : WP) (sh : Int × Int × Int) (s : See) (wv : AV) : Prop where
  keeps : Keeps h0 h
  low : ∀ k ∈ m.ids, h0.next ≤ k ∧ k < h.next
  nod : m.ids.Nodup
  len : m.cks.length = P.calls.length
  box : ∃ ov bv rv hv, h.get m.kw = some (.cells (wCells sh m.kc ov bv P.at_ s.c rv hv wv) 126) ∧ OrdIs h m.ko ov (P.calls.map (·.1)) ∧ EntS W h0 bv P.before ∧ RepS W h0 rv s.reps ∧ EntS W h0 hv s.h
  calls : MapG (reqK W) h m.kc (ptrsOf P.calls m.cks)
  each : ∀ (i : Nat) p q, P.calls[i]? = some p → m.cks[i]? = some q → ∃ nv, h.get q.1 = some (.cells (cCells p.2 nv) 131) ∧ NdsIs h q.2 nv p.2.nodes
  few : P.calls.length < 1000000 ∧ P.at_ < 1000000 ∧ ∀ p ∈ P.calls, p.2.nodes.length < 1000000

theorem OrdIs.same {h h' : AH} {ko : Option Nat} {v : AV} {l : List Key} (ho : OrdIs h ko v l) (hk : ∀ k ∈ ko, h'.get k = h.get k) : OrdIs h' ko v l := by
  cases ko with
  | none => exact ho
  | some k => obtain ⟨a, b, c⟩ := ho; exact ⟨a, (hk k rfl).trans b, c⟩
theorem NdsIs.same {h h' : AH} {ko : Option Nat} {v : AV} {l : List Int} (ho : NdsIs h ko v l) (hk : ∀ k ∈ ko, h'.get k = h.get k) : NdsIs h' ko v l := by
  cases ko with
  | none => exact ho
  | some k => obtain ⟨a, b, c⟩ := ho; exact ⟨a, (hk k rfl).trans b, c⟩
theorem NdsIs.intS {h : AH} {ko : Option Nat} {v : AV} {l : List Int} (ho : NdsIs h ko v l) (hk : ∀ k ∈ ko, k < h.next) : IntS h v l := by
  cases ko with
  | none => exact .inl ho
  | some k => obtain ⟨a, b, c⟩ := ho; exact .inr ⟨k, _, _, hk k rfl, c, b⟩
theorem MapG.same {α : Type} [DecidableEq α] {W : World} {K : KT W α} {h h' : AH} {km : Nat} {l : List (α × AV)} (hm : MapG K h km l) (hk : h'.get km = h.get km) : MapG K h' km l := by
  obtain ⟨es, cl, a, b⟩ := hm
  exact ⟨es, cl, hk.trans a, b⟩
theorem WM.mem_ck {m : WM} {i : Nat} {q : Nat × Option Nat} (h : m.cks[i]? = some q) : q.1 ∈ m.ids ∧ ∀ k ∈ q.2, k ∈ m.ids := by
  have hm := List.mem_of_getElem? h
  refine ⟨?_, fun k hk => ?_⟩
  · simp only [WM.ids, List.mem_cons, List.mem_append, List.mem_flatMap]
    exact .inr (.inr (.inr ⟨q, hm, .inl rfl⟩))
  · simp only [WM.ids, List.mem_cons, List.mem_append, List.mem_flatMap]
    refine .inr (.inr (.inr ⟨q, hm, .inr ?_⟩))
    simpa [Option.mem_toList] using hk

section
variable {W : World} {h0 h : AH} {m : WM} {P : WP} {sh : Int × Int × Int} {s : See} {wv : AV}
/-- What keeps all blocks keeps a watcher. -/
theorem WIs.keep {h' : AH} (hw : WIs W h0 h m P sh s wv) (hk : Keeps h h') : WIs W h0 h' m P sh s wv := by
  have hs : ∀ k ∈ m.ids, h'.get k = h.get k := fun k hm => hk.2 k (hw.low k hm).2
  have hko : ∀ k ∈ m.ko, h'.get k = h.get k := fun k hm => hs k (by
    simp only [WM.ids, List.mem_cons, List.mem_append]
    exact .inr (.inr (.inl (by simpa [Option.mem_toList] using hm))))
  obtain ⟨ov, bv, rv, hv, a, b, c⟩ := hw.box
  exact { keeps := hw.keeps.trans hk
          low := fun k hm => ⟨(hw.low k hm).1, Nat.lt_of_lt_of_le (hw.low k hm).2 hk.1⟩
          nod := hw.nod
          len := hw.len
          box := ⟨ov, bv, rv, hv, (hs m.kw (by simp [WM.ids])).trans a, b.same hko, c⟩
          calls := hw.calls.same (hs m.kc (by simp [WM.ids]))
          each := fun i p q hp hq => by
            obtain ⟨nv, e1, e2⟩ := hw.each i p q hp hq
            obtain ⟨g1, g2⟩ := WM.mem_ck hq
            exact ⟨nv, (hs q.1 g1).trans e1, e2.same fun k hk => hs k (g2 k hk)⟩
          few := hw.few }

/-- A call, found by its request. -/
theorem lookP_ptrs {k : Key} : ∀ (l : List (Key × Cal)) (cks : List (Nat × Option Nat)), cks.length = l.length →
    (lookP l k = none ∧ lookP (ptrsOf l cks) k = none) ∨ ∃ (i : Nat) (c : Cal) (q : Nat × Option Nat), l[i]? = some (k, c) ∧ cks[i]? = some q ∧ lookP l k = some c ∧ lookP (ptrsOf l cks) k = some (.ptr (some (.new q.1 0)))
  | [], cks, _ => .inl ⟨rfl, by simp [ptrsOf, lookP]⟩
  | p :: l, [], h => by simp at h
  | p :: l, q :: cks, h => by
    by_cases hk : k = p.1
    · right
      exact ⟨0, p.2, q, by simp [hk], rfl, by simp [lookP, hk], by simp [ptrsOf, lookP, hk]⟩
    · have e : ptrsOf (p :: l) (q :: cks) = (p.1, .ptr (some (.new q.1 0))) :: ptrsOf l cks := rfl
      rcases lookP_ptrs (k := k) l cks (by simpa using h) with ⟨e1, e2⟩ | ⟨i, c, q', e1, e2, e3, e4⟩
      · exact .inl ⟨by simp [lookP, hk, e1], by rw [e]; simp [lookP, hk, e2]⟩
      · exact .inr ⟨i + 1, c, q', by simpa using e1, by simpa using e2, by simp [lookP, hk, e3], by rw [e]; simp [lookP, hk, e4]⟩
theorem WIs.look (hw : WIs W h0 h m P sh s wv) (k : Key) :
    (lookP P.calls k = none ∧ aLookup (CC W) h 122 (.map (some m.kc)) (reqV k) false = some (.ptr none)) ∨
    ∃ (i : Nat) (c : Cal) (q : Nat × Option Nat) (nv : AV), P.calls[i]? = some (k, c) ∧ m.cks[i]? = some q ∧ lookP P.calls k = some c ∧ aLookup (CC W) h 122 (.map (some m.kc)) (reqV k) false = some (.ptr (some (.new q.1 0))) ∧
      h.get q.1 = some (.cells (cCells c nv) 131) ∧ NdsIs h q.2 nv c.nodes ∧ IntS h nv c.nodes := by
  have hl := look_kt (reqK W) (T := 122) (V := 129) (z := .ptr none) rfl rfl (fun _ _ => rfl) hw.calls k
  rcases lookP_ptrs (k := k) P.calls m.cks hw.len with ⟨e1, e2⟩ | ⟨i, c, q, e1, e2, e3, e4⟩
  · left
    rw [e2] at hl
    exact ⟨e1, hl⟩
  · right
    rw [e4] at hl
    obtain ⟨nv, g1, g2⟩ := hw.each i _ q e1 e2
    exact ⟨i, c, q, nv, e1, e2, e3, hl, g1, g2, g2.intS fun k hk => (hw.low k ((WM.mem_ck e2).2 k hk)).2⟩
end
end Go.Proofs.YtbofhlifobjolaaGreatDoor.Ax
end

/-! Rule 2: the walk -/
section
set_option linter.unusedVariables false
set_option linter.unusedSimpArgs false
namespace Go.Proofs.YtbofhlifobjolaaGreatDoor.Ax
open Go.RowKit

theorem alloc_rep {W : World} {h : AH} : ∃ c, aAlloc (CC W) h 75 = some (.ptr (some (.new h.next 0)), h.push (.cells c 75)) ∧ c.length = 9 := ⟨_, rfl, rfl⟩
theorem st_rep {W : World} {h : AH} {k : Nat} {a b : List AV} (hg : h.get k = some (.cells a 75)) (ha : a.length = 9) (hb : b.length = 9) (hone : b.all aOne = true) : aStoreOp (CC W) h 75 (.ptr (some (.new k 0))) (.agg b) = some (h.set k (.cells b 75)) := by
  simp only [aStoreOp, aCellsOf, size75, aStore, hg]
  rw [if_pos hb, if_pos ⟨by omega, hone⟩]
  have : overlay a b 0 = b := by simp [overlay, ha, hb]
  rw [this]
theorem StrS.one {W : World} {h : AH} {v : AV} {l : List (List UInt8)} (hs : StrS W h v l) : aOne v = true := by
  obtain ⟨a, c, g, rfl⟩ := hs.len
  rfl
/-- A reply in a box. -/
theorem rep_box {W : World} {h0 h : AH} {r : Rep} {u : AV} (hs : RepP W h0 r u) (hk : Keeps h0 h) :
    ∃ nv hp h2, u = .agg (r.cells nv) ∧ TxtB W h0 nv r.res.names ∧ aAlloc (CC W) h 75 = some (.ptr (some (.new h.next 0)), hp) ∧ aStoreOp (CC W) hp 75 (.ptr (some (.new h.next 0))) (.agg (r.cells nv)) = some h2 ∧ Keeps h h2 ∧ h.next < h2.next ∧ h2.get h.next = some (.cells (r.cells nv) 75) := by
  obtain ⟨nv, rfl, hn, _⟩ := hs
  obtain ⟨c, hal, hc⟩ := alloc_rep (W := W) (h := h)
  have h1 := (hn h hk).one
  have hst := st_rep (W := W) (h := h.push (.cells c 75)) (k := h.next) (b := r.cells nv) (by simp) hc (by simp [Rep.cells]) (by simp [Rep.cells, h1, aOne]; cases nv <;> simp_all [aOne])
  exact ⟨nv, _, _, rfl, hn, hal, hst, (Keeps.push _ _).set (Nat.le_refl _) _, by simp, by simp⟩
theorem ld_rep {W : World} {h : AH} {k : Nat} {r : Rep} {nv : AV} (hg : h.get k = some (.cells (r.cells nv) 75)) : aLoad (CC W) h 75 (.new k 0) = some (.agg (r.cells nv)) := by
  unfold aLoad
  rw [ty75]
  show (aCells (CC W) h (.new k 0) 9).map AV.agg = _
  simp only [aCells, hg]
  rfl
theorem ld_rep3 {W : World} {h : AH} {k : Nat} {r : Rep} {nv : AV} (hg : h.get k = some (.cells (r.cells nv) 75)) : aLoad (CC W) h 39 (.new k 3) = some (res6V r.res nv) := by
  unfold aLoad
  rw [ty39]
  show (aCells (CC W) h (.new k 3) 6).map AV.agg = _
  simp only [aCells, hg]
  rfl
theorem RepS.at {W : World} {h0 : AH} {v : AV} {l : List Rep} (hs : RepS W h0 v l) {i : Nat} {s : Rep} (hx : l[i]? = some s) :
    ∃ a u, aIndexAddr (CC W) 70 v (.int .i64 (i : Int)) = some (.ptr (some a)) ∧ RepP W h0 s u ∧ ∀ h, Keeps h0 h → aLoad (CC W) h 75 a = some u := BSl.at hs (kind70 W) (size75 W) hx

/-- Rule 2, of one reply. -/
def knownR (P : WP) (r : Rep) : Bool := match lookP P.calls (r.client, r.req) with
  | none => false
  | some c => decide (r.node ∈ c.nodes) && (!refB r || bareB r.res)
def KnI (h : AH) (kw : Nat) (rv : AV) (P : WP) (l : List Rep) (m : Nat) (e' : Env) (h' : AH) : Prop :=
  e'.length = 49 ∧ Keeps h h' ∧ ∃ k : Nat, k + m = l.length ∧ (l.take k).all (knownR P) = true ∧ (e'.getD 0 .undef = .ptr (some (.new kw 0)) ∧ e'.getD 10 .undef = rv ∧ e'.getD 11 .undef = .int .i64 l.length ∧ e'.getD 12 .undef = .int .i64 k)
theorem all_next {α : Type} {f : α → Bool} {l : List α} {k : Nat} {x : α} (hx : l[k]? = some x) (h : (l.take k).all f = true) : (l.take (k + 1)).all f = f x := by
  rw [List.take_add_one, hx, List.all_append, h]; simp
theorem all_false {α : Type} {f : α → Bool} {l : List α} {k : Nat} {x : α} (hx : l[k]? = some x) (h : f x = false) : l.all f = false := by
  rw [List.all_eq_false]
  exact ⟨x, List.mem_of_getElem? hx, by simp [h]⟩

set_option maxRecDepth 100000 in
set_option maxHeartbeats 16000000 in
theorem known_ret (W : World) (h0 h : AH) (m : WM) (P : WP) (sh : Int × Int × Int) (s : See) (wv : AV) (hw : WIs W h0 h m P sh s wv) (hl : s.reps.length < 1000000000) :
    RetK (CC W) 105 [.ptr (some (.new m.kw 0))] h (.bool (s.reps.all (knownR P))) := by
  refine jj9 (cc_ok W) (fn105 W) (by simp only [Tryz.f105]; rfl) rfl rfl ?_
  obtain ⟨ov, bv, rv, hv, hbox, _, _, hr, _⟩ := hw.box
  have hbx := hbox
  simp only [wCells] at hbx
  have hln := hr.len h
  simp [push_cast, fa126_5, fa73_1, ld70, ji9 hbx, jd9, hln]
  refine loopN (cc_ok W) (KnI h m.kw rv P s.reps) s.reps.length ⟨by simp, Keeps.refl _, 0, by simp, by simp, by simp⟩ ?_
  rintro n e' h' ⟨hlen', hk, k, hkm, hall, hh⟩
  obtain ⟨a0, a1, a2, a3, a4, a5, a6, a7, a8, a9, rS0, rfl, hS0⟩ := un10 hlen'
  obtain ⟨a10, a11, a12, a13, a14, a15, a16, a17, a18, a19, rS10, rfl, hS10⟩ := un10 hS0
  obtain ⟨a20, a21, a22, a23, a24, a25, a26, a27, a28, a29, rS20, rfl, hS20⟩ := un10 hS10
  obtain ⟨a30, a31, a32, a33, a34, a35, a36, a37, a38, a39, rS30, rfl, hS30⟩ := un10 hS20
  obtain ⟨a40, rS40, rfl, hS40⟩ := un1 hS30
  obtain ⟨a41, rS41, rfl, hS41⟩ := un1 hS40
  obtain ⟨a42, rS42, rfl, hS42⟩ := un1 hS41
  obtain ⟨a43, rS43, rfl, hS43⟩ := un1 hS42
  obtain ⟨a44, rS44, rfl, hS44⟩ := un1 hS43
  obtain ⟨a45, rS45, rfl, hS45⟩ := un1 hS44
  obtain ⟨a46, rS46, rfl, hS46⟩ := un1 hS45
  obtain ⟨a47, rS47, rfl, hS47⟩ := un1 hS46
  obtain ⟨a48, rS48, rfl, hS48⟩ := un1 hS47
  obtain rfl := un0 hS48
  clear hlen' hS0 hS10 hS20 hS30 hS40 hS41 hS42 hS43 hS44 hS45 hS46 hS47 hS48
  simp at hh
  obtain ⟨rfl, rfl, rfl, rfl⟩ := hh
  by_cases hlt : k < s.reps.length
  · have hlt' : (k : Int) < (s.reps.length : Int) := by omega
    have wk : IntKind.i64.wrap ((k : Int) + 1) = (k : Int) + 1 := wrap64 (by omega) (by omega)
    have hy : s.reps[k]? = some s.reps[k] := by simp [hlt]
    generalize s.reps[k] = r at hy
    obtain ⟨a, u, hix, hP, hld⟩ := hr.at hy
    have hk0 := hw.keeps.trans hk
    have hld := hld h' hk0
    obtain ⟨nv, hp, h2, rfl, hn, hal, hst, hk2, hn2, hg2⟩ := rep_box (h := h') hP hk0
    generalize h'.next = kr at hal hst hn2 hg2
    have hw2 := hw.keep (hk.trans hk2)
    obtain ⟨ov2, bv2, rv2, hv2, hbox2, _⟩ := hw2.box
    have hb2 := hbox2
    simp only [wCells] at hb2
    have hnx := all_next (f := knownR P) hy hall
    have hg2' := hg2
    simp only [Rep.cells] at hg2' hst hld
    simp [push_cast, hlt, hlt', hix, hld, hal, hst]
    refine draw1 (cc_ok W) [0, 1, 2, 3, 4, 5, 6, 7, 8, 9, 10] (by kernel_rfl) (by kernel_rfl) (by kernel_rfl) rfl ?_
    rcases hw2.look (r.client, r.req) with ⟨e1, hlk⟩ | ⟨i, c, q, cnv, e1, e2, e3, hlk, hgc, hnd, hin⟩
    · have hkf : knownR P r = false := by simp only [knownR, e1]
      have haf := all_false (f := knownR P) hy hkf
      simp only [reqV] at hlk
      simp [push_cast, fa126_1, fa75_1, fa75_2, ld3, ld122, ji9 hb2, ji9 hg2', jd9, build_req, hlk]
      refine drawS [0, 1, 2, 3, 4, 5, 6, 7, 8, 9, 10, 11, 12, 13, 14, 15, 16, 17, 18, 19, 20, 21] (by kernel_rfl) (by kernel_rfl) ?_
      simp [push_cast, zx9, zy9, SgO, opA, isE, isRead, aEq, kind129, kindEq1, aEq1, haf]
      exact hk.trans hk2
    · have hnl : c.nodes.length < 1000000000 := by have := hw.few.2.2 _ (List.mem_of_getElem? e1); simp only at this; omega
      have hqn := (hw2.low q.1 (WM.mem_ck e2).1).2
      have hkr : knownR P r = (decide (r.node ∈ c.nodes) && (!refB r || bareB r.res)) := by simp only [knownR, e3]
      simp only [reqV] at hlk
      simp [push_cast, fa126_1, fa75_1, fa75_2, ld3, ld122, ji9 hb2, ji9 hg2', jd9, build_req, hlk]
      have hgc2 := hgc
      simp only [cCells] at hgc2
      refine drawS [0, 1, 2, 3, 4, 5, 6, 7, 8, 9, 10, 11, 12, 13, 14, 15, 16, 17, 18, 19, 20, 21] (by kernel_rfl) (by kernel_rfl) ?_
      simp [push_cast, zx9, zy9, SgO, opA, isE, isRead, aEq, kind129, kindEq1, aEq1, jd9, fa131_2, fa75_0, ld53, ld3, ji9 hgc2, ji9 hg2']
      refine jb9 (f := 138) (args := [cnv, .int .i64 r.node]) (by rfl) (by rfl) (by rfl) (by simp [fn138]) (contains_ret W h2 cnv c.nodes r.node hin hnl) ?_
      rintro w h3 ⟨hw3, hh3⟩
      subst hw3
      subst hh3
      refine ⟨?_, ?_⟩
      · simp [zz9, ja9, push_cast, opA, jd9, fa131_2, fa75_0, ld53, ld3, ji9 hgc2, ji9 hg2']
      by_cases hc : r.node ∈ c.nodes
      · simp [push_cast, zx9, zy9, SgO, opA, isE, isRead, hc, aUn_not', ld_rep hg2]
        refine jb9 (f := 109) (args := [.agg (r.cells nv)]) (by rfl) (by rfl) (by rfl) (by simp [fn109]) (refusal_ret W h3 r nv) ?_
        rintro w h4 ⟨hw4, hk4⟩
        subst hw4
        have hg4 := (hk4.2 kr hn2).trans hg2
        have hg4' := hg4
        have hgc4 := (hk4.2 q.1 hqn).trans hgc2
        simp only [Rep.cells] at hg4'
        refine ⟨?_, ?_⟩
        · simp [zz9, ja9, push_cast, opA, jd9, fa131_2, fa75_0, ld53, ld3, ji9 hgc4, ji9 hg4', ld_rep hg4]
        cases hrf : refB r with
        | false =>
          have hkt : knownR P r = true := by rw [hkr]; simp [hc, hrf]
          simp [push_cast, zx9, zy9, SgO, opA, isE, isRead, wk]
          exact ⟨n - 1, by omega, by simp, (hk.trans hk2).trans hk4, k + 1, by omega, by rw [hnx, hkt], by simp⟩
        | true =>
          simp [push_cast, zx9, zy9, SgO, opA, isE, isRead, fa75_3, ld_rep3 hg4]
          refine jb9 (f := 139) (args := [res6V r.res nv]) (by rfl) (by rfl) (by rfl) (by simp [fn139]) (bare_ret W h4 r.res nv (hn h4 (hk0.trans (hk2.trans hk4)))) ?_
          rintro w h5 ⟨hw5, hk5⟩
          subst hw5
          have hg5 := (hk5.2 kr (Nat.lt_of_lt_of_le hn2 hk4.1)).trans hg4
          have hg5' := hg5
          have hgc5 := (hk5.2 q.1 (Nat.lt_of_lt_of_le hqn hk4.1)).trans hgc4
          simp only [Rep.cells] at hg5'
          refine ⟨?_, ?_⟩
          · simp [zz9, ja9, push_cast, opA, jd9, fa131_2, fa75_0, fa75_3, ld53, ld3, ji9 hgc5, ji9 hg5', ld_rep hg5, ld_rep3 hg5]
          cases hbr : bareB r.res with
          | true =>
            have hkt : knownR P r = true := by rw [hkr]; simp [hc, hrf, hbr]
            simp [push_cast, zx9, zy9, SgO, opA, isE, isRead, aUn_not', wk]
            exact ⟨n - 1, by omega, by simp, ((hk.trans hk2).trans hk4).trans hk5, k + 1, by omega, by rw [hnx, hkt], by simp⟩
          | false =>
            have hkt : knownR P r = false := by rw [hkr]; simp [hc, hrf, hbr]
            have haf := all_false (f := knownR P) hy hkt
            simp [push_cast, zx9, zy9, SgO, opA, isE, isRead, aUn_not', haf]
            exact ((hk.trans hk2).trans hk4).trans hk5
      · have hkt : knownR P r = false := by rw [hkr]; simp [hc]
        have haf := all_false (f := knownR P) hy hkt
        simp [push_cast, zx9, zy9, SgO, opA, isE, isRead, hc, aUn_not', haf]
        exact hk.trans hk2
  · have hlt' : ¬ (k : Int) < (s.reps.length : Int) := by omega
    have htk : s.reps.take k = s.reps := List.take_of_length_le (by omega)
    rw [htk] at hall
    simp [push_cast, hlt, hlt', hall, hk]
end Go.Proofs.YtbofhlifobjolaaGreatDoor.Ax
end

/-! Rule 4: the walk -/
section
set_option linter.unusedVariables false
set_option linter.unusedSimpArgs false
namespace Go.Proofs.YtbofhlifobjolaaGreatDoor.Ax
open Go.RowKit

theorem alloc_ent {W : World} {h : AH} : ∃ c, aAlloc (CC W) h 78 = some (.ptr (some (.new h.next 0)), h.push (.cells c 78)) ∧ c.length = 9 := ⟨_, rfl, rfl⟩
theorem st_ent {W : World} {h : AH} {k : Nat} {a b : List AV} (hg : h.get k = some (.cells a 78)) (ha : a.length = 9) (hb : b.length = 9) (hone : b.all aOne = true) : aStoreOp (CC W) h 78 (.ptr (some (.new k 0))) (.agg b) = some (h.set k (.cells b 78)) := by
  simp only [aStoreOp, aCellsOf, size78, aStore, hg]
  rw [if_pos hb, if_pos ⟨by omega, hone⟩]
  have : overlay a b 0 = b := by simp [overlay, ha, hb]
  rw [this]
/-- An entry in a box. -/
theorem ent_box {W : World} {h0 h : AH} {e : Ent} {u : AV} (hs : EntP h0 e u) :
    ∃ hp h2, u = .agg e.cells ∧ aAlloc (CC W) h 78 = some (.ptr (some (.new h.next 0)), hp) ∧ aStoreOp (CC W) hp 78 (.ptr (some (.new h.next 0))) (.agg e.cells) = some h2 ∧ Keeps h h2 ∧ h.next < h2.next ∧ h2.get h.next = some (.cells e.cells 78) := by
  obtain ⟨_, rfl⟩ := hs
  obtain ⟨c, hal, hc⟩ := alloc_ent (W := W) (h := h)
  have hst := st_ent (W := W) (h := h.push (.cells c 78)) (k := h.next) (b := e.cells) (by simp) hc (by simp [Ent.cells, Opn.cells]) (by simp [Ent.cells, Opn.cells, aOne])
  exact ⟨_, _, rfl, hal, hst, (Keeps.push _ _).set (Nat.le_refl _) _, by simp, by simp⟩
theorem ld_ent {W : World} {h : AH} {k : Nat} {e : Ent} (hg : h.get k = some (.cells e.cells 78)) : aLoad (CC W) h 78 (.new k 0) = some (.agg e.cells) := by
  unfold aLoad
  rw [ty78]
  show (aCells (CC W) h (.new k 0) 9).map AV.agg = _
  simp only [aCells, hg]
  rfl
theorem ld_entop {W : World} {h : AH} {k : Nat} {e : Ent} (hg : h.get k = some (.cells e.cells 78)) : aLoad (CC W) h 35 (.new k 3) = some (.agg e.op.cells) := by
  unfold aLoad
  rw [ty35]
  show (aCells (CC W) h (.new k 3) 6).map AV.agg = _
  simp only [aCells, hg]
  rfl
theorem ld_calop {W : World} {h : AH} {k : Nat} {c : Cal} {nv : AV} (hg : h.get k = some (.cells (cCells c nv) 131)) : aLoad (CC W) h 35 (.new k 0) = some (.agg c.op.cells) := by
  unfold aLoad
  rw [ty35]
  show (aCells (CC W) h (.new k 0) 6).map AV.agg = _
  simp only [aCells, hg]
  rfl
theorem EntS.at {W : World} {h0 : AH} {v : AV} {l : List Ent} (hs : EntS W h0 v l) {i : Nat} {s : Ent} (hx : l[i]? = some s) :
    ∃ a u, aIndexAddr (CC W) 71 v (.int .i64 (i : Int)) = some (.ptr (some a)) ∧ EntP h0 s u ∧ ∀ h, Keeps h0 h → aLoad (CC W) h 78 a = some u := BSl.at hs (kind71 W) (size78 W) hx

/-- Rule 4, of one entry. -/
def subR (P : WP) (e : Ent) : Bool := match lookP P.calls (e.client, e.req) with
  | none => false
  | some c => opQ c.op e.op
def SuI (h : AH) (kw : Nat) (hv : AV) (P : WP) (l : List Ent) (m : Nat) (e' : Env) (h' : AH) : Prop :=
  e'.length = 35 ∧ Keeps h h' ∧ ∃ k : Nat, k + m = l.length ∧ (l.take k).all (subR P) = true ∧ (e'.getD 0 .undef = .ptr (some (.new kw 0)) ∧ e'.getD 10 .undef = hv ∧ e'.getD 11 .undef = .int .i64 l.length ∧ e'.getD 12 .undef = .int .i64 k)

set_option maxRecDepth 100000 in
set_option maxHeartbeats 16000000 in
theorem submitted_ret (W : World) (h0 h : AH) (m : WM) (P : WP) (sh : Int × Int × Int) (s : See) (wv : AV) (hw : WIs W h0 h m P sh s wv) (hl : s.h.length < 1000000000) :
    RetK (CC W) 107 [.ptr (some (.new m.kw 0))] h (.bool (s.h.all (subR P))) := by
  refine jj9 (cc_ok W) (fn107 W) (by simp only [Tryz.f107]; rfl) rfl rfl ?_
  obtain ⟨ov, bv, rv, hv, hbox, _, _, _, hr⟩ := hw.box
  have hbx := hbox
  simp only [wCells] at hbx
  have hln := hr.len h
  simp [push_cast, fa126_5, fa73_2, ld71, ji9 hbx, jd9, hln]
  refine loopN (cc_ok W) (SuI h m.kw hv P s.h) s.h.length ⟨by simp, Keeps.refl _, 0, by simp, by simp, by simp⟩ ?_
  rintro n e' h' ⟨hlen', hk, k, hkm, hall, hh⟩
  obtain ⟨a0, a1, a2, a3, a4, a5, a6, a7, a8, a9, rS0, rfl, hS0⟩ := un10 hlen'
  obtain ⟨a10, a11, a12, a13, a14, a15, a16, a17, a18, a19, rS10, rfl, hS10⟩ := un10 hS0
  obtain ⟨a20, a21, a22, a23, a24, a25, a26, a27, a28, a29, rS20, rfl, hS20⟩ := un10 hS10
  obtain ⟨a30, rS30, rfl, hS30⟩ := un1 hS20
  obtain ⟨a31, rS31, rfl, hS31⟩ := un1 hS30
  obtain ⟨a32, rS32, rfl, hS32⟩ := un1 hS31
  obtain ⟨a33, rS33, rfl, hS33⟩ := un1 hS32
  obtain ⟨a34, rS34, rfl, hS34⟩ := un1 hS33
  obtain rfl := un0 hS34
  clear hlen' hS0 hS10 hS20 hS30 hS31 hS32 hS33 hS34
  simp at hh
  obtain ⟨rfl, rfl, rfl, rfl⟩ := hh
  by_cases hlt : k < s.h.length
  · have hlt' : (k : Int) < (s.h.length : Int) := by omega
    have wk : IntKind.i64.wrap ((k : Int) + 1) = (k : Int) + 1 := wrap64 (by omega) (by omega)
    have hy : s.h[k]? = some s.h[k] := by simp [hlt]
    generalize s.h[k] = e at hy
    obtain ⟨a, u, hix, hP, hld⟩ := hr.at hy
    have hk0 := hw.keeps.trans hk
    have hld := hld h' hk0
    obtain ⟨hp, h2, rfl, hal, hst, hk2, hn2, hg2⟩ := ent_box (W := W) (h := h') hP
    generalize h'.next = kr at hal hst hn2 hg2
    have hw2 := hw.keep (hk.trans hk2)
    obtain ⟨ov2, bv2, rv2, hv2, hbox2, _⟩ := hw2.box
    have hb2 := hbox2
    simp only [wCells] at hb2
    have hnx := all_next (f := subR P) hy hall
    have hst' := hst
    have hld' := hld
    simp only [Ent.cells, Opn.cells] at hst' hld'
    simp [push_cast, hlt, hlt', hix, hld', hal, hst']
    refine drawS [0, 1, 2, 3, 4, 5, 6, 7] (by kernel_rfl) (by kernel_rfl) ?_
    simp [push_cast, zx9, zy9, SgO, opA, isE, isRead, fa126_1, ld122, ji9 hb2, jd9, ld_ent hg2]
    refine jb9 (f := 137) (args := [.agg e.cells]) (by rfl) (by rfl) (by rfl) (by simp [fn137]) (reqof_ret W h2 e) ?_
    rintro w h3 ⟨hw3, hk3⟩
    subst hw3
    have hg3 := (hk3.2 kr hn2).trans hg2
    have hn3 := Nat.lt_of_lt_of_le hn2 hk3.1
    have hw3 := hw2.keep hk3
    have hb3 := (hk3.2 m.kw (hw2.low m.kw (by simp [WM.ids])).2).trans hb2
    refine ⟨?_, ?_⟩
    · simp [zz9, ja9, push_cast, opA, jd9, fa126_1, ld122, ji9 hb3, ld_ent hg3]
    rcases hw3.look (e.client, e.req) with ⟨e1, hlk⟩ | ⟨i, c, q, cnv, e1, e2, e3, hlk, hgc, hnd, hin⟩
    · have hkf : subR P e = false := by simp only [subR, e1]
      have haf := all_false (f := subR P) hy hkf
      simp only [reqV] at hlk
      simp [push_cast, zx9, zy9, SgO, opA, isE, isRead, hlk]
      refine drawS [0, 1, 2, 3, 4, 5, 6, 7, 8, 9, 10] (by kernel_rfl) (by kernel_rfl) ?_
      simp [push_cast, zx9, zy9, SgO, opA, isE, isRead, aEq, kind129, kindEq1, aEq1, haf]
      exact (hk.trans hk2).trans hk3
    · have hkr : subR P e = opQ c.op e.op := by simp only [subR, e3]
      simp only [reqV] at hlk
      simp [push_cast, zx9, zy9, SgO, opA, isE, isRead, hlk]
      have hnq : aEqIn (CC W) 100 35 (.agg c.op.cells) (.agg e.op.cells) = some (opQ c.op e.op) := eq_op (n := 98)
      refine drawS [0, 1, 2, 3, 4, 5, 6, 7, 8, 9, 10] (by kernel_rfl) (by kernel_rfl) ?_
      cases hop : opQ c.op e.op with
      | true =>
        have hkt : subR P e = true := by rw [hkr, hop]
        rw [hop] at hnq
        simp [push_cast, zx9, zy9, SgO, opA, isE, isRead, jd9, fa131_0, fa78_3, ld_calop hgc, ld_entop hg3, hnq, wk, aEq, kind129, kind35, kindEq1, aEq1]
        exact ⟨n - 1, by omega, by simp, (hk.trans hk2).trans hk3, k + 1, by omega, by rw [hnx, hkt], by simp⟩
      | false =>
        have hkt : subR P e = false := by rw [hkr, hop]
        have haf := all_false (f := subR P) hy hkt
        rw [hop] at hnq
        simp [push_cast, zx9, zy9, SgO, opA, isE, isRead, jd9, fa131_0, fa78_3, ld_calop hgc, ld_entop hg3, hnq, wk, aEq, kind129, kind35, kindEq1, aEq1, haf]
        exact (hk.trans hk2).trans hk3
  · have hlt' : ¬ (k : Int) < (s.h.length : Int) := by omega
    have htk : s.h.take k = s.h := List.take_of_length_le (by omega)
    rw [htk] at hall
    simp [push_cast, hlt, hlt', hall, hk]
end Go.Proofs.YtbofhlifobjolaaGreatDoor.Ax
end

/-! Rule 3: the answers of a model, appended -/
section
set_option linter.unusedVariables false
set_option linter.unusedSimpArgs false
namespace Go.Proofs.YtbofhlifobjolaaGreatDoor.Ax
open Go.RowKit

/-- What a model answers, one operation behind the other. -/
def ansR (M : MS) : List Ent → List Res
  | [] => []
  | e :: l => (doR M e.op).1 :: ansR (doR M e.op).2 l
def runM (M : MS) : List Ent → MS
  | [] => M
  | e :: l => runM (doR M e.op).2 l
theorem ans_len : ∀ (l : List Ent) (M : MS), (ansR M l).length = l.length
  | [], _ => rfl
  | e :: l, M => by simp [ansR, ans_len l]
theorem ans_snoc : ∀ (l : List Ent) (M : MS) (e : Ent), ansR M (l ++ [e]) = ansR M l ++ [(doR (runM M l) e.op).1] ∧ runM M (l ++ [e]) = (doR (runM M l) e.op).2
  | [], M, e => ⟨rfl, rfl⟩
  | x :: l, M, e => by
    obtain ⟨a, b⟩ := ans_snoc l (doR M x.op).2 e
    exact ⟨by simp [ansR, a, runM], by simp [runM, b]⟩

def resC (p : Res × AV) : List AV := res6 p.1.e p.1.data p.1.kind p.1.links p.1.size p.2
/-- Answers in an own block, beside a model. -/
def AnsIs (h : AH) (R : MR) (v : AV) (l : List Res) : Prop :=
  l = [] ∧ v = .sl none 0 0 none ∨ l ≠ [] ∧ ∃ (k : Nat) (ps : List (Res × AV)), ps.map Prod.fst = l ∧ k < h.next ∧ k ∉ R.ids ∧ h.get k = some (.cells (ps.flatMap resC) 39) ∧ (∀ p ∈ ps, NmB h R p.2 p.1.names) ∧ v = .sl (some (.new k 0)) l.length l.length (some 6)
theorem AnsIs.step {h h' : AH} {R R' : MR} {v : AV} {l : List Res} (ha : AnsIs h R v l) (hB : MStep h h' R R') : AnsIs h' R' v l := by
  rcases ha with ha | ⟨a, k, ps, b, c, d, e, f, g⟩
  · exact .inl ha
  · obtain ⟨e', c', d'⟩ := hB.box e c d
    exact .inr ⟨a, k, ps, b, c', d', e', fun p hp => (f p hp).step hB, g⟩
theorem flatC_len : ∀ (ps : List (Res × AV)), (ps.flatMap resC).length = ps.length * 6
  | [] => rfl
  | p :: ps => by
    rw [List.flatMap_cons, List.length_append, flatC_len ps]
    simp [resC, res6]; omega
theorem NmB.kill {h : AH} {R : MR} {nv : AV} {l : List (List UInt8)} {k : Nat} {c : List AV} (hn : NmB h R nv l) (hg : h.get k = some (.cells c 39)) : NmB (h.kill k) R nv l := by
  rcases hn with hn | ⟨q, a, b, d, e⟩
  · exact .inl hn
  · have hne : q ≠ k := by
      rintro rfl
      rw [d] at hg; simp at hg
    exact .inr ⟨q, by rw [AH.next_kill']; exact a, b, by rw [AH.get_kill', if_neg hne]; exact d, e⟩
theorem NmB.push {h : AH} {R : MR} {nv : AV} {l : List (List UInt8)} {c : AObj} (hn : NmB h R nv l) : NmB (h.push c) R nv l := hn.step (MStep.refl (Keeps.push h c))
theorem NmB.one {h : AH} {R : MR} {nv : AV} {l : List (List UInt8)} (hn : NmB h R nv l) : aOne nv = true := by
  obtain ⟨p, n, c, g, rfl⟩ := hn.isSl
  rfl

/-- One more answer. -/
theorem AnsIs.app {W : World} {h : AH} {R : MR} {v : AV} {l : List Res} {r : Res} {nv : AV} (ha : AnsIs h R v l) (hn : NmB h R nv r.names) (hlow : ∀ k ∈ R.ids, k < h.next) (hl : l.length < 1000000000) :
    ∃ h1 v' h', aBuildSlice (CC W) h 210 1 [(0, res6V r nv)] = some (.sl (some (.new h.next 0)) 1 1 none, h1) ∧ aAppend (CC W) h1 #[210, 210] v (.sl (some (.new h.next 0)) 1 1 none) = some (v', h') ∧
      AnsIs h' R v' (l ++ [r]) ∧ (∃ q, h.next ≤ q ∧ v' = .sl (some (.new q 0)) (l.length + 1) (l.length + 1) (some 6)) ∧ h.next ≤ h'.next ∧ (∀ j, j < h.next → (∀ k n c g, v = .sl (some (.new k 0)) n c g → j ≠ k) → h'.get j = h.get j) := by
  have hb : (CC W).bytes 39 = 72 := _root_.id rfl
  have hni : niOK (CC W) #[210, 210] = true := _root_.id rfl
  obtain ⟨p0, n0, c0, g0, rfl⟩ := hn.isSl
  have hbs : aBuildSlice (CC W) h 210 1 [(0, res6V r (.sl p0 n0 c0 g0))] = some (.sl (some (.new h.next 0)) 1 1 none, h.push (.cells (resC (r, .sl p0 n0 c0 g0)) 39)) := by
    simp only [aBuildSlice, kind210, size39, zero39]
    rfl
  have hc6 : (resC (r, .sl p0 n0 c0 g0)).length = 6 := rfl
  have hone : (resC (r, .sl p0 n0 c0 g0)).all aOne = true := rfl
  have hnews : aNews (CC W) (h.push (.cells (resC (r, .sl p0 n0 c0 g0)) 39)) 6 (.sl (some (.new h.next 0)) 1 1 none) = some (1, resC (r, .sl p0 n0 c0 g0)) := by
    simp [aNews, aCells, resC, res6]
  refine ⟨h.push (.cells (resC (r, .sl p0 n0 c0 g0)) 39), ?_⟩
  rcases ha with ⟨rfl, rfl⟩ | ⟨hne, k, ps, rfl, h2, h3, h4, h5, rfl⟩
  · refine ⟨.sl (some (.new (h.next + 1) 0)) 1 1 (some 6), (h.push (.cells (resC (r, .sl p0 n0 c0 g0)) 39)).push (.cells (resC (r, .sl p0 n0 c0 g0)) 39), hbs, ?_, .inr ⟨by simp, h.next + 1, [(r, .sl p0 n0 c0 g0)], rfl, by simp, fun hc => by have := hlow _ hc; omega, by simp, fun p hp => ?_, rfl⟩, ⟨h.next + 1, by omega, rfl⟩, by simp; omega, fun j hj _ => ?_⟩
    · simp [aAppend, kind210, size39, zero39, hb, hni, hnews]
    · rw [List.mem_singleton] at hp; subst hp
      exact hn.push.push
    · rw [AH.get_push, if_neg (by simp; omega), AH.get_push, if_neg (by omega)]
  · have hkn : k ≠ h.next := by omega
    have hlen := flatC_len ps
    have hpl : 0 < ps.length := by
      cases ps with
      | nil => simp at hne
      | cons => simp
    have hll : (ps.map Prod.fst).length = ps.length := by simp
    rw [hll] at hl
    have hg' : (h.push (.cells (resC (r, .sl p0 n0 c0 g0)) 39)).get k = some (.cells (ps.flatMap resC) 39) := by rw [AH.get_push, if_neg hkn]; exact h4
    refine ⟨.sl (some (.new (h.next + 1) 0)) (ps.length + 1) (ps.length + 1) (some 6), ((h.push (.cells (resC (r, .sl p0 n0 c0 g0)) 39)).kill k).push (.cells (ps.flatMap resC ++ resC (r, .sl p0 n0 c0 g0)) 39), hbs, ?_, .inr ⟨by simp, h.next + 1, ps ++ [(r, .sl p0 n0 c0 g0)], by simp, by simp [AH.next_kill'], fun hc => by have := hlow _ hc; omega, ?_, fun p hp => ?_, by simp⟩, ⟨h.next + 1, by omega, by simp⟩, by simp [AH.next_kill']; omega, fun j hj hjk => ?_⟩
    · rw [hll]
      generalize resC (r, .sl p0 n0 c0 g0) = c2 at *
      generalize ps.flatMap resC = c1 at *
      simp [aAppend, kind210, size39, zero39, hb, hni, hnews, hg', hlen, AH.next_kill']
      rw [if_neg (by omega), if_pos (by omega), if_pos (by simpa using hone)]
    · rw [AH.get_push, AH.next_kill', if_pos (by simp)]; simp
    · rw [List.mem_append, List.mem_singleton] at hp
      rcases hp with hp | rfl
      · exact ((h5 p hp).push.kill hg').push
      · exact (hn.push.kill hg').push
    · have := hjk k _ _ _ rfl
      rw [AH.get_push, AH.next_kill', if_neg (by simp; omega), AH.get_kill', if_neg this, AH.get_push, if_neg (by omega)]
end Go.Proofs.YtbofhlifobjolaaGreatDoor.Ax
end

/-! Rule 3: the walk -/
section
set_option linter.unusedVariables false
set_option linter.unusedSimpArgs false
namespace Go.Proofs.YtbofhlifobjolaaGreatDoor.Ax
open Go.RowKit

theorem ld_shW {W : World} {h : AH} {k : Nat} {sh : Int × Int × Int} {kc at_ : Nat} {ov bv rv hv wv : AV} {c : Cho} (hg : h.get k = some (.cells (wCells sh kc ov bv at_ c rv hv wv) 126)) : aLoad (CC W) h 23 (.new k 0) = some (.agg [.int .i64 sh.1, .int .i64 sh.2.1, .int .i64 sh.2.2]) := by
  unfold aLoad
  rw [ty23]
  show (aCells (CC W) h (.new k 0) 3).map AV.agg = _
  simp only [aCells, hg]
  rfl

/-- The place of a request's entry, told by a map. -/
def WhIs (W : World) (h : AH) (wv : AV) (wh : List (Key × Int)) : Prop := ∃ kh, wv = .map (some kh) ∧ kh < h.next ∧ MapG (reqK W) h kh (wh.map fun p => (p.1, .int .i64 p.2))
theorem WhIs.keep {W : World} {h h' : AH} {wv : AV} {wh : List (Key × Int)} (hw : WhIs W h wv wh) (hk : Keeps h h') : WhIs W h' wv wh := by
  obtain ⟨kh, a, b, c⟩ := hw
  exact ⟨kh, a, Nat.lt_of_lt_of_le b hk.1, c.same (hk.2 kh b)⟩
theorem lookP_map {α β γ : Type} [DecidableEq α] {f : β → γ} {k : α} : ∀ (l : List (α × β)), lookP (l.map fun p => (p.1, f p.2)) k = (lookP l k).map f
  | [] => rfl
  | p :: l => by
    simp only [List.map_cons, lookP]
    split
    · rfl
    · exact lookP_map l
theorem WhIs.look {W : World} {h : AH} {wv : AV} {wh : List (Key × Int)} (hw : WhIs W h wv wh) (k : Key) : aLookup (CC W) h 124 wv (reqV k) false = some (.int .i64 ((lookP wh k).getD 0)) := by
  obtain ⟨kh, rfl, _, c⟩ := hw
  have hl := look_kt (reqK W) (T := 124) (V := 3) (z := .int .i64 0) rfl rfl (fun _ _ => rfl) c k
  rw [lookP_map] at hl
  refine hl.trans ?_
  cases lookP wh k <;> rfl

/-- Rule 3, of one reply. -/
def ansB (wh : List (Key × Int)) (rs : List Res) (r : Rep) : Bool :=
  refB r || (decide ((lookP wh (r.client, r.req)).getD 0 ≠ 0) && match rs[((lookP wh (r.client, r.req)).getD 0 - 1).toNat]? with
    | some x => sameQ r.res x
    | none => false)
def An1 (h : AH) (kw : Nat) (hv : AV) (M0 : MS) (l : List Ent) (km : Nat) (m : Nat) (e' : Env) (h' : AH) : Prop :=
  e'.length = 73 ∧ ∃ (k : Nat) (R : MR), k + m = l.length ∧ MIs h' R (runM M0 (l.take k)) ∧ Fine (runM M0 (l.take k)) k ∧ R.km = km ∧ (∀ q ∈ R.ids, h.next ≤ q) ∧ Keeps h h' ∧ AnsIs h' R (e'.getD 5 .undef) (ansR M0 (l.take k)) ∧
    (∀ q n c g, e'.getD 5 .undef = .sl (some (.new q 0)) n c g → h.next ≤ q) ∧
    (e'.getD 0 .undef = .ptr (some (.new kw 0)) ∧ e'.getD 3 .undef = .ptr (some (.new km 0)) ∧ e'.getD 23 .undef = hv ∧ e'.getD 24 .undef = .int .i64 l.length ∧ e'.getD 25 .undef = .int .i64 k)

def An2 (h : AH) (kw : Nat) (v rv : AV) (f : Rep → Bool) (l : List Rep) (m : Nat) (e' : Env) (h' : AH) : Prop :=
  e'.length = 73 ∧ Keeps h h' ∧ ∃ k : Nat, k + m = l.length ∧ (l.take k).all f = true ∧ (e'.getD 0 .undef = .ptr (some (.new kw 0)) ∧ v = e'.getD 5 .undef ∧ e'.getD 41 .undef = rv ∧ e'.getD 42 .undef = .int .i64 l.length ∧ e'.getD 43 .undef = .int .i64 k)
theorem AnsIs.at {W : World} {h : AH} {R : MR} {v : AV} {l : List Res} (ha : AnsIs h R v l) {i : Nat} {x : Res} (hx : l[i]? = some x) :
    ∃ a nv, aIndexAddr (CC W) 210 v (.int .i64 (i : Int)) = some (.ptr (some a)) ∧ (∀ h', Keeps h h' → aLoad (CC W) h' 39 a = some (res6V x nv)) ∧ NmB h R nv x.names := by
  rcases ha with ⟨rfl, rfl⟩ | ⟨_, k, ps, rfl, h1, h2, h3, h4, rfl⟩
  · simp at hx
  · rw [List.getElem?_map, Option.map_eq_some_iff] at hx
    obtain ⟨q, hq, rfl⟩ := hx
    have hil := (List.getElem?_eq_some_iff.1 hq).1
    have hlen := flatC_len ps
    refine ⟨.new k (i * 6), q.2, ?_, ?_, h4 q (List.mem_of_getElem? hq)⟩
    · simp only [aIndexAddr, kind210, size39]
      rw [if_pos (by simp; omega)]
      simp [AA.add]
    · intro h' hk
      have h3 := (hk.2 k h1).trans h3
      unfold aLoad
      rw [ty39]
      show (aCells (CC W) h' (.new k (i * 6)) 6).map AV.agg = _
      simp only [aCells, h3]
      rw [if_pos (by omega)]
      have hd : (ps.flatMap resC).drop (i * 6) = (ps.drop i).flatMap resC := by
        have e : ps = ps.take i ++ ps.drop i := (List.take_append_drop i ps).symm
        have hl : ((ps.take i).flatMap resC).length = i * 6 := by rw [flatC_len, List.length_take]; congr 1; omega
        conv => lhs; rw [e, List.flatMap_append]
        rw [← hl, List.drop_left]
      rw [hd, List.drop_eq_getElem_cons hil]
      have hg : ps[i] = q := by rw [List.getElem?_eq_getElem hil] at hq; exact Option.some.inj hq
      rw [hg]
      rfl

set_option maxRecDepth 100000 in
set_option maxHeartbeats 16000000 in
theorem answers_ret (W : World) (h0 h : AH) (m : WM) (P : WP) (sh : Int × Int × Int) (s : See) (wv : AV) (wh : List (Key × Int)) (cm : Int) (hw : WIs W h0 h m P sh s wv) (hwh : WhIs W h wv wh) (hsh : shapeR sh.1 sh.2.1 sh.2.2 = some cm)
    (hl : s.h.length < 1000000) (hlr : s.reps.length < 1000000000) (hin : ∀ k i, lookP wh k = some i → 1 ≤ i ∧ i ≤ s.h.length) :
    RetK (CC W) 106 [.ptr (some (.new m.kw 0))] h (.bool (s.reps.all (ansB wh (ansR (newM sh.2.2.toNat cm) s.h)))) := by
  refine jj9 (cc_ok W) (fn106 W) (by simp only [Tryz.f106]; rfl) rfl rfl ?_
  obtain ⟨ov, bv, rv, hv, hbox, _, _, hr, he⟩ := hw.box
  have hkwl := (hw.low m.kw (by simp [WM.ids])).2
  simp [push_cast, fa126_0, ld_shW hbox, jd9]
  refine je9 (by simp [fn12]) (new_ret W h sh.1 sh.2.1 sh.2.2) fun w h1 hw1 => ?_
  rw [hsh] at hw1
  obtain ⟨R, rfl, hk1, hm, hR⟩ := hw1
  have hfine : Fine (newM sh.2.2.toNat cm) 0 := by
    unfold shapeR at hsh
    split at hsh
    · rename_i hc
      simp only [inB, Bool.and_eq_true, decide_eq_true_eq] at hc
      exact new_fine (by omega) (by omega)
    · cases hsh
  generalize newM sh.2.2.toNat cm = M0 at hm hfine ⊢
  have hbx1 := (hk1.2 m.kw hkwl).trans hbox
  have hb1 := hbx1
  simp only [wCells] at hb1
  have hln := he.len h1
  simp [push_cast, fa126_5, fa73_2, ld71, ji9 hb1, jd9, hln]
  refine loopN (cc_ok W) (An1 h m.kw hv M0 s.h R.km) s.h.length ⟨by simp, 0, R, by simp, by simpa [runM] using hm, by simpa [runM] using hfine, rfl, hR, hk1, .inl ⟨rfl, by simp⟩, by simp, by simp⟩ ?_
  clear hm hfine hR hk1
  generalize R.km = km at *
  rintro n e' h' ⟨hlen', k, R, hkm, hm, hfine, rfl, hR, hk, hans, hfr, hh⟩
  obtain ⟨a0, a1, a2, a3, a4, a5, a6, a7, a8, a9, rS0, rfl, hS0⟩ := un10 hlen'
  obtain ⟨a10, a11, a12, a13, a14, a15, a16, a17, a18, a19, rS10, rfl, hS10⟩ := un10 hS0
  obtain ⟨a20, a21, a22, a23, a24, a25, a26, a27, a28, a29, rS20, rfl, hS20⟩ := un10 hS10
  obtain ⟨a30, a31, a32, a33, a34, a35, a36, a37, a38, a39, rS30, rfl, hS30⟩ := un10 hS20
  obtain ⟨a40, a41, a42, a43, a44, a45, a46, a47, a48, a49, rS40, rfl, hS40⟩ := un10 hS30
  obtain ⟨a50, a51, a52, a53, a54, a55, a56, a57, a58, a59, rS50, rfl, hS50⟩ := un10 hS40
  obtain ⟨a60, a61, a62, a63, a64, a65, a66, a67, a68, a69, rS60, rfl, hS60⟩ := un10 hS50
  obtain ⟨a70, rS70, rfl, hS70⟩ := un1 hS60
  obtain ⟨a71, rS71, rfl, hS71⟩ := un1 hS70
  obtain ⟨a72, rS72, rfl, hS72⟩ := un1 hS71
  obtain rfl := un0 hS72
  clear hlen' hS0 hS10 hS20 hS30 hS40 hS50 hS60 hS70 hS71 hS72
  simp at hh hans hfr
  obtain ⟨rfl, rfl, rfl, rfl, rfl⟩ := hh
  have hk0 := hw.keeps.trans hk
  by_cases hlt : k < s.h.length
  · have hlt' : (k : Int) < (s.h.length : Int) := by omega
    have wk : IntKind.i64.wrap ((k : Int) + 1) = (k : Int) + 1 := wrap64 (by omega) (by omega)
    have hy : s.h[k]? = some s.h[k] := by simp [hlt]
    generalize s.h[k] = e at hy
    obtain ⟨a, u, hix, hP, hld⟩ := he.at hy
    have hld := hld h' hk0
    have hok := hP.1
    obtain ⟨hp, h2, rfl, hal, hst, hk2, hn2, hg2⟩ := ent_box (W := W) (h := h') hP
    generalize h'.next = kr at hal hst hn2 hg2
    have hst' := hst
    have hld' := hld
    simp only [Ent.cells, Opn.cells] at hst' hld'
    have hm2 := hm.keeps hk2
    have hdo := do_all W h2 R _ hm2 k hfine (by omega) e.op hok.p hok.t hok.a hok.a'
    simp [push_cast, hlt, hlt', hix, hld', hal, hst', fa78_3, ld_entop hg2, Opn.cells]
    simp only [opV] at hdo
    refine je9 (by simp [fn17]) hdo fun w h3 ⟨R3, hres, hm3, hB3⟩ => ?_
    have hf3 := do_fine hfine (by omega) e.op
    obtain ⟨nv, rfl, hnm⟩ := hres
    have hnB := hnm.nmB hm3
    have hans3 := hans.step ((MStep.refl (R := R) hk2).trans hB3)
    obtain ⟨h4, v', h5, hbs, hap, hans5, ⟨q5, hq5, hv5⟩, hn5, hold5⟩ := hans3.app (W := W) hnB hm3.low (by rw [ans_len]; simp; omega)
    simp only [res6V] at hbs
    simp [push_cast, hbs, hap, wk]
    have hsn := ans_snoc (s.h.take k) M0 e
    have htk : s.h.take (k + 1) = s.h.take k ++ [e] := by rw [List.take_add_one, hy]; rfl
    have hnot : ∀ q n c g, a5 = .sl (some (.new q 0)) n c g → q ∉ R3.ids := fun q n c g e0 => by
      rcases hans3 with ⟨_, e1⟩ | ⟨_, q2, ps, _, _, hni, _, _, e1⟩
      · rw [e1] at e0; cases e0
      · rw [e1] at e0; cases e0; exact hni
    have hR3 : ∀ q ∈ R3.ids, h.next ≤ q := fun q hq => by
      rcases hB3.ids q hq with h6 | h6
      · exact hR q h6
      · have := hk.1; have := hk2.1; omega
    have hm5 : MIs h5 R3 _ := hm3.same (fun q hq => hold5 q (hm3.low q hq) fun k' n c g e0 he => hnot k' n c g e0 (he ▸ hq)) hn5
    have hk5 : Keeps h h5 := ⟨by have := hk.1; have := hk2.1; have := hB3.nx; omega, fun j hj => by
      have j2 : j < h2.next := by have := hk.1; have := hk2.1; omega
      have jn : j ∉ R.ids := fun hc => by have := hR j hc; omega
      rw [hold5 j (Nat.lt_of_lt_of_le j2 hB3.nx) fun k' n c g e0 he => by have := hfr k' n c g e0; omega, hB3.off j j2 jn, hk2.2 j (by have := hk.1; omega), hk.2 j hj]⟩
    refine ⟨n - 1, by omega, by simp, k + 1, R3, by omega, ?_, ?_, hB3.hds.1, hR3, hk5, ?_, ?_, by simp⟩
    · rw [htk, hsn.2]; exact hm5
    · rw [htk, hsn.2]; exact hf3
    · simp only [htk, hsn.1]; simpa using hans5
    · intro q n c g e0
      simp at e0
      rw [hv5] at e0
      cases e0
      have := hk.1; have := hk2.1; have := hB3.nx; omega
  · have hlt' : ¬ (k : Int) < (s.h.length : Int) := by omega
    have htk : s.h.take k = s.h := List.take_of_length_le (by omega)
    rw [htk] at hans
    have hrl := ans_len s.h M0
    generalize ansR M0 s.h = rs at hans hrl ⊢
    have hbx2 := (hk.2 m.kw hkwl).trans hbox
    have hb2 := hbx2
    simp only [wCells] at hb2
    have hlr2 := hr.len h'
    simp [push_cast, hlt, hlt', fa126_5, fa73_1, ld70, ji9 hb2, jd9, hlr2]
    refine loopN (cc_ok W) (An2 h' m.kw a5 rv (ansB wh rs) s.reps) s.reps.length ⟨by simp, Keeps.refl _, 0, by simp, by simp, by simp⟩ ?_
    rintro n2 e' h5 ⟨hlen', hk5, k2, hkm2, hall, hh⟩
    obtain ⟨a0, a1, a2, a3, a4, a5, a6, a7, a8, a9, rS0, rfl, hS0⟩ := un10 hlen'
    obtain ⟨a10, a11, a12, a13, a14, a15, a16, a17, a18, a19, rS10, rfl, hS10⟩ := un10 hS0
    obtain ⟨a20, a21, a22, a23, a24, a25, a26, a27, a28, a29, rS20, rfl, hS20⟩ := un10 hS10
    obtain ⟨a30, a31, a32, a33, a34, a35, a36, a37, a38, a39, rS30, rfl, hS30⟩ := un10 hS20
    obtain ⟨a40, a41, a42, a43, a44, a45, a46, a47, a48, a49, rS40, rfl, hS40⟩ := un10 hS30
    obtain ⟨a50, a51, a52, a53, a54, a55, a56, a57, a58, a59, rS50, rfl, hS50⟩ := un10 hS40
    obtain ⟨a60, a61, a62, a63, a64, a65, a66, a67, a68, a69, rS60, rfl, hS60⟩ := un10 hS50
    obtain ⟨a70, rS70, rfl, hS70⟩ := un1 hS60
    obtain ⟨a71, rS71, rfl, hS71⟩ := un1 hS70
    obtain ⟨a72, rS72, rfl, hS72⟩ := un1 hS71
    obtain rfl := un0 hS72
    clear hlen' hS0 hS10 hS20 hS30 hS40 hS50 hS60 hS70 hS71 hS72
    simp at hh
    obtain ⟨rfl, hv5, rfl, rfl, rfl⟩ := hh
    subst hv5
    have hk05 := hk0.trans hk5
    by_cases hlt2 : k2 < s.reps.length
    · have hlt2' : (k2 : Int) < (s.reps.length : Int) := by omega
      have wk : IntKind.i64.wrap ((k2 : Int) + 1) = (k2 : Int) + 1 := wrap64 (by omega) (by omega)
      have hy : s.reps[k2]? = some s.reps[k2] := by simp [hlt2]
      generalize s.reps[k2] = r at hy
      obtain ⟨a, u, hix, hP, hld⟩ := hr.at hy
      have hld := hld h5 hk05
      have hrl2 : r.res.names.length < 1000000000 := by obtain ⟨_, _, _, c⟩ := hP; exact c
      obtain ⟨nv, hp, h6, rfl, hn, hal, hst, hk6, hn6, hg6⟩ := rep_box (h := h5) hP hk05
      generalize h5.next = kr at hal hst hn6 hg6
      have hnx := all_next (f := ansB wh rs) hy hall
      have hst' := hst
      have hld' := hld
      simp only [Rep.cells] at hst' hld'
      simp [push_cast, hlt2, hlt2', hix, hld', hal, hst', ld_rep hg6]
      refine jf9 (by simp [fn109]) (refusal_ret W h6 r nv) fun h7 hk7 => ?_
      have hg7 := (hk7.2 kr hn6).trans hg6
      have hn7 := Nat.lt_of_lt_of_le hn6 hk7.1
      have hk57 := (hk5.trans hk6).trans hk7
      cases hrf : refB r with
      | true =>
        have hkt : ansB wh rs r = true := by simp only [ansB, hrf, Bool.true_or]
        simp [push_cast, wk]
        exact ⟨n2 - 1, by omega, by simp, hk57, k2 + 1, by omega, by rw [hnx, hkt], by simp⟩
      | false =>
        have hbx7 := ((hk.trans hk57).2 m.kw hkwl).trans hbox
        have hb7 := hbx7
        have hg7' := hg7
        simp only [wCells] at hb7
        simp only [Rep.cells] at hg7'
        have hlk := (hwh.keep (hk.trans hk57)).look (r.client, r.req)
        simp only [reqV] at hlk
        simp [push_cast]
        refine draw1 (cc_ok W) [0, 1, 2, 3, 4, 5, 6, 7, 8, 9, 10] (by kernel_rfl) (by kernel_rfl) (by kernel_rfl) rfl ?_
        have hxi : (lookP wh (r.client, r.req)).getD 0 = 0 ∨ ∃ j : Nat, (lookP wh (r.client, r.req)).getD 0 = ((j + 1 : Nat) : Int) ∧ j < s.h.length := by
          cases hx : lookP wh (r.client, r.req) with
          | none => exact .inl rfl
          | some i =>
            obtain ⟨i1, i2⟩ := hin _ _ hx
            obtain ⟨j, hj⟩ := Int.eq_ofNat_of_zero_le (show 0 ≤ i - 1 by omega)
            exact .inr ⟨j, by simp; omega, by omega⟩
        rcases hxi with hx0 | ⟨j, hxj, hjl⟩
        · have hkt : ansB wh rs r = false := by simp only [ansB, hrf, hx0]; simp
          have haf := all_false (f := ansB wh rs) hy hkt
          rw [hx0] at hlk
          simp [push_cast, fa126_6, fa75_1, fa75_2, ld3, ld124, ji9 hb7, ji9 hg7', jd9, build_req, hlk]
          refine drawS [0, 1, 2, 3, 4, 5, 6, 7, 8, 9, 10, 11, 12] (by kernel_rfl) (by kernel_rfl) ?_
          simp [push_cast, zx9, zy9, SgO, opA, isE, isRead, haf]
          exact hk.trans hk57
        · have hx : rs[j]? = some (rs[j]'(by omega)) := by simp [show j < rs.length by omega]
          generalize rs[j]'(by omega) = x at hx
          obtain ⟨q, nvx, hixx, hldx0, hnmx⟩ := (hans.step (MStep.refl (R := R) hk57)).at (W := W) hx
          have hldx := hldx0 h7 (Keeps.refl _)
          have hkt : ansB wh rs r = sameQ r.res x := by
            simp only [ansB, hrf, hxj, Bool.false_or]
            have h1 : (((j + 1 : Nat) : Int) - 1).toNat = j := by omega
            have h2 : ¬ ((j + 1 : Nat) : Int) = 0 := by omega
            rw [h1, hx]
            have h3 : ¬ (j : Int) + 1 = 0 := by omega
            simp [h3]
          rw [hxj] at hlk
          have w1 : IntKind.i64.wrap (((j + 1 : Nat) : Int) - 1) = (j : Int) := by rw [wrap64 (by omega) (by omega)]; omega
          have hne : (((j + 1 : Nat) : Int) == 0) = false := by rw [beq_eq_false_iff_ne]; omega
          generalize ((j + 1 : Nat) : Int) = J at hlk w1 hne
          simp [push_cast, fa126_6, fa75_1, fa75_2, ld3, ld124, ji9 hb7, ji9 hg7', jd9, build_req, hlk]
          refine drawS [0, 1, 2, 3, 4, 5, 6, 7, 8, 9, 10, 11, 12] (by kernel_rfl) (by kernel_rfl) ?_
          simp [push_cast, zx9, zy9, SgO, opA, isE, isRead, hne, fa75_3, ld_rep3 hg7, w1, hixx, hldx]
          refine jb9 (f := 140) (args := [res6V r.res nv, res6V x nvx]) (by rfl) (by rfl) (by rfl) (by simp [fn140]) (same_ret W h7 r.res x nv nvx (fun h8 hk8 => hn h8 (hk0.trans (hk57.trans hk8))) (fun h8 hk8 => (hnmx.step (MStep.refl (R := R) hk8)).strS) (by omega)) ?_
          rintro w h8 ⟨hw8, hk8⟩
          subst hw8
          have hg8 := (hk8.2 kr hn7).trans hg7
          have hldx8 := hldx0 h8 hk8
          refine ⟨?_, ?_⟩
          · simp [zz9, ja9, push_cast, opA, fa75_3, ld_rep3 hg8, hixx, hldx8]
          cases hsm : sameQ r.res x with
          | true =>
            have hkt2 : ansB wh rs r = true := by rw [hkt, hsm]
            simp [push_cast, zx9, zy9, SgO, opA, isE, isRead, aUn_not', wk]
            exact ⟨n2 - 1, by omega, by simp, hk57.trans hk8, k2 + 1, by omega, by rw [hnx, hkt2], by simp⟩
          | false =>
            have hkt2 : ansB wh rs r = false := by rw [hkt, hsm]
            have haf := all_false (f := ansB wh rs) hy hkt2
            simp [push_cast, zx9, zy9, SgO, opA, isE, isRead, aUn_not', haf]
            exact (hk.trans hk57).trans hk8
    · have hlt2' : ¬ (k2 : Int) < (s.reps.length : Int) := by omega
      have htk2 : s.reps.take k2 = s.reps := List.take_of_length_le (by omega)
      rw [htk2] at hall
      simp [push_cast, hlt2, hlt2', hall]
      exact hk.trans hk5
end Go.Proofs.YtbofhlifobjolaaGreatDoor.Ax
end

/-! Rule 1: the walk -/
section
set_option linter.unusedVariables false
set_option linter.unusedSimpArgs false
namespace Go.Proofs.YtbofhlifobjolaaGreatDoor.Ax
open Go.RowKit

def growF : List Ent → Nat → List (Int × Int) → List (Key × Int) → Option (List (Key × Int))
  | [], _, _, wh => some wh
  | e :: l, i, last, wh => if rightB e = true ∧ (lookP last e.client).getD 0 < e.req then growF l (i + 1) (updP last e.client e.req) (updP wh (e.client, e.req) ((i : Int) + 1)) else none
open Classical in
/-- Rule 1: where each request is; none: the rule is broken. -/
noncomputable def growW (before l : List Ent) : Option (List (Key × Int)) := if before.length ≤ l.length ∧ l.take before.length = before then growF l 0 [] [] else none

theorem updP_map {α β γ : Type} [DecidableEq α] {f : β → γ} {k : α} {v : β} : ∀ (l : List (α × β)), (updP l k v).map (fun p => (p.1, f p.2)) = updP (l.map fun p => (p.1, f p.2)) k (f v)
  | [] => rfl
  | p :: l => by
    simp only [updP, List.map_cons]
    split
    · rfl
    · simp only [List.map_cons, updP_map l]

section
variable {W : World} {h0 h : AH} {m : WM} {P : WP} {sh : Int × Int × Int} {s : See} {wv : AV}
theorem WIs.same {h' : AH} (hw : WIs W h0 h m P sh s wv) (hs : ∀ k ∈ m.ids, h'.get k = h.get k) (hn : h.next ≤ h'.next) (hk : Keeps h0 h') : WIs W h0 h' m P sh s wv := by
  have hko : ∀ k ∈ m.ko, h'.get k = h.get k := fun k hm => hs k (by
    simp only [WM.ids, List.mem_cons, List.mem_append]
    exact .inr (.inr (.inl (by simpa [Option.mem_toList] using hm))))
  obtain ⟨ov, bv, rv, hv, a, b, c⟩ := hw.box
  exact { keeps := hk
          low := fun k hm => ⟨(hw.low k hm).1, Nat.lt_of_lt_of_le (hw.low k hm).2 hn⟩
          nod := hw.nod
          len := hw.len
          box := ⟨ov, bv, rv, hv, (hs m.kw (by simp [WM.ids])).trans a, b.same hko, c⟩
          calls := hw.calls.same (hs m.kc (by simp [WM.ids]))
          each := fun i p q hp hq => by
            obtain ⟨nv, e1, e2⟩ := hw.each i p q hp hq
            obtain ⟨g1, g2⟩ := WM.mem_ck hq
            exact ⟨nv, (hs q.1 g1).trans e1, e2.same fun k hk => hs k (g2 k hk)⟩
          few := hw.few }
theorem st_wher {k : Nat} {kc at_ : Nat} {ov bv rv hv wv2 : AV} {c : Cho} {x : Option Nat} (hg : h.get k = some (.cells (wCells sh kc ov bv at_ c rv hv wv) 126)) : aStoreOp (CC W) h 124 (.ptr (some (.new k 21))) (.map x) = some (h.set k (.cells (wCells sh kc ov bv at_ c rv hv (.map x)) 126)) := by
  simp only [aStoreOp, aCellsOf, size124, aStore, hg]
  rfl
/-- The map of places, laid anew. -/
theorem WIs.setWh (hw : WIs W h0 h m P sh s wv) (x : Option Nat) : ∃ h', aStoreOp (CC W) h 124 (.ptr (some (.new m.kw 21))) (.map x) = some h' ∧ WIs W h0 h' m P sh s (.map x) ∧ h'.next = h.next ∧ ∀ j, j ≠ m.kw → h'.get j = h.get j := by
  obtain ⟨ov, bv, rv, hv, a, b, c⟩ := hw.box
  have hnd := hw.nod
  have hkc : m.kc ≠ m.kw := by
    intro e; rw [WM.ids, List.nodup_cons] at hnd; exact hnd.1 (by simp [e])
  have hko : ∀ k ∈ m.ko, k ≠ m.kw := fun k hk e => by
    rw [WM.ids, List.nodup_cons] at hnd
    refine hnd.1 ?_
    simp only [List.mem_cons, List.mem_append]
    exact .inr (.inl (by rw [← e]; simpa [Option.mem_toList] using hk))
  have hcq : ∀ (i : Nat) (q : Nat × Option Nat), m.cks[i]? = some q → q.1 ≠ m.kw ∧ ∀ k ∈ q.2, k ≠ m.kw := fun i q hq => by
    rw [WM.ids, List.nodup_cons] at hnd
    have hmem := List.mem_of_getElem? hq
    refine ⟨fun e => hnd.1 ?_, fun k hk e => hnd.1 ?_⟩
    · simp only [List.mem_cons, List.mem_append, List.mem_flatMap]
      exact .inr (.inr ⟨q, hmem, .inl e.symm⟩)
    · simp only [List.mem_cons, List.mem_append, List.mem_flatMap]
      exact .inr (.inr ⟨q, hmem, .inr (by rw [← e]; simpa [Option.mem_toList] using hk)⟩)
  refine ⟨_, st_wher (wv2 := wv) a, ?_, rfl, fun j hj => by simp [hj]⟩
  have hlow := hw.low m.kw (by simp [WM.ids])
  exact { keeps := ⟨by simp; exact hw.keeps.1, fun j hj => by
            have : j ≠ m.kw := by omega
            simp [this]; exact hw.keeps.2 j hj⟩
          low := fun k hm => by simpa using hw.low k hm
          nod := hw.nod
          len := hw.len
          box := ⟨ov, bv, rv, hv, by simp, b.same fun k hk => by simp [hko k hk], c⟩
          calls := hw.calls.same (by simp [hkc])
          each := fun i p q hp hq => by
            obtain ⟨nv, e1, e2⟩ := hw.each i p q hp hq
            obtain ⟨g1, g2⟩ := hcq i q hq
            exact ⟨nv, by simp [g1]; exact e1, e2.same fun k hk => by simp [g2 k hk]⟩
          few := hw.few }
end

/-- A step that changes a watcher's blocks alone. -/
def Off (m : WM) (h h' : AH) : Prop := h.next ≤ h'.next ∧ ∀ j, j < h.next → j ∉ m.ids → h'.get j = h.get j
theorem Off.refl (m : WM) (h : AH) : Off m h h := ⟨Nat.le_refl _, fun _ _ _ => rfl⟩
theorem Off.ofKeeps (m : WM) {h h' : AH} (hk : Keeps h h') : Off m h h' := ⟨hk.1, fun j hj _ => hk.2 j hj⟩
theorem Off.trans {m : WM} {h h1 h2 : AH} (a : Off m h h1) (b : Off m h1 h2) : Off m h h2 := ⟨Nat.le_trans a.1 b.1, fun j hj hm => (b.2 j (Nat.lt_of_lt_of_le hj a.1) hm).trans (a.2 j hj hm)⟩
theorem Off.keep {m : WM} {h h1 h2 : AH} (a : Off m h h1) (b : Keeps h1 h2) : Off m h h2 := a.trans (.ofKeeps m b)
/-- One block is changed: a watcher's, or a new one. -/
theorem Off.one {m : WM} {h h1 h2 : AH} (a : Off m h h1) {x : Nat} (hx : x ∈ m.ids ∨ h.next ≤ x) (hn : h2.next = h1.next) (hs : ∀ j, j ≠ x → h2.get j = h1.get j) : Off m h h2 := ⟨by rw [hn]; exact a.1, fun j hj hm => by
  rw [hs j (by
    rintro rfl
    rcases hx with hx | hx
    · exact hm hx
    · omega)]
  exact a.2 j hj hm⟩
def GrI (hs : AH) (W : World) (h0 : AH) (m : WM) (P : WP) (sh : Int × Int × Int) (s : See) (hv : AV) (kh kl : Nat) (n : Nat) (e' : Env) (h' : AH) : Prop :=
  e'.length = 79 ∧ Off m hs h' ∧ ∃ (k : Nat) (last : List (Int × Int)) (wh : List (Key × Int)), k + n = s.h.length ∧ growF (s.h.drop k) k last wh = growF s.h 0 [] [] ∧ WIs W h0 h' m P sh s (.map (some kh)) ∧ (kh ∉ m.ids ∧ kl ∉ m.ids ∧ kh ≠ kl ∧ h0.next ≤ kh ∧ h0.next ≤ kl ∧ kh < h'.next ∧ kl < h'.next ∧ hs.next ≤ kh ∧ hs.next ≤ kl) ∧
    MapG (reqK W) h' kh (wh.map fun p => (p.1, .int .i64 p.2)) ∧ MapG (intK W) h' kl (last.map fun p => (p.1, .int .i64 p.2)) ∧
    (e'.getD 0 .undef = .ptr (some (.new m.kw 0)) ∧ hv = e'.getD 3 .undef ∧ e'.getD 4 .undef = .map (some kl) ∧ hv = e'.getD 42 .undef ∧ e'.getD 43 .undef = .int .i64 s.h.length ∧ e'.getD 44 .undef = .int .i64 k)

set_option maxRecDepth 100000 in
set_option maxHeartbeats 16000000 in
theorem grows_ret (W : World) (h0 h : AH) (m : WM) (P : WP) (sh : Int × Int × Int) (s : See) (wv : AV) (hw : WIs W h0 h m P sh s wv) (hl : s.h.length < 1000000) (hlb : P.before.length < 1000000) :
    ACall (CC W) 104 [.ptr (some (.new m.kw 0))] h (fun w h' => match growW P.before s.h with
      | none => w = .bool false ∧ Keeps h0 h' ∧ Off m h h'
      | some wh => w = .bool true ∧ ∃ wv', WIs W h0 h' m P sh s wv' ∧ WhIs W h' wv' wh ∧ Off m h h') (fun _ _ => False) := by
  refine jj9 (cc_ok W) (fn104 W) (by simp only [Tryz.f104]; rfl) rfl rfl ?_
  obtain ⟨ov, bv, rv, hv, hbox, _, hbe, _, he⟩ := hw.box
  have hb1 := hbox
  simp only [wCells] at hb1
  have l1 := he.len h
  have l2 := hbe.len h
  simp [push_cast, fa126_5, fa73_2, ld71, ji9 hb1, jd9]
  refine drawS [0, 1, 2, 3, 4, 5, 6, 7, 8, 9, 10, 11, 12, 13, 14, 15, 16, 17, 18, 19, 20, 21, 22] (by kernel_rfl) (by kernel_rfl) ?_
  by_cases hpl : P.before.length ≤ s.h.length
  · have hpl' : ¬ (s.h.length : Int) < (P.before.length : Int) := by omega
    obtain ⟨v', hsl, htk⟩ := BSl.take he (kind71 W) (size78 W) hpl
    simp [push_cast, zx9, zy9, SgO, opA, isE, isRead, fa126_3, ld71, ji9 hb1, jd9, l1, l2, hpl', hsl]
    have hEq := ents_ret W 135 (.inl rfl) h v' bv (s.h.take P.before.length) P.before
      (fun i x hx => by
        obtain ⟨a, u, e1, ⟨_, e2⟩, e3⟩ := EntS.at htk hx
        exact ⟨a, e1, by rw [e3 h hw.keeps, e2]⟩)
      (fun i x hx => by
        obtain ⟨a, u, e1, ⟨_, e2⟩, e3⟩ := EntS.at hbe hx
        exact ⟨a, e1, by rw [e3 h hw.keeps, e2]⟩) (EntS.len htk h) l2 (by simp; omega)
    refine jb9 (f := 135) (args := [v', bv]) (by rfl) (by rfl) (by rfl) (by simp [fn135]) hEq ?_
    rintro w h1 ⟨hw1, hh1⟩
    subst hw1
    subst hh1
    refine ⟨?_, ?_⟩
    · simp [zz9, ja9, push_cast, opA, fa126_3, ld71, ji9 hb1, jd9, l1, l2, hpl', hsl]
    by_cases heq : s.h.take P.before.length = P.before
    · have hgw : growW P.before s.h = growF s.h 0 [] [] := by simp only [growW]; rw [if_pos ⟨hpl, heq⟩]
      have hmk : aMakeMap h1 none = some (.map (some h1.next), h1.push (.map [] 0)) := rfl
      have hwp := hw.keep (Keeps.push h1 (.map [] 0))
      obtain ⟨h2, hst, hw2, hnx2, hoff2⟩ := hwp.setWh (some h1.next)
      have hkwl := (hw.low m.kw (by simp [WM.ids])).2
      have hkh : h2.get h1.next = some (.map [] 0) := by rw [hoff2 _ (by omega)]; simp
      have hmk2 : aMakeMap h2 none = some (.map (some h2.next), h2.push (.map [] 0)) := rfl
      have hw3 := hw2.keep (Keeps.push h2 (.map [] 0))
      have hkh3 : (h2.push (.map [] 0)).get h1.next = some (.map [] 0) := by rw [AH.get_push, if_neg (by rw [hnx2]; simp)]; exact hkh
      have hkl3 : (h2.push (.map [] 0)).get h2.next = some (.map [] 0) := by simp
      have hnl : ∀ k ∈ m.ids, k < h1.next := fun k hk => (hw.low k hk).2
      have hn2 : h2.next = h1.next + 1 := by rw [hnx2]; rfl
      have hn3 : (h2.push (.map [] 0)).next = h1.next + 2 := by simp [hn2]
      have l3 := he.len (h2.push (.map [] 0))
      have hof3 : Off m h1 (h2.push (.map [] 0)) := ((((Off.refl m h1).keep (Keeps.push h1 (.map [] 0))).one (x := m.kw) (.inl (by simp [WM.ids])) hnx2 hoff2)).keep (Keeps.push h2 (.map [] 0))
      rw [hgw]
      simp [push_cast, zx9, zy9, SgO, opA, isE, isRead, heq, aUn_not', hmk, fa126_6, jd9, hst, hmk2, l3]
      generalize h2.push (.map [] 0) = h3 at hw3 hkh3 hkl3 hn3 l3 hof3
      rw [hn2] at hkl3
      have hk0 := hw.keeps
      have hkhl : h1.next ≤ h1.next := Nat.le_refl _
      generalize hkhe : h1.next = kh at *
      refine loopN (cc_ok W) (GrI h1 W h0 m P sh s hv kh (kh + 1)) s.h.length ⟨by simp, hof3, 0, [], [], by simp, by simp, hw3, ⟨fun hc => by have := hnl _ hc; omega, fun hc => by have := hnl _ hc; omega, by omega, by have := hk0.1; omega, by have := hk0.1; omega, by omega, by omega, by omega, by omega⟩, ⟨[], 0, hkh3, rfl, by simp, by simp⟩, ⟨[], 0, hkl3, rfl, by simp, by simp⟩, by simp [hn2]⟩ ?_
      generalize kh + 1 = kl
      rintro n e' h' ⟨hlen', hof, k, last, wh, hkm, hgf, hw', ⟨g1, g2, g3, g4, g5, g6, g7, g8, g9⟩, hmh, hml, hh⟩
      obtain ⟨a0, a1, a2, a3, a4, a5, a6, a7, a8, a9, rS0, rfl, hS0⟩ := un10 hlen'
      obtain ⟨a10, a11, a12, a13, a14, a15, a16, a17, a18, a19, rS10, rfl, hS10⟩ := un10 hS0
      obtain ⟨a20, a21, a22, a23, a24, a25, a26, a27, a28, a29, rS20, rfl, hS20⟩ := un10 hS10
      obtain ⟨a30, a31, a32, a33, a34, a35, a36, a37, a38, a39, rS30, rfl, hS30⟩ := un10 hS20
      obtain ⟨a40, a41, a42, a43, a44, a45, a46, a47, a48, a49, rS40, rfl, hS40⟩ := un10 hS30
      obtain ⟨a50, a51, a52, a53, a54, a55, a56, a57, a58, a59, rS50, rfl, hS50⟩ := un10 hS40
      obtain ⟨a60, a61, a62, a63, a64, a65, a66, a67, a68, a69, rS60, rfl, hS60⟩ := un10 hS50
      obtain ⟨a70, rS70, rfl, hS70⟩ := un1 hS60
      obtain ⟨a71, rS71, rfl, hS71⟩ := un1 hS70
      obtain ⟨a72, rS72, rfl, hS72⟩ := un1 hS71
      obtain ⟨a73, rS73, rfl, hS73⟩ := un1 hS72
      obtain ⟨a74, rS74, rfl, hS74⟩ := un1 hS73
      obtain ⟨a75, rS75, rfl, hS75⟩ := un1 hS74
      obtain ⟨a76, rS76, rfl, hS76⟩ := un1 hS75
      obtain ⟨a77, rS77, rfl, hS77⟩ := un1 hS76
      obtain ⟨a78, rS78, rfl, hS78⟩ := un1 hS77
      obtain rfl := un0 hS78
      clear hlen' hS0 hS10 hS20 hS30 hS40 hS50 hS60 hS70 hS71 hS72 hS73 hS74 hS75 hS76 hS77 hS78
      simp at hh
      obtain ⟨rfl, hv3, rfl, hv42, rfl, rfl⟩ := hh
      subst hv42
      subst hv3
      rw [← hgf]
      by_cases hlt : k < s.h.length
      · have hlt' : (k : Int) < (s.h.length : Int) := by omega
        have wk : IntKind.i64.wrap ((k : Int) + 1) = (k : Int) + 1 := wrap64 (by omega) (by omega)
        have hy : s.h[k]? = some s.h[k] := by simp [hlt]
        have hdr : s.h.drop k = s.h[k] :: s.h.drop (k + 1) := List.drop_eq_getElem_cons hlt
        obtain ⟨e, hee⟩ : ∃ e, e = s.h[k] := ⟨_, rfl⟩
        rw [← hee] at hy hdr
        clear hee
        rw [hdr]
        obtain ⟨a, u, hix, hP, hld⟩ := he.at hy
        have hld := hld h' hw'.keeps
        obtain ⟨hp, h5, rfl, hal, hst5, hk5, hn5, hg5⟩ := ent_box (W := W) (h := h') hP
        have g6r := g6
        have g7r := g7
        generalize h'.next = kr at hal hst5 hn5 hg5 g6r g7r
        have hst5' := hst5
        have hld' := hld
        simp only [Ent.cells, Opn.cells] at hst5' hld'
        simp [push_cast, hlt, hlt', hix, hld', hal, hst5', ld_ent hg5]
        refine jg9 (by simp [fn136]) (encode_ret W h5 e) fun w h6 hk6 ⟨s6, hw6⟩ => ?_
        subst hw6
        have hw6 := (hw'.keep hk5).keep hk6
        have hg6 := (hk6.2 kr hn5).trans hg5
        have hn6 := Nat.lt_of_lt_of_le hn5 hk6.1
        have hg6' := hg6
        simp only [Ent.cells, Opn.cells] at hg6'
        have hml6 := hml.same ((hk5.trans hk6).2 kl g7)
        have hmh6 := hmh.same ((hk5.trans hk6).2 kh g6)
        cases hrb : rightB e with
        | false =>
          have hgn : growF (e :: s.h.drop (k + 1)) k last wh = none := by simp only [growF, hrb]; simp
          rw [hgn]
          simp [push_cast]
          exact ⟨hw6.keeps, (hof.keep hk5).keep hk6⟩
        | true =>
          have hlk := look_kt (intK W) (T := 204) (V := 3) (z := .int .i64 0) rfl rfl (fun _ _ => rfl) hml6 e.client
          rw [lookP_map] at hlk
          have hlk2 : aLookup (CC W) h6 204 (.map (some kl)) (.int .i64 e.client) false = some (.int .i64 ((lookP last e.client).getD 0)) := by
            refine hlk.trans ?_
            cases lookP last e.client <;> rfl
          by_cases hlt2 : (lookP last e.client).getD 0 < e.req
          · have hle : ¬ e.req ≤ (lookP last e.client).getD 0 := by omega
            have hgn : growF (e :: s.h.drop (k + 1)) k last wh = growF (s.h.drop (k + 1)) (k + 1) (updP last e.client e.req) (updP wh (e.client, e.req) ((k : Int) + 1)) := by simp only [growF]; rw [if_pos ⟨hrb, hlt2⟩]
            rw [hgn]
            obtain ⟨h7, hst7, hml7, hn7, hoff7⟩ := set_kt (intK W) (T := 204) (V := 3) rfl hml6 e.client (.int .i64 e.req)
            have hst7' : aMapSet (CC W) h6 204 (.map (some kl)) (.int .i64 e.client) (.int .i64 e.req) = some h7 := hst7
            have hw7 := hw6.same (fun q hq => hoff7 q fun e0 => g2 (e0 ▸ hq)) (Nat.le_of_eq hn7.symm) ⟨by rw [hn7]; exact hw6.keeps.1, fun j hj => by rw [hoff7 j (by omega)]; exact hw6.keeps.2 j hj⟩
            have hmh7 := hmh6.same (hoff7 kh g3)
            have hg7 := (hoff7 kr (by omega)).trans hg6
            obtain ⟨ov7, bv7, rv7, hv7, hbox7, _⟩ := hw7.box
            have hb7 := hbox7
            simp only [wCells] at hb7
            simp [push_cast, fa78_1, fa78_2, ld3, ji9 hg6', jd9, hlk2, hle, hst7']
            refine drawS [0, 1, 2, 3, 4, 6, 7, 5, 8] (by kernel_rfl) (by kernel_rfl) ?_
            simp [push_cast, zx9, zy9, SgO, opA, isE, isRead, fa126_6, ld124, ji9 hb7, jd9, ld_ent hg7, wk]
            refine jb9 (f := 137) (args := [.agg e.cells]) (by rfl) (by rfl) (by rfl) (by simp [fn137]) (reqof_ret W h7 e) ?_
            rintro w h8 ⟨hw8, hk8⟩
            subst hw8
            have hn67 : kr < h7.next := by rw [hn7]; exact hn6
            have hkh7 : kh < h7.next := by omega
            have hkl7 : kl < h7.next := by omega
            have hg8 := (hk8.2 kr hn67).trans hg7
            have hb8 := (hk8.2 m.kw (hw7.low m.kw (by simp [WM.ids])).2).trans hb7
            have hw8 := hw7.keep hk8
            have hmh8 := hmh7.same (hk8.2 kh hkh7)
            have hml8 := hml7.same (hk8.2 kl hkl7)
            refine ⟨?_, ?_⟩
            · simp [zz9, ja9, push_cast, opA, fa126_6, ld124, ji9 hb8, jd9, ld_ent hg8]
            obtain ⟨h9, hst9, hmh9, hn9, hoff9⟩ := set_kt (reqK W) (T := 124) (V := 3) rfl hmh8 (e.client, e.req) (.int .i64 ((k : Int) + 1))
            have hst9' : aMapSet (CC W) h8 124 (.map (some kh)) (.agg [.int .i64 e.client, .int .i64 e.req]) (.int .i64 ((k : Int) + 1)) = some h9 := hst9
            have hw9 := hw8.same (fun q hq => hoff9 q fun e0 => g1 (e0 ▸ hq)) (Nat.le_of_eq hn9.symm) ⟨by rw [hn9]; exact hw8.keeps.1, fun j hj => by rw [hoff9 j (by omega)]; exact hw8.keeps.2 j hj⟩
            have hml9 := hml8.same (hoff9 kl (Ne.symm g3))
            have hg9 := (hoff9 kr (by omega)).trans hg8
            obtain ⟨ov9, bv9, rv9, hv9, hbox9, _⟩ := hw9.box
            have hb9 := hbox9
            simp only [wCells] at hb9
            simp [push_cast, zx9, zy9, SgO, opA, isE, isRead]
            refine jc9 (h' := h9) (v := .undef) (by rfl) (by simp [push_cast, hst9']) ⟨?_, ?_⟩
            · simp [zz9, ja9, push_cast, opA, fa126_6, ld124, ji9 hb9, jd9, ld_ent hg9]
            simp [push_cast, zx9, zy9, SgO, opA, isE, isRead, wk]
            have e1 := updP_map (f := fun i : Int => AV.int .i64 i) (k := (e.client, e.req)) (v := (k : Int) + 1) wh
            have e2 := updP_map (f := fun i : Int => AV.int .i64 i) (k := e.client) (v := e.req) last
            have := hk8.1
            have hof9 : Off m h1 h9 := (((((hof.keep hk5).keep hk6).one (x := kl) (.inr (by omega)) hn7 hoff7)).keep hk8).one (x := kh) (.inr (by omega)) hn9 hoff9
            refine ⟨n - 1, by omega, by simp, hof9, k + 1, updP last e.client e.req, updP wh (e.client, e.req) ((k : Int) + 1), by omega, hgn.symm.trans (by rw [← hdr]; exact hgf), hw9, ⟨g1, g2, g3, g4, g5, by omega, by omega, g8, g9⟩, ?_, ?_, by simp⟩
            · rw [e1]; exact hmh9
            · rw [e2]; exact hml9
          · have hle : e.req ≤ (lookP last e.client).getD 0 := by omega
            have hgn : growF (e :: s.h.drop (k + 1)) k last wh = none := by simp only [growF]; rw [if_neg fun hc => hlt2 hc.2]
            rw [hgn]
            simp [push_cast, fa78_1, fa78_2, ld3, ji9 hg6', jd9, hlk2, hle]
            exact ⟨hw6.keeps, (hof.keep hk5).keep hk6⟩
      · have hlt' : ¬ (k : Int) < (s.h.length : Int) := by omega
        have hdr : s.h.drop k = [] := List.drop_of_length_le (by omega)
        rw [hdr]
        simp [push_cast, hlt, hlt', growF]
        exact ⟨_, hw', ⟨kh, rfl, g6, hmh⟩, hof⟩
    · have hgw : growW P.before s.h = none := by simp only [growW]; rw [if_neg fun hc => heq hc.2]
      simp [push_cast, zx9, zy9, SgO, opA, isE, isRead, heq, aUn_not', hgw]
      exact ⟨hw.keeps, Off.refl _ _⟩
  · have hpl' : (s.h.length : Int) < (P.before.length : Int) := by omega
    have hgw : growW P.before s.h = none := by simp only [growW]; rw [if_neg fun hc => hpl hc.1]
    simp [push_cast, zx9, zy9, SgO, opA, isE, isRead, fa126_3, ld71, ji9 hb1, jd9, l1, l2, hpl', hgw]
    exact ⟨hw.keeps, Off.refl _ _⟩
end Go.Proofs.YtbofhlifobjolaaGreatDoor.Ax
end

/-! Rule 5: when a call was replied first -/
section
set_option linter.unusedVariables false
set_option linter.unusedSimpArgs false
namespace Go.Proofs.YtbofhlifobjolaaGreatDoor.Ax
open Go.RowKit

theorem WM.sep {m : WM} (hn : m.ids.Nodup) {i : Nat} {q : Nat × Option Nat} (hq : m.cks[i]? = some q) :
    (q.1 ≠ m.kw ∧ q.1 ≠ m.kc ∧ (∀ k ∈ m.ko, k ≠ q.1) ∧ ∀ k ∈ q.2, k ≠ q.1) ∧ ∀ (j : Nat) (q' : Nat × Option Nat), m.cks[j]? = some q' → i ≠ j → q'.1 ≠ q.1 ∧ ∀ k ∈ q'.2, k ≠ q.1 := by
  have hm := List.mem_of_getElem? hq
  simp only [WM.ids, List.nodup_cons, List.nodup_append, List.mem_cons, List.mem_append, not_or] at hn
  obtain ⟨⟨a1, a2, a3⟩, ⟨b1, b2⟩, c1, c2, c3⟩ := hn
  have hf : ∀ (p : Nat × Option Nat), p ∈ m.cks → ∀ x, x = p.1 ∨ x ∈ p.2 → x ∈ m.cks.flatMap fun p => p.1 :: p.2.toList := fun p hp x hx => by
    rw [List.mem_flatMap]
    refine ⟨p, hp, ?_⟩
    rw [List.mem_cons]
    rcases hx with hx | hx
    · exact .inl hx
    · exact .inr (by simpa [Option.mem_toList] using hx)
  rw [List.nodup_iff_pairwise_ne, List.pairwise_flatMap] at c2
  obtain ⟨d1, d2⟩ := c2
  refine ⟨⟨fun e => a3 (e ▸ hf q hm _ (.inl rfl)), fun e => b2 (e ▸ hf q hm _ (.inl rfl)), fun k hk e => c3 k (by simpa [Option.mem_toList] using hk) q.1 (hf q hm _ (.inl rfl)) e, fun k hk e => ?_⟩, fun j q' hq' hij => ?_⟩
  · have := d1 q hm
    rw [List.pairwise_cons] at this
    exact this.1 k (by simpa [Option.mem_toList] using hk) e.symm
  · have hm' := List.mem_of_getElem? hq'
    obtain ⟨hi, ei⟩ := List.getElem?_eq_some_iff.1 hq
    obtain ⟨hj, ej⟩ := List.getElem?_eq_some_iff.1 hq'
    rw [List.pairwise_iff_getElem] at d2
    have key : ∀ x, (x = q'.1 ∨ x ∈ q'.2) → x ≠ q.1 := fun x hx e => by
      have hx' : x ∈ q'.1 :: q'.2.toList := by
        rw [List.mem_cons]
        rcases hx with hx | hx
        · exact .inl hx
        · exact .inr (by simpa [Option.mem_toList] using hx)
      rcases Nat.lt_or_gt_of_ne hij with h | h
      · have := d2 i j hi hj h
        rw [ei, ej] at this
        exact this q.1 (by simp) x hx' e.symm
      · have := d2 j i hj hi h
        rw [ei, ej] at this
        exact this x hx' q.1 (by simp) e
    exact ⟨key _ (.inl rfl), fun k hk => key k (.inr hk)⟩

theorem set_sameL {α : Type} {l : List α} {i : Nat} {x : α} (h : l[i]? = some x) : l.set i x = l := by
  obtain ⟨hi, rfl⟩ := List.getElem?_eq_some_iff.1 h
  exact List.set_getElem_self hi
theorem ptrs_set {k : Key} {c' : Cal} : ∀ (l : List (Key × Cal)) (cks : List (Nat × Option Nat)) (i : Nat) (c : Cal), l[i]? = some (k, c) → ptrsOf (l.set i (k, c')) cks = ptrsOf l cks
  | [], _, i, _, h => by simp at h
  | p :: l, [], i, c, h => by cases i <;> simp [ptrsOf]
  | p :: l, q :: cks, 0, c, h => by
    simp at h; subst h
    rfl
  | p :: l, q :: cks, i + 1, c, h => by
    have ih := ptrs_set (k := k) (c' := c') l cks i c (by simpa using h)
    simp only [ptrsOf] at ih
    simp only [ptrsOf, List.set_cons_succ, List.zip_cons_cons, List.map_cons, ih]

section
variable {W : World} {h0 h : AH} {m : WM} {P : WP} {sh : Int × Int × Int} {s : See} {wv : AV}
theorem st_rep8 {k : Nat} {c : Cal} {nv : AV} {r : Int} (hg : h.get k = some (.cells (cCells c nv) 131)) : aStoreOp (CC W) h 3 (.ptr (some (.new k 8))) (.int .i64 r) = some (h.set k (.cells (cCells { c with rep := r } nv) 131)) := by
  simp only [aStoreOp, aCellsOf, size3, aStore, hg]
  rfl
/-- When a call was replied first, noted. -/
theorem WIs.setRep (hw : WIs W h0 h m P sh s wv) {i : Nat} {k : Key} {c : Cal} {q : Nat × Option Nat} {nv : AV} (hp : P.calls[i]? = some (k, c)) (hq : m.cks[i]? = some q) (hg : h.get q.1 = some (.cells (cCells c nv) 131)) (hnd : NdsIs h q.2 nv c.nodes) (r : Int) :
    WIs W h0 (h.set q.1 (.cells (cCells { c with rep := r } nv) 131)) m { P with calls := P.calls.set i (k, { c with rep := r }) } sh s wv := by
  obtain ⟨⟨s1, s2, s3, s4⟩, s5⟩ := WM.sep hw.nod hq
  obtain ⟨ov, bv, rv, hv, a, b, d⟩ := hw.box
  have hlow := hw.low q.1 (WM.mem_ck hq).1
  have hil := (List.getElem?_eq_some_iff.1 hp).1
  have hkeys : (P.calls.set i (k, { c with rep := r })).map (·.1) = P.calls.map (·.1) := by
    rw [List.map_set]
    exact set_sameL (by rw [List.getElem?_map, hp]; rfl)
  exact { keeps := ⟨by simp; exact hw.keeps.1, fun j hj => by
            have : j ≠ q.1 := by omega
            simp [this]; exact hw.keeps.2 j hj⟩
          low := fun x hx => by simpa using hw.low x hx
          nod := hw.nod
          len := by simp; exact hw.len
          box := ⟨ov, bv, rv, hv, by simp [Ne.symm s1]; exact a, by
            rw [hkeys]; exact b.same fun x hx => by simp [s3 x hx], d⟩
          calls := by
            rw [ptrs_set _ _ _ _ hp]
            exact hw.calls.same (by simp [Ne.symm s2])
          each := fun j p q' hp' hq' => by
            by_cases e : i = j
            · subst e
              rw [hq] at hq'; cases hq'
              rw [List.getElem?_set_self hil] at hp'
              cases hp'
              exact ⟨nv, by simp, hnd.same fun x hx => by simp [s4 x hx]⟩
            · rw [List.getElem?_set_ne e] at hp'
              obtain ⟨nv', e1, e2⟩ := hw.each j p q' hp' hq'
              obtain ⟨t1, t2⟩ := s5 j q' hq' e
              exact ⟨nv', by simp [t1]; exact e1, e2.same fun x hx => by simp [t2 x hx]⟩
          few := ⟨by simp; exact hw.few.1, hw.few.2.1, fun p hp' => by
            rcases List.mem_or_eq_of_mem_set hp' with hp' | rfl
            · exact hw.few.2.2 p hp'
            · exact hw.few.2.2 (k, c) (List.mem_of_getElem? hp)⟩ }
end
end Go.Proofs.YtbofhlifobjolaaGreatDoor.Ax
end

/-! Rule 5: the walk -/
section
set_option linter.unusedVariables false
set_option linter.unusedSimpArgs false
namespace Go.Proofs.YtbofhlifobjolaaGreatDoor.Ax
open Go.RowKit

def rep1 (P : WP) (r : Rep) : WP := if refB r = true then P else match lookP P.calls (r.client, r.req) with
  | none => P
  | some c => if c.rep < 0 then { P with calls := updP P.calls (r.client, r.req) { c with rep := P.at_ } } else P
def repP (P : WP) : List Rep → WP
  | [] => P
  | r :: l => repP (rep1 P r) l

theorem lookP_ptrs2 {k : Key} : ∀ (l : List (Key × Cal)) (cks : List (Nat × Option Nat)), cks.length = l.length →
    (lookP l k = none ∧ lookP (ptrsOf l cks) k = none) ∨ ∃ (i : Nat) (c : Cal) (q : Nat × Option Nat), l[i]? = some (k, c) ∧ cks[i]? = some q ∧ lookP l k = some c ∧ lookP (ptrsOf l cks) k = some (.ptr (some (.new q.1 0))) ∧ ∀ c', l.set i (k, c') = updP l k c'
  | [], cks, _ => .inl ⟨rfl, by simp [ptrsOf, lookP]⟩
  | p :: l, [], h => by simp at h
  | p :: l, q :: cks, h => by
    by_cases hk : k = p.1
    · right
      exact ⟨0, p.2, q, by simp [hk], rfl, by simp [lookP, hk], by simp [ptrsOf, lookP, hk], fun c' => by simp [updP, hk]⟩
    · have e : ptrsOf (p :: l) (q :: cks) = (p.1, .ptr (some (.new q.1 0))) :: ptrsOf l cks := rfl
      rcases lookP_ptrs2 (k := k) l cks (by simpa using h) with ⟨e1, e2⟩ | ⟨i, c, q', e1, e2, e3, e4, e5⟩
      · exact .inl ⟨by simp [lookP, hk, e1], by rw [e]; simp [lookP, hk, e2]⟩
      · exact .inr ⟨i + 1, c, q', by simpa using e1, by simpa using e2, by simp [lookP, hk, e3], by rw [e]; simp [lookP, hk, e4], fun c' => by simp [updP, hk, e5]⟩
theorem WIs.look2 {W : World} {h0 h : AH} {m : WM} {P : WP} {sh : Int × Int × Int} {s : See} {wv : AV} (hw : WIs W h0 h m P sh s wv) (k : Key) :
    (lookP P.calls k = none ∧ aLookup (CC W) h 122 (.map (some m.kc)) (reqV k) false = some (.ptr none)) ∨
    ∃ (i : Nat) (c : Cal) (q : Nat × Option Nat) (nv : AV), P.calls[i]? = some (k, c) ∧ m.cks[i]? = some q ∧ lookP P.calls k = some c ∧ aLookup (CC W) h 122 (.map (some m.kc)) (reqV k) false = some (.ptr (some (.new q.1 0))) ∧
      h.get q.1 = some (.cells (cCells c nv) 131) ∧ NdsIs h q.2 nv c.nodes ∧ ∀ c', P.calls.set i (k, c') = updP P.calls k c' := by
  have hl := look_kt (reqK W) (T := 122) (V := 129) (z := .ptr none) rfl rfl (fun _ _ => rfl) hw.calls k
  rcases lookP_ptrs2 (k := k) P.calls m.cks hw.len with ⟨e1, e2⟩ | ⟨i, c, q, e1, e2, e3, e4, e5⟩
  · left
    rw [e2] at hl
    exact ⟨e1, hl⟩
  · right
    rw [e4] at hl
    obtain ⟨nv, g1, g2⟩ := hw.each i _ q e1 e2
    exact ⟨i, c, q, nv, e1, e2, e3, hl, g1, g2, e5⟩
theorem lookP_upd {α β : Type} [DecidableEq α] {k x : α} {v : β} : ∀ (l : List (α × β)), lookP (updP l k v) x = if x = k then some v else lookP l x
  | [] => by
    by_cases h : x = k
    · simp [updP, lookP, h]
    · simp [updP, lookP, h]
  | p :: l => by
    have ih := lookP_upd (k := k) (x := x) (v := v) l
    by_cases hk : k = p.1
    · by_cases hx : x = p.1
      · simp [updP, lookP, hk, hx]
      · simp [updP, lookP, hk, hx]
    · by_cases hx : x = p.1
      · have : ¬ x = k := fun e => hk (e ▸ hx)
        simp [updP, lookP, hk, hx, this]
        intro e; exact absurd e.symm hk
      · simp only [updP, hk, if_false, lookP, hx]
        exact ih

def OrdI (hs : AH) (W : World) (h0 : AH) (m : WM) (P : WP) (sh : Int × Int × Int) (s : See) (wv rv : AV) (wh : List (Key × Int)) (n : Nat) (e' : Env) (h' : AH) : Prop :=
  e'.length = 103 ∧ Off m hs h' ∧ ∃ (k : Nat) (Q : WP), k + n = s.reps.length ∧ repP Q (s.reps.drop k) = repP P s.reps ∧ WIs W h0 h' m Q sh s wv ∧ WhIs W h' wv wh ∧ (∀ x, lookP P.calls x ≠ none → lookP Q.calls x ≠ none) ∧
    (e'.getD 0 .undef = .ptr (some (.new m.kw 0)) ∧ e'.getD 15 .undef = rv ∧ e'.getD 16 .undef = .int .i64 s.reps.length ∧ e'.getD 17 .undef = .int .i64 k)
theorem WhIs.setOther {W : World} {h : AH} {wv : AV} {wh : List (Key × Int)} (hw : WhIs W h wv wh) {k : Nat} {c c' : List AV} {t : TypeId} (hg : h.get k = some (.cells c t)) : WhIs W (h.set k (.cells c' t)) wv wh := by
  obtain ⟨kh, a, b, es, cl, d, e⟩ := hw
  have hne : kh ≠ k := by
    rintro rfl
    rw [d] at hg; simp at hg
  exact ⟨kh, a, by simpa using b, es, cl, by simp [hne]; exact d, e⟩

/-- Rule 5, of one call. -/
def ordC (P : WP) (wh : List (Key × Int)) (l : List Ent) (p : Key × Cal) : Bool :=
  decide (p.2.rep < 0) || (decide ((lookP wh p.1).getD 0 = 0) || (l.take ((lookP wh p.1).getD 0 - 1).toNat).all fun e => match lookP P.calls (e.client, e.req) with
    | some c => decide ((c.at_ : Int) ≤ p.2.rep)
    | none => false)
def ordB (P : WP) (wh : List (Key × Int)) (l : List Ent) : Bool := P.calls.all (ordC P wh l)
theorem WhIs.setMiter {W : World} {h : AH} {wv : AV} {wh : List (Key × Int)} (hw : WhIs W h wv wh) {k : Nat} {a : Option Nat} {b d : Nat} {l l' : List Nat} (hg : h.get k = some (.miter a b l d)) : WhIs W (h.set k (.miter a b l' d)) wv wh := by
  obtain ⟨kh, e1, e2, es, cl, e3, e4⟩ := hw
  have hne : kh ≠ k := by
    rintro rfl
    rw [e3] at hg; simp at hg
  exact ⟨kh, e1, by simpa using e2, es, cl, by simp [hne]; exact e3, e4⟩
theorem born_inj {es : List AEnt} (hn : (es.map (·.born)).Nodup) {i j : Nat} {e f : AEnt} (hi : es[i]? = some e) (hj : es[j]? = some f) (he : e.born = f.born) : i = j := by
  rw [List.nodup_iff_pairwise_ne, List.pairwise_map, List.pairwise_iff_getElem] at hn
  obtain ⟨hi', rfl⟩ := List.getElem?_eq_some_iff.1 hi
  obtain ⟨hj', rfl⟩ := List.getElem?_eq_some_iff.1 hj
  rcases Nat.lt_trichotomy i j with h | h | h
  · exact absurd he (hn i j hi' hj' h)
  · exact h
  · exact absurd he.symm (hn j i hj' hi' h)
theorem rng_req {W : World} {h : AH} {km clock : Nat} {es : List AEnt} (hg : h.get km = some (.map es clock)) : aRange (CC W) h 122 (.map (some km)) = some (.ptr (some (.new h.next 0)), h.push (.miter (some km) clock [] clock)) := by
  have hkd : (CC W).kind 122 = .map 128 129 := rfl
  simp only [aRange, hkd, hg]
/-- What an entry of the map of calls says. -/
theorem ent_call {W : World} {h0 h : AH} {m : WM} {P : WP} {sh : Int × Int × Int} {s : See} {wv : AV} (hw : WIs W h0 h m P sh s wv) {es : List AEnt} (hes : es.map (fun e => (e.key, e.val)) = (ptrsOf P.calls m.cks).map (fun p => ((reqK W).kv p.1, p.2))) {e : AEnt} (he : e ∈ es) :
    ∃ (i : Nat) (p : Key × Cal) (q : Nat × Option Nat), es[i]? = some e ∧ P.calls[i]? = some p ∧ m.cks[i]? = some q ∧ e.key = reqV p.1 ∧ e.val = .ptr (some (.new q.1 0)) := by
  obtain ⟨i, hi⟩ := List.getElem?_of_mem he
  have h1 := congrArg (fun l => l[i]?) hes
  simp only [List.getElem?_map, hi, Option.map_some] at h1
  cases hz : (ptrsOf P.calls m.cks)[i]? with
  | none => rw [hz] at h1; simp at h1
  | some z =>
    rw [hz] at h1
    simp only [Option.map_some, Option.some.injEq, Prod.mk.injEq] at h1
    simp only [ptrsOf, List.getElem?_map, Option.map_eq_some_iff] at hz
    obtain ⟨⟨p, q⟩, hpq, rfl⟩ := hz
    rw [List.getElem?_zip_eq_some] at hpq
    exact ⟨i, p, q, hi, hpq.1, hpq.2, h1.1, h1.2⟩
theorem call_ent {W : World} {h0 h : AH} {m : WM} {P : WP} {sh : Int × Int × Int} {s : See} {wv : AV} (hw : WIs W h0 h m P sh s wv) {es : List AEnt} (hes : es.map (fun e => (e.key, e.val)) = (ptrsOf P.calls m.cks).map (fun p => ((reqK W).kv p.1, p.2))) {i : Nat} {p : Key × Cal} (hp : P.calls[i]? = some p) : ∃ e, es[i]? = some e := by
  have hlen := congrArg List.length hes
  simp only [List.length_map, ptrsOf, List.length_zip, hw.len, Nat.min_self] at hlen
  have := (List.getElem?_eq_some_iff.1 hp).1
  exact ⟨es[i]'(by omega), by simp [show i < es.length by omega]⟩

def OrdK (hs : AH) (W : World) (h0 : AH) (m : WM) (Q : WP) (sh : Int × Int × Int) (s : See) (wv : AV) (wh : List (Key × Int)) (es : List AEnt) (clock kI : Nat) (n : Nat) (e' : Env) (h' : AH) : Prop :=
  e'.length = 103 ∧ Off m hs h' ∧ hs.next ≤ kI ∧ ∃ (seen : List Nat), left seen es = n ∧ WIs W h0 h' m Q sh s wv ∧ WhIs W h' wv wh ∧ h'.get m.kc = some (.map es clock) ∧ h'.get kI = some (.miter (some m.kc) clock seen clock) ∧ kI < h'.next ∧
    (∀ (i : Nat) (e : AEnt) (p : Key × Cal), es[i]? = some e → Q.calls[i]? = some p → seen.contains e.born = true → ordC Q wh s.h p = true) ∧
    (e'.getD 0 .undef = .ptr (some (.new m.kw 0)) ∧ e'.getD 53 .undef = .ptr (some (.new kI 0)))
def OrdE (h2 : AH) (kw kx kI : Nat) (v : AV) (f : Ent → Bool) (l : List Ent) (n : Nat) (e' : Env) (h' : AH) : Prop :=
  e'.length = 103 ∧ Keeps h2 h' ∧ ∃ k : Nat, k + n = l.length ∧ (l.take k).all f = true ∧ (e'.getD 0 .undef = .ptr (some (.new kw 0)) ∧ e'.getD 7 .undef = .ptr (some (.new kx 0)) ∧ e'.getD 53 .undef = .ptr (some (.new kI 0)) ∧ v = e'.getD 81 .undef ∧ e'.getD 82 .undef = .int .i64 l.length ∧ e'.getD 83 .undef = .int .i64 k)

set_option maxRecDepth 100000 in
set_option maxHeartbeats 16000000 in
theorem ordered_ret (W : World) (h0 h : AH) (m : WM) (P : WP) (sh : Int × Int × Int) (s : See) (wv : AV) (wh : List (Key × Int)) (hw : WIs W h0 h m P sh s wv) (hwh : WhIs W h wv wh) (hlr : s.reps.length < 1000000000) (hkn : s.reps.all (knownR P) = true) (hsub : s.h.all (subR P) = true) (hlh : s.h.length < 1000000) (hin : ∀ k i, lookP wh k = some i → 1 ≤ i ∧ i ≤ s.h.length) :
    ACall (CC W) 108 [.ptr (some (.new m.kw 0))] h (fun w h' => w = .bool (ordB (repP P s.reps) wh s.h) ∧ WIs W h0 h' m (repP P s.reps) sh s wv ∧ Off m h h') (fun _ _ => False) := by
  refine jj9 (cc_ok W) (fn108 W) (by simp only [Tryz.f108]; rfl) rfl rfl ?_
  obtain ⟨ov, bv, rv, hv, hbox, _, _, hr, hen⟩ := hw.box
  have hb1 := hbox
  simp only [wCells] at hb1
  have l1 := hr.len h
  simp [push_cast, fa126_5, fa73_1, ld70, ji9 hb1, jd9, l1]
  have hkn0 : ∀ r ∈ s.reps, lookP P.calls (r.client, r.req) ≠ none := fun r hr hc => by
    have := List.all_eq_true.1 hkn r hr
    simp only [knownR, hc] at this
    cases this
  refine loopN (cc_ok W) (OrdI h W h0 m P sh s wv rv wh) s.reps.length ⟨by simp, Off.refl _ _, 0, P, by simp, by simp, hw, hwh, fun x hx => hx, by simp⟩ ?_
  rintro n e' h' ⟨hlen', hof, k, Q, hkm, hrp, hw', hwh', hlk, hh⟩
  obtain ⟨a0, a1, a2, a3, a4, a5, a6, a7, a8, a9, rS0, rfl, hS0⟩ := un10 hlen'
  obtain ⟨a10, a11, a12, a13, a14, a15, a16, a17, a18, a19, rS10, rfl, hS10⟩ := un10 hS0
  obtain ⟨a20, a21, a22, a23, a24, a25, a26, a27, a28, a29, rS20, rfl, hS20⟩ := un10 hS10
  obtain ⟨a30, a31, a32, a33, a34, a35, a36, a37, a38, a39, rS30, rfl, hS30⟩ := un10 hS20
  obtain ⟨a40, a41, a42, a43, a44, a45, a46, a47, a48, a49, rS40, rfl, hS40⟩ := un10 hS30
  obtain ⟨a50, a51, a52, a53, a54, a55, a56, a57, a58, a59, rS50, rfl, hS50⟩ := un10 hS40
  obtain ⟨a60, a61, a62, a63, a64, a65, a66, a67, a68, a69, rS60, rfl, hS60⟩ := un10 hS50
  obtain ⟨a70, a71, a72, a73, a74, a75, a76, a77, a78, a79, rS70, rfl, hS70⟩ := un10 hS60
  obtain ⟨a80, a81, a82, a83, a84, a85, a86, a87, a88, a89, rS80, rfl, hS80⟩ := un10 hS70
  obtain ⟨a90, a91, a92, a93, a94, a95, a96, a97, a98, a99, rS90, rfl, hS90⟩ := un10 hS80
  obtain ⟨a100, rS100, rfl, hS100⟩ := un1 hS90
  obtain ⟨a101, rS101, rfl, hS101⟩ := un1 hS100
  obtain ⟨a102, rS102, rfl, hS102⟩ := un1 hS101
  obtain rfl := un0 hS102
  clear hlen' hS0 hS10 hS20 hS30 hS40 hS50 hS60 hS70 hS80 hS90 hS100 hS101 hS102
  simp at hh
  obtain ⟨rfl, rfl, rfl, rfl⟩ := hh
  by_cases hlt : k < s.reps.length
  · have hlt' : (k : Int) < (s.reps.length : Int) := by omega
    have wk : IntKind.i64.wrap ((k : Int) + 1) = (k : Int) + 1 := wrap64 (by omega) (by omega)
    have hy : s.reps[k]? = some s.reps[k] := by simp [hlt]
    have hdr : s.reps.drop k = s.reps[k] :: s.reps.drop (k + 1) := List.drop_eq_getElem_cons hlt
    obtain ⟨r, hre⟩ : ∃ r, r = s.reps[k] := ⟨_, rfl⟩
    rw [← hre] at hy hdr
    clear hre
    rw [hdr] at hrp
    have hmem := List.mem_of_getElem? hy
    obtain ⟨a, u, hix, hP, hld⟩ := hr.at hy
    have hld := hld h' hw'.keeps
    obtain ⟨nv, hp, h2, rfl, hn, hal, hst, hk2, hn2, hg2⟩ := rep_box (h := h') hP hw'.keeps
    have hkrn : h'.next = h'.next := rfl
    have hknot : ∀ x ∈ m.ids, x < h'.next := fun x hx => (hw'.low x hx).2
    generalize h'.next = kr at hal hst hn2 hg2 hknot
    have hw2 := hw'.keep hk2
    have hwh2 := hwh'.keep hk2
    obtain ⟨ov2, bv2, rv2, hv2, hbox2, _⟩ := hw2.box
    have hb2 := hbox2
    simp only [wCells] at hb2
    have hg2' := hg2
    simp only [Rep.cells] at hg2' hst hld
    rcases hw2.look2 (r.client, r.req) with ⟨e1, _⟩ | ⟨i, c, q, cnv, e1, e2, e3, hlk2, hgc, hnd, hset⟩
    · exact absurd e1 (hlk _ (hkn0 r hmem))
    simp only [reqV] at hlk2
    simp [push_cast, hlt, hlt', hix, hld, hal, hst]
    refine draw1 (cc_ok W) [0, 1, 2, 3, 4, 5, 6, 7, 8, 9, 10] (by kernel_rfl) (by kernel_rfl) (by kernel_rfl) rfl ?_
    simp [push_cast, fa126_1, fa75_1, fa75_2, ld3, ld122, ji9 hb2, ji9 hg2', jd9, build_req, hlk2, ld_rep hg2]
    refine jf9 (by simp [fn109]) (refusal_ret W h2 r nv) fun h3 hk3 => ?_
    have hw3 := hw2.keep hk3
    have hwh3 := hwh2.keep hk3
    have hgc3 := (hk3.2 q.1 (hw2.low q.1 (WM.mem_ck e2).1).2).trans hgc
    have hnd3 : NdsIs h3 q.2 cnv c.nodes := hnd.same fun x hx => hk3.2 x (hw2.low x ((WM.mem_ck e2).2 x hx)).2
    have hb3 := (hk3.2 m.kw (hw2.low m.kw (by simp [WM.ids])).2).trans hb2
    cases hrf : refB r with
    | true =>
      have hr1 : rep1 Q r = Q := by simp only [rep1, hrf, if_true]
      simp [push_cast, aUn_not', wk]
      exact ⟨n - 1, by omega, by simp, (hof.keep hk2).keep hk3, k + 1, Q, by omega, by rw [← hrp]; simp [repP, hr1], hw3, hwh3, hlk, by simp⟩
    | false =>
      have hgc3' := hgc3
      simp only [cCells] at hgc3'
      by_cases hrep : c.rep < 0
      · have hr1 : rep1 Q r = { Q with calls := updP Q.calls (r.client, r.req) { c with rep := Q.at_ } } := by simp only [rep1, hrf, e3, hrep, if_true]; simp
        have hst8 := st_rep8 (W := W) (r := (Q.at_ : Int)) hgc3
        have hw4 := hw3.setRep e1 e2 hgc3 hnd3 (Q.at_ : Int)
        have hwh4 := hwh3.setOther (c' := cCells { c with rep := (Q.at_ : Int) } cnv) hgc3
        rw [hset] at hw4
        simp only [cCells] at hst8 hw4 hwh4
        simp [push_cast, aUn_not', jd9, fa131_3, fa126_4, ld3, ji9 hgc3', ji9 hb3, hrep, hst8, wk]
        refine ⟨n - 1, by omega, by simp, ((hof.keep hk2).keep hk3).one (x := q.1) (.inl (WM.mem_ck e2).1) (by simp) (fun j hj => by simp [hj]), k + 1, _, by omega, ?_, hw4, hwh4, fun x hx => ?_, by simp⟩
        · rw [← hrp]; simp [repP, hr1]
        · simp only [lookP_upd]
          split
          · simp
          · exact hlk x hx
      · have hr1 : rep1 Q r = Q := by simp only [rep1, hrf, e3, hrep, if_false]; simp
        simp [push_cast, aUn_not', jd9, fa131_3, ld3, ji9 hgc3', hrep, wk]
        exact ⟨n - 1, by omega, by simp, (hof.keep hk2).keep hk3, k + 1, Q, by omega, by rw [← hrp]; simp [repP, hr1], hw3, hwh3, hlk, by simp⟩
  · have hlt' : ¬ (k : Int) < (s.reps.length : Int) := by omega
    have hdr : s.reps.drop k = [] := List.drop_of_length_le (by omega)
    rw [hdr] at hrp
    have hrp : Q = repP P s.reps := hrp
    rw [← hrp]
    have hsq : ∀ e ∈ s.h, lookP Q.calls (e.client, e.req) ≠ none := fun e he => hlk _ fun hc => by
      have := List.all_eq_true.1 hsub e he
      simp only [subR, hc] at this
      cases this
    obtain ⟨ov2, bv2, rv2, hv2, hbox2, _⟩ := hw'.box
    have hb2 := hbox2
    simp only [wCells] at hb2
    obtain ⟨es, clock, hgm, hes, hborn, hbn⟩ := hw'.calls
    have hkc := (hw'.low m.kc (by simp [WM.ids])).2
    simp [push_cast, hlt, hlt', fa126_1, ld122, ji9 hb2, jd9, rng_req hgm]
    have hkI : (h'.push (.miter (some m.kc) clock [] clock)).get h'.next = some (.miter (some m.kc) clock [] clock) := by simp
    have hkp := Keeps.push h' (.miter (some m.kc) clock [] clock)
    have hnI : h'.next < (h'.push (.miter (some m.kc) clock [] clock)).next := by simp
    have hidI : ∀ x ∈ m.ids, x < h'.next := fun x hx => (hw'.low x hx).2
    have hw3 := hw'.keep hkp
    have hwh3 := hwh'.keep hkp
    have hgm3 := (hkp.2 m.kc hkc).trans hgm
    have hk0I := hw'.keeps.1
    have hof3 := hof.keep hkp
    have hIof := hof.1
    generalize h'.push (.miter (some m.kc) clock [] clock) = h3 at hkI hnI hw3 hwh3 hgm3 hof3
    generalize h'.next = kI at hkI hnI hidI hk0I hIof
    refine loopN (cc_ok W) (OrdK h W h0 m Q sh s wv wh es clock kI) (left [] es) ⟨by simp, hof3, hIof, [], rfl, hw3, hwh3, hgm3, hkI, hnI, fun i e p _ _ hc => by simp at hc, by simp⟩ ?_
    rintro n2 e' h4 ⟨hlen', hof4, _, seen, hleft, hw4, hwh4, hgm4, hI4, hnI4, hok, hh⟩
    obtain ⟨a0, a1, a2, a3, a4, a5, a6, a7, a8, a9, rS0, rfl, hS0⟩ := un10 hlen'
    obtain ⟨a10, a11, a12, a13, a14, a15, a16, a17, a18, a19, rS10, rfl, hS10⟩ := un10 hS0
    obtain ⟨a20, a21, a22, a23, a24, a25, a26, a27, a28, a29, rS20, rfl, hS20⟩ := un10 hS10
    obtain ⟨a30, a31, a32, a33, a34, a35, a36, a37, a38, a39, rS30, rfl, hS30⟩ := un10 hS20
    obtain ⟨a40, a41, a42, a43, a44, a45, a46, a47, a48, a49, rS40, rfl, hS40⟩ := un10 hS30
    obtain ⟨a50, a51, a52, a53, a54, a55, a56, a57, a58, a59, rS50, rfl, hS50⟩ := un10 hS40
    obtain ⟨a60, a61, a62, a63, a64, a65, a66, a67, a68, a69, rS60, rfl, hS60⟩ := un10 hS50
    obtain ⟨a70, a71, a72, a73, a74, a75, a76, a77, a78, a79, rS70, rfl, hS70⟩ := un10 hS60
    obtain ⟨a80, a81, a82, a83, a84, a85, a86, a87, a88, a89, rS80, rfl, hS80⟩ := un10 hS70
    obtain ⟨a90, a91, a92, a93, a94, a95, a96, a97, a98, a99, rS90, rfl, hS90⟩ := un10 hS80
    obtain ⟨a100, rS100, rfl, hS100⟩ := un1 hS90
    obtain ⟨a101, rS101, rfl, hS101⟩ := un1 hS100
    obtain ⟨a102, rS102, rfl, hS102⟩ := un1 hS101
    obtain rfl := un0 hS102
    clear hlen' hS0 hS10 hS20 hS30 hS40 hS50 hS60 hS70 hS80 hS90 hS100 hS101 hS102
    simp at hh
    obtain ⟨rfl, rfl⟩ := hh
    simp [push_cast]
    refine slowK_next rfl ?_
    refine nextM_map hI4 hgm4 hborn (fun hall => ?_) fun e he hns => ?_
    · have hfin : ordB Q wh s.h = true := by
        rw [ordB, List.all_eq_true]
        intro p hp
        obtain ⟨i, hi⟩ := List.getElem?_of_mem hp
        obtain ⟨e, he⟩ := call_ent hw4 hes hi
        exact hok i e p he hi (hall e (List.mem_of_getElem? he))
      rw [hfin]
      simp [push_cast]
      exact ⟨hw4, hof4⟩
    · obtain ⟨i, p, q, hei, hpi, hqi, hkey, hval⟩ := ent_call hw4 hes he
      obtain ⟨l1, l2, hl⟩ := List.append_of_mem he
      have hfb : es.find? (fun x => x.born == e.born) = some e := by rw [hl]; exact find_born (by rw [← hl]; exact hbn)
      have hls : left (seen ++ [e.born]) es < left seen es := by rw [hl]; exact left_step hns
      have hkcI : m.kc ≠ kI := fun e0 => by have := hidI m.kc (by simp [WM.ids]); omega
      have hw5 : WIs W h0 (h4.set kI (.miter (some m.kc) clock (seen ++ [e.born]) clock)) m Q sh s wv := hw4.same (fun x hx => by
        have : x ≠ kI := fun e0 => by have := hidI x hx; omega
        simp [this]) (by simp) ⟨by simp; exact hw4.keeps.1, fun j hj => by
        have : j ≠ kI := by omega
        simp [this]; exact hw4.keeps.2 j hj⟩
      have hof5 : Off m h (h4.set kI (.miter (some m.kc) clock (seen ++ [e.born]) clock)) := hof4.one (x := kI) (.inr hIof) (by simp) (fun j hj => by simp [hj])
      have hwh5 := hwh4.setMiter (l' := seen ++ [e.born]) hI4
      have hI5 : (h4.set kI (.miter (some m.kc) clock (seen ++ [e.born]) clock)).get kI = some (.miter (some m.kc) clock (seen ++ [e.born]) clock) := by simp
      have hgm5 : (h4.set kI (.miter (some m.kc) clock (seen ++ [e.born]) clock)).get m.kc = some (.map es clock) := by simp [hkcI]; exact hgm4
      have hnI5 : kI < (h4.set kI (.miter (some m.kc) clock (seen ++ [e.born]) clock)).next := by simpa using hnI4
      generalize h4.set kI (.miter (some m.kc) clock (seen ++ [e.born]) clock) = h5 at hw5 hwh5 hI5 hgm5 hnI5 hof5
      have hent := aEntry_map hI5 hgm5 hfb
      rw [hkey, hval] at hent
      rw [hkey, hval]
      have hok2 : ordC Q wh s.h p = true → ∀ (i : Nat) (e' : AEnt) (p' : Key × Cal), es[i]? = some e' → Q.calls[i]? = some p' → (seen ++ [e.born]).contains e'.born = true → ordC Q wh s.h p' = true := fun hc i' e' p' h1 h2 h3 => by
        simp only [List.contains_append, Bool.or_eq_true] at h3
        rcases h3 with h3 | h3
        · exact hok i' e' p' h1 h2 h3
        · have hb : e'.born = e.born := by simpa using h3
          have := born_inj hbn h1 hei hb
          subst this
          rw [hpi] at h2; cases h2
          exact hc
      have hal := alloc_req (W := W) (h := h5)
      have hst := st_req (W := W) (x := p.1.1) (y := p.1.2) (h := h5.push (.cells [.int .i64 0, .int .i64 0] 128)) (k := h5.next) (a := .int .i64 0) (b := .int .i64 0) (by simp)
      have hgx : ((h5.push (.cells [.int .i64 0, .int .i64 0] 128)).set h5.next (.cells [.int .i64 p.1.1, .int .i64 p.1.2] 128)).get h5.next = some (.cells [.int .i64 p.1.1, .int .i64 p.1.2] 128) := by simp
      have hk6 : Keeps h5 ((h5.push (.cells [.int .i64 0, .int .i64 0] 128)).set h5.next (.cells [.int .i64 p.1.1, .int .i64 p.1.2] 128)) := (Keeps.push _ _).set (Nat.le_refl _) _
      generalize (h5.push (.cells [.int .i64 0, .int .i64 0] 128)).set h5.next (.cells [.int .i64 p.1.1, .int .i64 p.1.2] 128) = h6 at hst hgx hk6
      generalize h5.push (.cells [.int .i64 0, .int .i64 0] 128) = h5p at hal hst
      generalize h5.next = kx at hal hst hgx
      have hw6 := hw5.keep hk6
      have hwh6 := hwh5.keep hk6
      have hgm6 := (hk6.2 m.kc (hw5.low m.kc (by simp [WM.ids])).2).trans hgm5
      have hI6 := (hk6.2 kI hnI5).trans hI5
      have hnI6 := Nat.lt_of_lt_of_le hnI5 hk6.1
      obtain ⟨ov6, bv6, rv6, hv6, hbox6, _, _, _, hen6⟩ := hw6.box
      have hb6 := hbox6
      simp only [wCells] at hb6
      have hlw := hwh6.look p.1
      obtain ⟨cnv, hgc6, _⟩ := hw6.each i p q hpi hqi
      have hgc6' := hgc6
      simp only [cCells] at hgc6'
      simp only [reqV] at hent hlw
      simp [push_cast, reqV, hent, hal, hst]
      refine draw1 (cc_ok W) [0, 1, 2, 3, 4, 5, 6] (by kernel_rfl) (by kernel_rfl) (by kernel_rfl) rfl ?_
      by_cases hrep : p.2.rep < 0
      · have hoc : ordC Q wh s.h p = true := by simp only [ordC]; simp [hrep]
        simp [push_cast, fa126_6, fa131_3, ld3, ld124, ji9 hb6, ji9 hgc6', jd9, ld_req hgx, hlw, hrep]
        exact ⟨_, by omega, by simp, hof5.keep hk6, hIof, seen ++ [e.born], rfl, hw6, hwh6, hgm6, hI6, hnI6, hok2 hoc, by simp⟩
      · have hxi : (lookP wh p.1).getD 0 = 0 ∨ ∃ j : Nat, (lookP wh p.1).getD 0 = ((j + 1 : Nat) : Int) ∧ j < s.h.length := by
          cases hx : lookP wh p.1 with
          | none => exact .inl rfl
          | some i =>
            obtain ⟨i1, i2⟩ := hin _ _ hx
            obtain ⟨j, hj⟩ := Int.eq_ofNat_of_zero_le (show 0 ≤ i - 1 by omega)
            exact .inr ⟨j, by simp; omega, by omega⟩
        rcases hxi with hx0 | ⟨j, hxj, hjl⟩
        · have hoc : ordC Q wh s.h p = true := by simp only [ordC, hx0]; simp
          rw [hx0] at hlw
          simp [push_cast, fa126_6, fa131_3, ld3, ld124, ji9 hb6, ji9 hgc6', jd9, ld_req hgx, hlw, hrep]
          exact ⟨_, by omega, by simp, hof5.keep hk6, hIof, seen ++ [e.born], rfl, hw6, hwh6, hgm6, hI6, hnI6, hok2 hoc, by simp⟩
        · rw [hxj] at hlw
          have w1 : IntKind.i64.wrap (((j + 1 : Nat) : Int) - 1) = (j : Int) := by rw [wrap64 (by omega) (by omega)]; omega
          have hne : (((j + 1 : Nat) : Int) == 0) = false := by rw [beq_eq_false_iff_ne]; omega
          have hocj : ordC Q wh s.h p = (s.h.take j).all fun e => match lookP Q.calls (e.client, e.req) with
              | some c => decide ((c.at_ : Int) ≤ p.2.rep)
              | none => false := by
            have h1 : (((j + 1 : Nat) : Int) - 1).toNat = j := by omega
            have h2 : ¬ ((j + 1 : Nat) : Int) = 0 := by omega
            simp only [ordC, hxj, h1, hrep, h2, decide_false, Bool.false_or]
          generalize ((j + 1 : Nat) : Int) = J at hlw w1 hne
          obtain ⟨v', hsl, htk⟩ := BSl.take hen6 (kind71 W) (size78 W) (k := j) (by omega)
          have hlv := EntS.len htk h6
          have hLm : ∀ e ∈ s.h.take j, e ∈ s.h := fun e he => List.mem_of_mem_take he
          have hLl : (s.h.take j).length < 1000000 := by simp; omega
          generalize s.h.take j = L at htk hlv hLm hLl hocj
          have htk : EntS W h0 v' L := htk
          obtain ⟨f, hf⟩ : ∃ f : Ent → Bool, f = fun e => match lookP Q.calls (e.client, e.req) with
              | some c => decide ((c.at_ : Int) ≤ p.2.rep)
              | none => false := ⟨_, rfl⟩
          rw [← hf] at hocj
          simp [push_cast, fa126_6, fa131_3, ld3, ld124, ji9 hb6, ji9 hgc6', jd9, ld_req hgx, hlw, hrep, hne, fa126_5, fa73_2, ld71, w1, hsl, hlv]
          refine loopN (cc_ok W) (OrdE h6 m.kw q.1 kI v' f L) L.length ⟨by simp, Keeps.refl _, 0, by simp, by simp, by simp⟩ ?_
          rintro n3 e' h7 ⟨hlen', hk7, k3, hkm3, hall3, hh⟩
          obtain ⟨a0, a1, a2, a3, a4, a5, a6, a7, a8, a9, rS0, rfl, hS0⟩ := un10 hlen'
          obtain ⟨a10, a11, a12, a13, a14, a15, a16, a17, a18, a19, rS10, rfl, hS10⟩ := un10 hS0
          obtain ⟨a20, a21, a22, a23, a24, a25, a26, a27, a28, a29, rS20, rfl, hS20⟩ := un10 hS10
          obtain ⟨a30, a31, a32, a33, a34, a35, a36, a37, a38, a39, rS30, rfl, hS30⟩ := un10 hS20
          obtain ⟨a40, a41, a42, a43, a44, a45, a46, a47, a48, a49, rS40, rfl, hS40⟩ := un10 hS30
          obtain ⟨a50, a51, a52, a53, a54, a55, a56, a57, a58, a59, rS50, rfl, hS50⟩ := un10 hS40
          obtain ⟨a60, a61, a62, a63, a64, a65, a66, a67, a68, a69, rS60, rfl, hS60⟩ := un10 hS50
          obtain ⟨a70, a71, a72, a73, a74, a75, a76, a77, a78, a79, rS70, rfl, hS70⟩ := un10 hS60
          obtain ⟨a80, a81, a82, a83, a84, a85, a86, a87, a88, a89, rS80, rfl, hS80⟩ := un10 hS70
          obtain ⟨a90, a91, a92, a93, a94, a95, a96, a97, a98, a99, rS90, rfl, hS90⟩ := un10 hS80
          obtain ⟨a100, rS100, rfl, hS100⟩ := un1 hS90
          obtain ⟨a101, rS101, rfl, hS101⟩ := un1 hS100
          obtain ⟨a102, rS102, rfl, hS102⟩ := un1 hS101
          obtain rfl := un0 hS102
          clear hlen' hS0 hS10 hS20 hS30 hS40 hS50 hS60 hS70 hS80 hS90 hS100 hS101 hS102
          simp at hh
          obtain ⟨rfl, rfl, rfl, hv81, rfl, rfl⟩ := hh
          subst hv81
          have hw7 := hw6.keep hk7
          by_cases hlt3 : k3 < L.length
          · have hlt3' : (k3 : Int) < (L.length : Int) := by omega
            have wk3 : IntKind.i64.wrap ((k3 : Int) + 1) = (k3 : Int) + 1 := wrap64 (by omega) (by omega)
            have hy : L[k3]? = some L[k3] := by simp [hlt3]
            generalize L[k3] = g at hy
            have hgm := hLm g (List.mem_of_getElem? hy)
            obtain ⟨a, u, hix, hP, hld⟩ := htk.at hy
            have hld := hld h7 hw7.keeps
            obtain ⟨hp, h8, rfl, hal8, hst8, hk8, hn8, hg8⟩ := ent_box (W := W) (h := h7) hP
            generalize h7.next = kr at hal8 hst8 hn8 hg8
            have hw8 := hw7.keep hk8
            have hb8 := ((hk7.trans hk8).2 m.kw (hw6.low m.kw (by simp [WM.ids])).2).trans hb6
            have hgc8 := ((hk7.trans hk8).2 q.1 (hw6.low q.1 (WM.mem_ck hqi).1).2).trans hgc6'
            have hnx := all_next (f := f) hy hall3
            have hst8' := hst8
            have hld' := hld
            simp only [Ent.cells, Opn.cells] at hst8' hld'
            simp [push_cast, hlt3, hlt3', hix, hld', hal8, hst8']
            refine drawS [0, 1, 2, 3, 4, 10, 11, 12, 13, 5, 6, 7, 8, 9, 14] (by kernel_rfl) (by kernel_rfl) ?_
            simp [push_cast, zx9, zy9, SgO, opA, isE, isRead, fa126_1, fa131_3, ld3, ld122, ji9 hb8, ji9 hgc8, jd9, ld_ent hg8]
            refine jb9 (f := 137) (args := [.agg g.cells]) (by rfl) (by rfl) (by rfl) (by simp [fn137]) (reqof_ret W h8 g) ?_
            rintro w h9 ⟨hw9', hk9⟩
            subst hw9'
            have hw9 := hw8.keep hk9
            have hg9 := (hk9.2 kr hn8).trans hg8
            have hb9 := (hk9.2 m.kw (hw8.low m.kw (by simp [WM.ids])).2).trans hb8
            have hgc9 := (hk9.2 q.1 (hw8.low q.1 (WM.mem_ck hqi).1).2).trans hgc8
            refine ⟨?_, ?_⟩
            · simp [zz9, ja9, push_cast, opA, fa126_1, fa131_3, ld3, ld122, ji9 hb9, ji9 hgc9, jd9, ld_ent hg9]
            rcases hw9.look2 (g.client, g.req) with ⟨e1, _⟩ | ⟨i2, c2, q2, cnv2, e1, e2, e3, hlk2, hgc2, _, _⟩
            · exact absurd e1 (hsq g hgm)
            have hgc2' := hgc2
            simp only [cCells] at hgc2'
            simp only [reqV] at hlk2
            by_cases hat : (c2.at_ : Int) ≤ p.2.rep
            · have hft : f g = true := by rw [hf]; simp only [e3]; simpa using hat
              have hnl : ¬ p.2.rep < (c2.at_ : Int) := by omega
              simp [push_cast, zx9, zy9, SgO, opA, isE, isRead, hlk2, jd9, fa131_1, fa131_3, ld3, ji9 hgc2', ji9 hgc9, hnl, wk3]
              exact ⟨n3 - 1, by omega, by simp, (hk7.trans hk8).trans hk9, k3 + 1, by omega, by rw [hnx, hft], by simp⟩
            · have hft : f g = false := by rw [hf]; simp only [e3]; simpa using hat
              have hnl : p.2.rep < (c2.at_ : Int) := by omega
              have hof : ordC Q wh s.h p = false := by rw [hocj]; exact all_false hy hft
              have hob : ordB Q wh s.h = false := all_false hpi hof
              simp [push_cast, zx9, zy9, SgO, opA, isE, isRead, hlk2, jd9, fa131_1, fa131_3, ld3, ji9 hgc2', ji9 hgc9, hnl, hob]
              exact ⟨hw9, (((hof5.keep hk6).keep hk7).keep hk8).keep hk9⟩
          · have hlt3' : ¬ (k3 : Int) < (L.length : Int) := by omega
            have htk3 : L.take k3 = L := List.take_of_length_le (by omega)
            rw [htk3] at hall3
            have hoc : ordC Q wh s.h p = true := by rw [hocj]; exact hall3
            have hkcl := (hw6.low m.kc (by simp [WM.ids])).2
            simp [push_cast, hlt3, hlt3']
            exact ⟨_, by omega, by simp, (hof5.keep hk6).keep hk7, hIof, seen ++ [e.born], rfl, hw7, hwh6.keep hk7, (hk7.2 m.kc hkcl).trans hgm6, (hk7.2 kI hnI6).trans hI6, Nat.lt_of_lt_of_le hnI6 hk7.1, hok2 hoc, by simp⟩
end Go.Proofs.YtbofhlifobjolaaGreatDoor.Ax
end

/-! A call that is noted: where it lies -/
section
set_option linter.unusedVariables false
set_option linter.unusedSimpArgs false
namespace Go.Proofs.YtbofhlifobjolaaGreatDoor.Ax
open Go.RowKit

def newP (P : WP) (k : Key) (op : Opn) : WP := match lookP P.calls k with
  | some _ => P
  | none => { P with calls := P.calls ++ [(k, ⟨op, P.at_, [], -1⟩)] }
def ndP (P : WP) (k : Key) (n : Int) : WP := match lookP P.calls k with
  | some c => { P with calls := updP P.calls k { c with nodes := c.nodes ++ [n] } }
  | none => P
/-- What a call changes. -/
def callP (P : WP) (c : Cho) : WP := if c.kind = 1 then ndP (newP P (c.client, c.req) c.op) (c.client, c.req) c.node else P

theorem nod_new {a b M : List Nat} {k : Nat} (h : (a ++ (M ++ b)).Nodup) (hk : k ∉ a ++ b) : (a ++ (k :: b)).Nodup := by
  have hs : (a ++ b).Sublist (a ++ (M ++ b)) := List.Sublist.append (List.Sublist.refl _) (List.sublist_append_right _ _)
  rw [(List.perm_middle).nodup_iff, List.nodup_cons]
  exact ⟨hk, h.sublist hs⟩
theorem keys_len : ∀ (l : List Key), (l.flatMap fun x => [AV.int .i64 x.1, .int .i64 x.2]).length = l.length * 2
  | [] => rfl
  | p :: ps => by
    rw [List.flatMap_cons, List.length_append, keys_len ps]
    simp; omega
theorem buildS_req {W : World} {h : AH} {a b : Int} : aBuildSlice (CC W) h 123 1 [(0, .agg [.int .i64 a, .int .i64 b])] = some (.sl (some (.new h.next 0)) 1 1 none, h.push (.cells [.int .i64 a, .int .i64 b] 128)) := by
  simp only [aBuildSlice, kind123, size128, zero128]
  rfl
/-- One more request. -/
theorem OrdIs.app {W : World} {h : AH} {ko : Option Nat} {v : AV} {l : List Key} {x : Key} (ho : OrdIs h ko v l) (hlow : ∀ k ∈ ko, k < h.next) (hl : l.length < 1000000) :
    ∃ h', aAppend (CC W) (h.push (.cells [.int .i64 x.1, .int .i64 x.2] 128)) #[123, 123] v (.sl (some (.new h.next 0)) 1 1 none) = some (.sl (some (.new (h.next + 1) 0)) (l.length + 1) (l.length + 1) (some 2), h') ∧
      OrdIs h' (some (h.next + 1)) (.sl (some (.new (h.next + 1) 0)) (l.length + 1) (l.length + 1) (some 2)) (l ++ [x]) ∧ h'.next = h.next + 2 ∧ ∀ j, j < h.next → (∀ k ∈ ko, j ≠ k) → h'.get j = h.get j := by
  have hb : (CC W).bytes 128 = 16 := _root_.id rfl
  have hni : niOK (CC W) #[123, 123] = true := _root_.id rfl
  have hnews : aNews (CC W) (h.push (.cells [.int .i64 x.1, .int .i64 x.2] 128)) 2 (.sl (some (.new h.next 0)) 1 1 none) = some (1, [.int .i64 x.1, .int .i64 x.2]) := by
    simp [aNews, aCells]
  cases ko with
  | none =>
    obtain ⟨rfl, rfl⟩ := ho
    refine ⟨(h.push (.cells [.int .i64 x.1, .int .i64 x.2] 128)).push (.cells [.int .i64 x.1, .int .i64 x.2] 128), ?_, ⟨by simp, by simp, by simp⟩, by simp, fun j hj _ => ?_⟩
    · simp [aAppend, kind123, size128, zero128, hb, hni, hnews]
    · rw [AH.get_push, if_neg (by simp; omega), AH.get_push, if_neg (by omega)]
  | some k =>
    obtain ⟨hne, hg, rfl⟩ := ho
    have hk := hlow k rfl
    have hlen := keys_len l
    have hg' : (h.push (.cells [.int .i64 x.1, .int .i64 x.2] 128)).get k = some (.cells (l.flatMap fun x => [AV.int .i64 x.1, .int .i64 x.2]) 128) := by
      rw [AH.get_push, if_neg (by omega)]; exact hg
    have hll : 0 < l.length := by
      cases l with
      | nil => simp at hne
      | cons => simp
    have hxc : ((l ++ [x]).flatMap fun x => [AV.int .i64 x.1, .int .i64 x.2]) = (l.flatMap fun x => [AV.int .i64 x.1, .int .i64 x.2]) ++ [.int .i64 x.1, .int .i64 x.2] := by simp
    refine ⟨((h.push (.cells [.int .i64 x.1, .int .i64 x.2] 128)).kill k).push (.cells ((l.flatMap fun x => [AV.int .i64 x.1, .int .i64 x.2]) ++ [.int .i64 x.1, .int .i64 x.2]) 128), ?_, ⟨by simp, ?_, by simp⟩, by simp [AH.next_kill'], fun j hj hjk => ?_⟩
    · generalize (l.flatMap fun x => [AV.int .i64 x.1, .int .i64 x.2]) = cs at *
      simp [aAppend, kind123, size128, zero128, hb, hni, hnews, hg', hlen, AH.next_kill', aOne]
      rw [if_neg (by omega), if_pos (by omega)]
    · rw [AH.get_push, AH.next_kill', if_pos (by simp), hxc]
    · have := hjk k rfl
      rw [AH.get_push, AH.next_kill', if_neg (by simp; omega), AH.get_kill', if_neg this, AH.get_push, if_neg (by omega)]
/-- One more node. -/
theorem NdsIs.app {W : World} {h : AH} {ko : Option Nat} {v : AV} {l : List Int} {x : Int} (ho : NdsIs h ko v l) (hlow : ∀ k ∈ ko, k < h.next) (hl : l.length < 1000000) :
    ∃ h', aAppend (CC W) (h.push (.cells [.int .i64 x] 3)) #[53, 53] v (.sl (some (.new h.next 0)) 1 1 none) = some (.sl (some (.new (h.next + 1) 0)) (l.length + 1) (l.length + 1) (some 1), h') ∧
      NdsIs h' (some (h.next + 1)) (.sl (some (.new (h.next + 1) 0)) (l.length + 1) (l.length + 1) (some 1)) (l ++ [x]) ∧ h'.next = h.next + 2 ∧ ∀ j, j < h.next → (∀ k ∈ ko, j ≠ k) → h'.get j = h.get j := by
  have hb : (CC W).bytes 3 = 8 := _root_.id rfl
  have hni : niOK (CC W) #[53, 53] = true := _root_.id rfl
  have hnews : aNews (CC W) (h.push (.cells [.int .i64 x] 3)) 1 (.sl (some (.new h.next 0)) 1 1 none) = some (1, [.int .i64 x]) := by
    simp [aNews, aCells]
  cases ko with
  | none =>
    obtain ⟨rfl, rfl⟩ := ho
    refine ⟨(h.push (.cells [.int .i64 x] 3)).push (.cells [.int .i64 x] 3), ?_, ⟨by simp, by simp [ints], by simp⟩, by simp, fun j hj _ => ?_⟩
    · simp [aAppend, kind53, size3, zero3, hb, hni, hnews]
    · rw [AH.get_push, if_neg (by simp; omega), AH.get_push, if_neg (by omega)]
  | some k =>
    obtain ⟨hne, hg, rfl⟩ := ho
    have hk := hlow k rfl
    have hg' : (h.push (.cells [.int .i64 x] 3)).get k = some (.cells (ints l) 3) := by
      rw [AH.get_push, if_neg (by omega)]; exact hg
    have hll : 0 < l.length := by
      cases l with
      | nil => simp at hne
      | cons => simp
    refine ⟨((h.push (.cells [.int .i64 x] 3)).kill k).push (.cells (ints l ++ [.int .i64 x]) 3), ?_, ⟨by simp, ?_, by simp⟩, by simp [AH.next_kill'], fun j hj hjk => ?_⟩
    · simp [aAppend, kind53, size3, zero3, hb, hni, hnews, hg', AH.next_kill', aOne, ints]
      rw [if_neg (by omega), if_pos (by omega)]
    · rw [AH.get_push, AH.next_kill', if_pos (by simp)]; simp [ints]
    · have := hjk k rfl
      rw [AH.get_push, AH.next_kill', if_neg (by simp; omega), AH.get_kill', if_neg this, AH.get_push, if_neg (by omega)]

section
variable {W : World} {h0 h : AH} {m : WM} {P : WP} {sh : Int × Int × Int} {s : See} {wv : AV}
theorem st_nds {k : Nat} {c : Cal} {nv : AV} {p : Option AA} {n q : Nat} {g : Option Nat} (hg : h.get k = some (.cells (cCells c nv) 131)) : aStoreOp (CC W) h 53 (.ptr (some (.new k 7))) (.sl p n q g) = some (h.set k (.cells (cCells c (.sl p n q g)) 131)) := by
  simp only [aStoreOp, aCellsOf, size53, aStore, hg]
  rfl
theorem ids_node {i : Nat} {q : Nat × Option Nat} (hq : m.cks[i]? = some q) (hn : m.ids.Nodup) {x : Nat} (hx : x ∉ m.ids) :
    (WM.ids { m with cks := m.cks.set i (q.1, some x) }).Nodup ∧ ∀ k ∈ WM.ids { m with cks := m.cks.set i (q.1, some x) }, k = x ∨ k ∈ m.ids := by
  obtain ⟨hi, he⟩ := List.getElem?_eq_some_iff.1 hq
  have h1 : m.cks = m.cks.take i ++ q :: m.cks.drop (i + 1) := by
    rw [← he, ← List.drop_eq_getElem_cons hi, List.take_append_drop]
  have h2 : m.cks.set i (q.1, some x) = m.cks.take i ++ (q.1, some x) :: m.cks.drop (i + 1) := by
    rw [List.set_eq_take_append_cons_drop, if_pos hi]
  have e1 : m.ids = (m.kw :: m.kc :: (m.ko.toList ++ ((m.cks.take i).flatMap (fun p => p.1 :: p.2.toList) ++ [q.1]))) ++ (q.2.toList ++ (m.cks.drop (i + 1)).flatMap fun p => p.1 :: p.2.toList) := by
    have hf : (m.cks.flatMap fun p => p.1 :: p.2.toList) = (m.cks.take i).flatMap (fun p => p.1 :: p.2.toList) ++ (q.1 :: (q.2.toList ++ (m.cks.drop (i + 1)).flatMap fun p => p.1 :: p.2.toList)) := by
      conv => lhs; rw [h1]
      simp only [List.flatMap_append, List.flatMap_cons, List.cons_append]
    rw [WM.ids, hf]
    simp only [List.cons_append, List.append_assoc, List.nil_append]
  have e2 : WM.ids { m with cks := m.cks.set i (q.1, some x) } = (m.kw :: m.kc :: (m.ko.toList ++ ((m.cks.take i).flatMap (fun p => p.1 :: p.2.toList) ++ [q.1]))) ++ (x :: (m.cks.drop (i + 1)).flatMap fun p => p.1 :: p.2.toList) := by
    simp only [WM.ids]
    rw [h2]
    simp
  rw [e2]
  rw [e1] at hn hx
  refine ⟨nod_new hn fun hc => hx ?_, fun k hk => ?_⟩
  · rw [List.mem_append] at hc ⊢
    rcases hc with hc | hc
    · exact .inl hc
    · exact .inr (List.mem_append_right _ hc)
  · rw [e1]
    rcases List.mem_append.1 hk with hk | hk
    · exact .inr (List.mem_append_left _ hk)
    · rcases List.mem_cons.1 hk with hk | hk
      · exact .inl hk
      · exact .inr (List.mem_append_right _ (List.mem_append_right _ hk))
theorem WIs.addNode (hw : WIs W h0 h m P sh s wv) {i : Nat} {k : Key} {c : Cal} {q : Nat × Option Nat} {nv : AV} (hp : P.calls[i]? = some (k, c)) (hq : m.cks[i]? = some q) (hg : h.get q.1 = some (.cells (cCells c nv) 131)) (hnd : NdsIs h q.2 nv c.nodes) (x : Int) (hfew : c.nodes.length + 1 < 1000000) :
    ∃ h2 h3, aAppend (CC W) (h.push (.cells [.int .i64 x] 3)) #[53, 53] nv (.sl (some (.new h.next 0)) 1 1 none) = some (.sl (some (.new (h.next + 1) 0)) (c.nodes.length + 1) (c.nodes.length + 1) (some 1), h2) ∧
      aStoreOp (CC W) h2 53 (.ptr (some (.new q.1 7))) (.sl (some (.new (h.next + 1) 0)) (c.nodes.length + 1) (c.nodes.length + 1) (some 1)) = some h3 ∧
      WIs W h0 h3 { m with cks := m.cks.set i (q.1, some (h.next + 1)) } { P with calls := P.calls.set i (k, { c with nodes := c.nodes ++ [x] }) } sh s wv ∧ (∀ j, j < h.next → (∀ z ∈ q.2, j ≠ z) → h2.get j = h.get j) ∧ (h2.get q.1 = some (.cells (cCells c nv) 131)) ∧ h.next ≤ h3.next ∧ ∀ j, j < h.next → j ∉ m.ids → h3.get j = h.get j := by
  obtain ⟨hq1, hq2⟩ := WM.mem_ck hq
  obtain ⟨⟨s1, s2, s3, s4⟩, s5⟩ := WM.sep hw.nod hq
  have hlow := hw.low q.1 hq1
  obtain ⟨h2, hap, hn2, hx2, hoff⟩ := hnd.app (W := W) (x := x) (fun k hk => (hw.low k (hq2 k hk)).2) (by omega)
  have hg2 : h2.get q.1 = some (.cells (cCells c nv) 131) := (hoff q.1 hlow.2 fun k hk e => s4 k hk e.symm).trans hg
  have hst := st_nds (W := W) (p := some (.new (h.next + 1) 0)) (n := c.nodes.length + 1) (q := c.nodes.length + 1) (g := some 1) hg2
  refine ⟨h2, _, hap, hst, ?_, hoff, hg2, by simp; omega, fun j hj hjm => ?_⟩
  · have hxm : h.next + 1 ∉ m.ids := fun hc => by have := (hw.low _ hc).2; omega
    obtain ⟨n1, n2⟩ := ids_node hq hw.nod hxm
    obtain ⟨ov, bv, rv, hv, a, b, d⟩ := hw.box
    have hil := (List.getElem?_eq_some_iff.1 hp).1
    have hiq := (List.getElem?_eq_some_iff.1 hq).1
    have hkeys : (P.calls.set i (k, { c with nodes := c.nodes ++ [x] })).map (·.1) = P.calls.map (·.1) := by
      rw [List.map_set]
      exact set_sameL (by rw [List.getElem?_map, hp]; rfl)
    have hqn : ∀ (j : Nat) (q' : Nat × Option Nat), m.cks[j]? = some q' → i ≠ j → ∀ y, (y = q'.1 ∨ y ∈ q'.2) → ∀ z ∈ q.2, y ≠ z := fun j q' hq' hij y hy z hz e => by
      have hn := hw.nod
      simp only [WM.ids, List.nodup_cons, List.nodup_append] at hn
      obtain ⟨_, _, _, c2, _⟩ := hn
      rw [List.nodup_iff_pairwise_ne, List.pairwise_flatMap] at c2
      have d2 := c2.2
      obtain ⟨hj, ej⟩ := List.getElem?_eq_some_iff.1 hq'
      obtain ⟨hi', ei⟩ := List.getElem?_eq_some_iff.1 hq
      rw [List.pairwise_iff_getElem] at d2
      have hy' : y ∈ q'.1 :: q'.2.toList := by
        rw [List.mem_cons]
        rcases hy with hy | hy
        · exact .inl hy
        · exact .inr (by simpa [Option.mem_toList] using hy)
      have hz' : z ∈ q.1 :: q.2.toList := by
        rw [List.mem_cons]
        exact .inr (by simpa [Option.mem_toList] using hz)
      rcases Nat.lt_or_gt_of_ne hij with h | h
      · have := d2 i j hi' hj h
        rw [ei, ej] at this
        exact this z hz' y hy' e.symm
      · have := d2 j i hj hi' h
        rw [ei, ej] at this
        exact this y hy' z hz' e
    have hfar : ∀ z ∈ q.2, z ≠ m.kw ∧ z ≠ m.kc ∧ ∀ y ∈ m.ko, y ≠ z := fun z hz => by
      have hn := hw.nod
      simp only [WM.ids, List.nodup_cons, List.nodup_append, List.mem_cons, List.mem_append, not_or] at hn
      obtain ⟨⟨a1, a2, a3⟩, ⟨b1, b2⟩, c1, c2, c3⟩ := hn
      have hzf : z ∈ m.cks.flatMap fun p => p.1 :: p.2.toList := by
        rw [List.mem_flatMap]
        exact ⟨q, List.mem_of_getElem? hq, by rw [List.mem_cons]; exact .inr (by simpa [Option.mem_toList] using hz)⟩
      exact ⟨fun e => a3 (e ▸ hzf), fun e => b2 (e ▸ hzf), fun y hy e => c3 y (by simpa [Option.mem_toList] using hy) z hzf e⟩
    exact { keeps := ⟨by simp; have := hw.keeps.1; omega, fun j hj => by
              have h1 := hw.keeps.1
              have : j ≠ q.1 := by omega
              simp [this]
              rw [hoff j (by omega) fun z hz e => by have := (hw.low z (hq2 z hz)).1; omega]
              exact hw.keeps.2 j hj⟩
            low := fun y hy => by
              have h1 := hw.keeps.1
              rcases n2 y hy with rfl | hy
              · simp; omega
              · have := hw.low y hy
                simp; omega
            nod := n1
            len := by simp; exact hw.len
            box := ⟨ov, bv, rv, hv, by
              simp [Ne.symm s1]
              rw [hoff m.kw (hw.low m.kw (by simp [WM.ids])).2 fun z hz e => (hfar z hz).1 e.symm]; exact a, by
              rw [hkeys]; exact b.same fun y hy => by
                have hyl := (hw.low y (by
                  simp only [WM.ids, List.mem_cons, List.mem_append]
                  exact .inr (.inr (.inl (by simpa [Option.mem_toList] using hy))))).2
                simp [s3 y hy]
                exact hoff y hyl fun z hz e => (hfar z hz).2.2 y hy e, d⟩
            calls := by
              have hpt : ptrsOf (P.calls.set i (k, { c with nodes := c.nodes ++ [x] })) (m.cks.set i (q.1, some (h.next + 1))) = ptrsOf P.calls m.cks := by
                apply List.ext_getElem?
                intro j
                simp only [ptrsOf, List.getElem?_map]
                by_cases e : i = j
                · subst e
                  have z1 : ((P.calls.set i (k, { c with nodes := c.nodes ++ [x] })).zip (m.cks.set i (q.1, some (h.next + 1))))[i]? = some ((k, { c with nodes := c.nodes ++ [x] }), (q.1, some (h.next + 1))) := by
                    rw [List.getElem?_zip_eq_some]; simp [hil, hiq]
                  have z2 : (P.calls.zip m.cks)[i]? = some ((k, c), q) := by
                    rw [List.getElem?_zip_eq_some]; exact ⟨hp, hq⟩
                  rw [z1, z2]; rfl
                · congr 1
                  simp [List.zip, List.getElem?_zipWith, List.getElem?_set_ne e]
              show MapG (reqK W) _ m.kc _
              rw [hpt]
              exact hw.calls.same (by
                simp [Ne.symm s2]
                exact hoff m.kc (hw.low m.kc (by simp [WM.ids])).2 fun z hz e => (hfar z hz).2.1 e.symm)
            each := fun j p q' hp' hq' => by
              by_cases e : i = j
              · subst e
                rw [List.getElem?_set_self hiq] at hq'; cases hq'
                rw [List.getElem?_set_self hil] at hp'; cases hp'
                refine ⟨_, by simp; rfl, hn2.same fun y hy => ?_⟩
                cases hy
                have : ¬ h.next + 1 = q.1 := by omega
                simp [this]
              · rw [List.getElem?_set_ne e] at hp' hq'
                obtain ⟨nv', e1, e2⟩ := hw.each j p q' hp' hq'
                obtain ⟨t1, t2⟩ := s5 j q' hq' e
                obtain ⟨g1, g2⟩ := WM.mem_ck hq'
                refine ⟨nv', ?_, e2.same fun y hy => ?_⟩
                · simp [t1]
                  rw [hoff q'.1 (hw.low _ g1).2 fun z hz e0 => hqn j q' hq' e q'.1 (.inl rfl) z hz e0]; exact e1
                · simp [t2 y hy]
                  exact hoff y (hw.low _ (g2 y hy)).2 fun z hz e0 => hqn j q' hq' e y (.inr hy) z hz e0
            few := ⟨by simp; exact hw.few.1, hw.few.2.1, fun p hp' => by
              rcases List.mem_or_eq_of_mem_set hp' with hp' | rfl
              · exact hw.few.2.2 p hp'
              · simp; exact hfew⟩ }
  · have : j ≠ q.1 := fun e => hjm (e ▸ hq1)
    simp [this]
    exact hoff j hj fun z hz e => hjm (e ▸ hq2 z hz)
end
end Go.Proofs.YtbofhlifobjolaaGreatDoor.Ax
end

/-! A call that is noted: a new one; the walk of call and begin -/
section
set_option linter.unusedVariables false
set_option linter.unusedSimpArgs false
namespace Go.Proofs.YtbofhlifobjolaaGreatDoor.Ax
open Go.RowKit

section
variable {W : World} {h0 h : AH} {m : WM} {P : WP} {sh : Int × Int × Int} {s : See} {wv : AV}
theorem st_ord {k : Nat} {kc at_ : Nat} {ov bv rv hv : AV} {c : Cho} {p : Option AA} {n q : Nat} {g : Option Nat} (hg : h.get k = some (.cells (wCells sh kc ov bv at_ c rv hv wv) 126)) : aStoreOp (CC W) h 123 (.ptr (some (.new k 4))) (.sl p n q g) = some (h.set k (.cells (wCells sh kc (.sl p n q g) bv at_ c rv hv wv) 126)) := by
  simp only [aStoreOp, aCellsOf, size123, aStore, hg]
  rfl
theorem build_called {a b c : Int} {x y z : List UInt8} {n : Int} {r : Int} : aBuild (CC W) 131 [(0, .agg [.int .i64 a, .int .i64 b, .int .i64 c, .str x, .str y, .str z]), (1, .int .i64 n), (3, .int .i64 r)] = some (.agg [.int .i64 a, .int .i64 b, .int .i64 c, .str x, .str y, .str z, .int .i64 n, .sl none 0 0 none, .int .i64 r]) := rfl
theorem box_called {l : List AV} : aBox h 131 (.agg l) = some (.ptr (some (.new h.next 0)), h.push (.cells l 131)) := rfl
theorem build_wat {a b c : Int} {k : Nat} : aBuild (CC W) 126 [(0, .agg [.int .i64 a, .int .i64 b, .int .i64 c]), (1, .map (some k))] = some (.agg (wCells (a, b, c) k (.sl none 0 0 none) (.sl none 0 0 none) 0 ⟨0, 0, 0, 0, 0, 0, ⟨0, 0, 0, [], [], []⟩⟩ (.sl none 0 0 none) (.sl none 0 0 none) (.map none))) := rfl
theorem box_wat {l : List AV} : aBox h 126 (.agg l) = some (.ptr (some (.new h.next 0)), h.push (.cells l 126)) := rfl

theorem ids_ord (hn : m.ids.Nodup) {x y : Nat} (hx : x ∉ m.ids) (hy : y ∉ m.ids) (hxy : x ≠ y) :
    (WM.ids { m with ko := some x, cks := m.cks ++ [(y, none)] }).Nodup ∧ ∀ k ∈ WM.ids { m with ko := some x, cks := m.cks ++ [(y, none)] }, k = x ∨ k = y ∨ k ∈ m.ids := by
  have e1 : m.ids = [m.kw, m.kc] ++ (m.ko.toList ++ m.cks.flatMap fun p : Nat × Option Nat => p.1 :: p.2.toList) := rfl
  have e2 : WM.ids { m with ko := some x, cks := m.cks ++ [(y, none)] } = ([m.kw, m.kc] ++ (x :: m.cks.flatMap fun p : Nat × Option Nat => p.1 :: p.2.toList)) ++ ([] ++ [y]) := by
    simp [WM.ids]
  rw [e1] at hn hx hy
  have hx' : x ∉ [m.kw, m.kc] ++ m.cks.flatMap (fun p : Nat × Option Nat => p.1 :: p.2.toList) := fun hc => hx (by
    rcases List.mem_append.1 hc with hc | hc
    · exact List.mem_append_left _ hc
    · exact List.mem_append_right _ (List.mem_append_right _ hc))
  have h1 := nod_new hn hx'
  have hm : ∀ k ∈ [m.kw, m.kc] ++ (x :: m.cks.flatMap fun p : Nat × Option Nat => p.1 :: p.2.toList), k = x ∨ k ∈ [m.kw, m.kc] ++ (m.ko.toList ++ m.cks.flatMap fun p : Nat × Option Nat => p.1 :: p.2.toList) := fun k hk => by
    rcases List.mem_append.1 hk with hk | hk
    · exact .inr (List.mem_append_left _ hk)
    · rcases List.mem_cons.1 hk with hk | hk
      · exact .inl hk
      · exact .inr (List.mem_append_right _ (List.mem_append_right _ hk))
  rw [e2, e1]
  refine ⟨?_, fun k hk => ?_⟩
  · have h2 : (([m.kw, m.kc] ++ (x :: m.cks.flatMap fun p : Nat × Option Nat => p.1 :: p.2.toList)) ++ ([] ++ ([] : List Nat))).Nodup := by simpa using h1
    refine nod_new h2 fun hc => ?_
    rw [List.append_nil] at hc
    rcases hm y hc with h3 | h3
    · exact hxy h3.symm
    · exact hy h3
  · rcases List.mem_append.1 hk with hk | hk
    · rcases hm k hk with h3 | h3
      · exact .inl h3
      · exact .inr (.inr h3)
    · simp at hk
      exact .inr (.inl hk)

/-- A call, noted for the first time. -/
theorem WIs.addCall (hw : WIs W h0 h m P sh s wv) {k : Key} (hk : lookP P.calls k = none) (op : Opn) (hfew : P.calls.length + 1 < 1000000) {ov bv rv hv : AV} (ha : h.get m.kw = some (.cells (wCells sh m.kc ov bv P.at_ s.c rv hv wv) 126)) (hb : OrdIs h m.ko ov (P.calls.map (·.1))) (hd : EntS W h0 bv P.before ∧ RepS W h0 rv s.reps ∧ EntS W h0 hv s.h) :
    ∃ h2 h4 h5, aMapSet (CC W) (h.push (.cells (cCells ⟨op, P.at_, [], -1⟩ (.sl none 0 0 none)) 131)) 122 (.map (some m.kc)) (reqV k) (.ptr (some (.new h.next 0))) = some h2 ∧
      (h2.next = h.next + 1 ∧ ∀ j, j < h.next → j ≠ m.kc → h2.get j = h.get j) ∧
      aAppend (CC W) (h2.push (.cells [.int .i64 k.1, .int .i64 k.2] 128)) #[123, 123] ov (.sl (some (.new h2.next 0)) 1 1 none) = some (.sl (some (.new (h2.next + 1) 0)) (P.calls.length + 1) (P.calls.length + 1) (some 2), h4) ∧
      aStoreOp (CC W) h4 123 (.ptr (some (.new m.kw 4))) (.sl (some (.new (h2.next + 1) 0)) (P.calls.length + 1) (P.calls.length + 1) (some 2)) = some h5 ∧
      WIs W h0 h5 { m with ko := some (h2.next + 1), cks := m.cks ++ [(h.next, none)] } { P with calls := P.calls ++ [(k, ⟨op, P.at_, [], -1⟩)] } sh s wv ∧ (∀ j, j < h.next → j ∉ m.ids → h4.get j = h.get j) ∧ (h4.get m.kw = some (.cells (wCells sh m.kc ov bv P.at_ s.c rv hv wv) 126)) ∧ h.next ≤ h5.next ∧ ∀ j, j < h.next → j ∉ m.ids → h5.get j = h.get j := by
  have hkc := hw.low m.kc (by simp [WM.ids])
  have hkw := hw.low m.kw (by simp [WM.ids])
  have hko : ∀ y ∈ m.ko, y ∈ m.ids := fun y hy => by
    simp only [WM.ids, List.mem_cons, List.mem_append]
    exact .inr (.inr (.inl (by simpa [Option.mem_toList] using hy)))
  have hnd := hw.nod
  have hnn := hnd
  simp only [WM.ids, List.nodup_cons, List.nodup_append, List.mem_cons, List.mem_append, not_or] at hnn
  obtain ⟨⟨a1, a2, a3⟩, ⟨b1, b2⟩, c1, c2, c3⟩ := hnn
  have hcf : ∀ (i : Nat) q, m.cks[i]? = some q → ∀ y, (y = q.1 ∨ y ∈ q.2) → y ∈ m.cks.flatMap fun p : Nat × Option Nat => p.1 :: p.2.toList := fun i q hq y hy => by
    rw [List.mem_flatMap]
    refine ⟨q, List.mem_of_getElem? hq, ?_⟩
    rw [List.mem_cons]
    rcases hy with hy | hy
    · exact .inl hy
    · exact .inr (by simpa [Option.mem_toList] using hy)
  have hm1 := hw.calls.same (h' := h.push (.cells (cCells ⟨op, P.at_, [], -1⟩ (.sl none 0 0 none)) 131)) (by rw [AH.get_push, if_neg (by omega)])
  obtain ⟨h2, hst2, hm2, hn2, hoff2⟩ := set_kt (reqK W) (T := 122) (V := 129) rfl hm1 k (.ptr (some (.new h.next 0)))
  have hn2' : h2.next = h.next + 1 := by rw [hn2]; simp
  have ho2 : ∀ j, j < h.next → j ≠ m.kc → h2.get j = h.get j := fun j hj hjc => by
    rw [hoff2 j hjc, AH.get_push, if_neg (by omega)]
  have hcall2 : h2.get h.next = some (.cells (cCells ⟨op, P.at_, [], -1⟩ (.sl none 0 0 none)) 131) := by
    rw [hoff2 _ (by omega)]; simp
  have hord2 : OrdIs h2 m.ko ov (P.calls.map (·.1)) := hb.same fun y hy => ho2 y (hw.low y (hko y hy)).2 fun e => b1 (by rw [← e]; simpa [Option.mem_toList] using hy)
  obtain ⟨h4, hap, hord4, hn4, hoff4⟩ := hord2.app (W := W) (x := k) (fun y hy => by have := (hw.low y (hko y hy)).2; omega) (by simp; omega)
  have hmap : (P.calls.map (·.1)).length = P.calls.length := by simp
  rw [hmap] at hap hord4
  have hkwo : ∀ y ∈ m.ko, m.kw ≠ y := fun y hy e => a2 (by rw [e]; simpa [Option.mem_toList] using hy)
  have hkco : ∀ y ∈ m.ko, m.kc ≠ y := fun y hy e => b1 (by rw [e]; simpa [Option.mem_toList] using hy)
  have ha4 : h4.get m.kw = some (.cells (wCells sh m.kc ov bv P.at_ s.c rv hv wv) 126) := by
    rw [hoff4 m.kw (by omega) hkwo, ho2 m.kw hkw.2 a1]; exact ha
  have hst5 := st_ord (W := W) (p := some (.new (h2.next + 1) 0)) (n := P.calls.length + 1) (q := P.calls.length + 1) (g := some 2) ha4
  have hxm : h2.next + 1 ∉ m.ids := fun hc => by have := (hw.low _ hc).2; omega
  have hym : h.next ∉ m.ids := fun hc => by have := (hw.low _ hc).2; omega
  obtain ⟨n1, n2⟩ := ids_ord hnd hxm hym (by omega)
  have hoff5 : ∀ j, j < h.next → j ≠ m.kw → j ≠ m.kc → (∀ y ∈ m.ko, j ≠ y) → (h4.set m.kw (.cells (wCells sh m.kc (.sl (some (.new (h2.next + 1) 0)) (P.calls.length + 1) (P.calls.length + 1) (some 2)) bv P.at_ s.c rv hv wv) 126)).get j = h.get j := fun j hj j1 j2 j3 => by
    simp [j1]
    rw [hoff4 j (by omega) j3, ho2 j hj j2]
  refine ⟨h2, h4, _, hst2, ⟨hn2', ho2⟩, hap, hst5, ?_, fun j hj hjm => by rw [hoff4 j (by omega) fun y hy e => hjm (e ▸ hko y hy), ho2 j hj fun e => hjm (by simp [WM.ids, e])], ha4, by simp; omega, fun j hj hjm => hoff5 j hj (fun e => hjm (by simp [WM.ids, e])) (fun e => hjm (by simp [WM.ids, e])) fun y hy e => hjm (e ▸ hko y hy)⟩
  exact { keeps := ⟨by simp; have := hw.keeps.1; omega, fun j hj => by
            have h1 := hw.keeps.1
            rw [hoff5 j (by omega) (by omega) (by omega) fun y hy e => by have := (hw.low y (hko y hy)).1; omega]
            exact hw.keeps.2 j hj⟩
          low := fun y hy => by
            have h1 := hw.keeps.1
            rcases n2 y hy with rfl | rfl | hy
            · simp; omega
            · simp; omega
            · have := hw.low y hy
              simp; omega
          nod := n1
          len := by simp; exact hw.len
          box := ⟨.sl (some (.new (h2.next + 1) 0)) (P.calls.length + 1) (P.calls.length + 1) (some 2), bv, rv, hv, by simp, by
            have := hord4.same (h' := h4.set m.kw (.cells (wCells sh m.kc (.sl (some (.new (h2.next + 1) 0)) (P.calls.length + 1) (P.calls.length + 1) (some 2)) bv P.at_ s.c rv hv wv) 126)) fun y hy => by
              cases hy
              have : ¬ h2.next + 1 = m.kw := by omega
              simp [this]
            simpa using this, hd⟩
          calls := by
            have hpt : ptrsOf (P.calls ++ [(k, ⟨op, P.at_, [], -1⟩)]) (m.cks ++ [(h.next, none)]) = updP (ptrsOf P.calls m.cks) k (.ptr (some (.new h.next 0))) := by
              have hnone : lookP (ptrsOf P.calls m.cks) k = none := by
                rcases lookP_ptrs (k := k) P.calls m.cks hw.len with ⟨_, e2⟩ | ⟨_, _, _, _, _, e3, _⟩
                · exact e2
                · rw [hk] at e3; cases e3
              rw [updP_new hnone, ptrsOf, List.zip_append hw.len.symm]
              simp [ptrsOf]
            show MapG (reqK W) _ m.kc _
            rw [hpt]
            refine hm2.same ?_
            simp [Ne.symm a1]
            exact hoff4 m.kc (by omega) hkco
          each := fun i p q hp hq => by
            by_cases hi : i < P.calls.length
            · rw [List.getElem?_append_left hi] at hp
              rw [List.getElem?_append_left (by rw [hw.len]; exact hi)] at hq
              obtain ⟨nv, e1, e2⟩ := hw.each i p q hp hq
              obtain ⟨g1, g2⟩ := WM.mem_ck hq
              have hz : ∀ y, (y = q.1 ∨ y ∈ q.2) → y < h.next → (h4.set m.kw (.cells (wCells sh m.kc (.sl (some (.new (h2.next + 1) 0)) (P.calls.length + 1) (P.calls.length + 1) (some 2)) bv P.at_ s.c rv hv wv) 126)).get y = h.get y := fun y hy hyl => by
                have hyf := hcf i q hq y hy
                exact hoff5 y hyl (fun e => a3 (e ▸ hyf)) (fun e => b2 (e ▸ hyf)) fun z hz e => c3 z (by simpa [Option.mem_toList] using hz) y hyf e.symm
              exact ⟨nv, (hz q.1 (.inl rfl) (hw.low _ g1).2).trans e1, e2.same fun y hy => hz y (.inr hy) (hw.low _ (g2 y hy)).2⟩
            · have hil : i = P.calls.length := by
                have := (List.getElem?_eq_some_iff.1 hp).1
                simp at this; omega
              subst hil
              have hp2 : p = (k, ⟨op, P.at_, [], -1⟩) := by simpa using hp.symm
              have hq2 : q = (h.next, none) := by
                have : (m.cks ++ [(h.next, none)])[P.calls.length]? = some (h.next, none) := by rw [← hw.len]; simp
                rw [this] at hq; exact (Option.some.inj hq).symm
              subst hp2
              subst hq2
              have : ¬ h.next = m.kw := by omega
              refine ⟨.sl none 0 0 none, ?_, ⟨rfl, rfl⟩⟩
              simp [this]
              rw [hoff4 h.next (by omega) fun y hy e => by have := (hw.low y (hko y hy)).2; omega]
              exact hcall2
          few := ⟨by simp; exact hfew, hw.few.2.1, fun p hp => by
            rw [List.mem_append, List.mem_singleton] at hp
            rcases hp with hp | rfl
            · exact hw.few.2.2 p hp
            · simp⟩ }
end

def cho0 : Cho := ⟨0, 0, 0, 0, 0, 0, ⟨0, 0, 0, [], [], []⟩⟩
def see0 : See := ⟨cho0, [], []⟩
def wp0 : WP := ⟨[], [], 0⟩
set_option maxHeartbeats 4000000 in
set_option maxRecDepth 20000 in
theorem begin_ret (W : World) (h : AH) (a b c : Int) :
    ACall (CC W) 64 [.agg [.int .i64 a, .int .i64 b, .int .i64 c]] h (fun w h' => ∃ m : WM, w = .ptr (some (.new m.kw 0)) ∧ WIs W h h' m wp0 (a, b, c) see0 (.map none)) (fun _ _ => False) := by
  refine jj9 (cc_ok W) (fn64 W) (by simp only [Tryz.f64]; rfl) rfl rfl ?_
  have hbx := box_shape (h := h) (l := [.int .i64 a, .int .i64 b, .int .i64 c])
  have hk1 := Keeps.push h (.cells [.int .i64 a, .int .i64 b, .int .i64 c] 23)
  have hg1 : (h.push (.cells [.int .i64 a, .int .i64 b, .int .i64 c] 23)).get h.next = some (.cells [.int .i64 a, .int .i64 b, .int .i64 c] 23) := by simp
  generalize h.push (.cells [.int .i64 a, .int .i64 b, .int .i64 c] 23) = h1 at hbx hk1 hg1
  generalize h.next = kb at hbx hg1
  have hmk : aMakeMap h1 none = some (.map (some h1.next), h1.push (.map [] 0)) := rfl
  have hk2 := Keeps.push h1 (.map [] 0)
  have hg2 : (h1.push (.map [] 0)).get h1.next = some (.map [] 0) := by simp
  have hn2 : h1.next < (h1.push (.map [] 0)).next := by simp
  have hlo := hk1.1
  generalize h1.push (.map [] 0) = h2 at hmk hk2 hg2 hn2
  generalize h1.next = km at hmk hg2 hn2 hlo
  have hbw := build_wat (W := W) (a := a) (b := b) (c := c) (k := km)
  obtain ⟨cs, hcs⟩ : ∃ cs, cs = wCells (a, b, c) km (.sl none 0 0 none) (.sl none 0 0 none) 0 cho0 (.sl none 0 0 none) (.sl none 0 0 none) (.map none) := ⟨_, rfl⟩
  have hcs' := hcs
  simp only [cho0] at hcs'
  rw [← hcs'] at hbw
  simp [push_cast, hbx, ld_shape hg1, hmk, hbw, box_wat]
  refine ⟨⟨h2.next, km, none, []⟩, rfl, ?_⟩
  have hk3 := hk1.trans hk2
  exact { keeps := hk3.trans (Keeps.push _ _)
          low := fun k hk => by
            have := hk3.1
            simp only [WM.ids, List.mem_cons, Option.toList, List.flatMap_nil, List.append_nil, List.not_mem_nil, or_false] at hk
            rcases hk with rfl | rfl
            · simp; exact this
            · simp; omega
          nod := by
            have : h2.next ≠ km := by omega
            simp [WM.ids, this]
          len := rfl
          box := ⟨.sl none 0 0 none, .sl none 0 0 none, .sl none 0 0 none, .sl none 0 0 none, by rw [hcs]; simp [see0, wp0], ⟨rfl, rfl⟩, .inl ⟨rfl, rfl⟩, .inl ⟨rfl, rfl⟩, .inl ⟨rfl, rfl⟩⟩
          calls := ⟨[], 0, by
            have : ¬ km = h2.next := by omega
            simp [this]; exact hg2, rfl, by simp, by simp⟩
          each := fun i p q hp _ => by simp [wp0] at hp
          few := by simp [wp0] }
end Go.Proofs.YtbofhlifobjolaaGreatDoor.Ax
end

/-! A call that is noted: the walk -/
section
set_option linter.unusedVariables false
set_option linter.unusedSimpArgs false
namespace Go.Proofs.YtbofhlifobjolaaGreatDoor.Ax
open Go.RowKit

theorem lookP_app {α β : Type} [DecidableEq α] {k : α} {v : β} : ∀ {l : List (α × β)}, lookP l k = none → lookP (l ++ [(k, v)]) k = some v
  | [], _ => by simp [lookP]
  | p :: l, h => by
    by_cases e : k = p.1
    · simp [lookP, e] at h
    · simp only [lookP, e, if_false] at h
      simp only [List.cons_append, lookP, e, if_false]
      exact lookP_app h
theorem updP_app {α β : Type} [DecidableEq α] {k : α} {v w : β} : ∀ {l : List (α × β)}, lookP l k = none → updP (l ++ [(k, v)]) k w = l ++ [(k, w)]
  | [], _ => by simp [updP]
  | p :: l, h => by
    by_cases e : k = p.1
    · simp [lookP, e] at h
    · simp only [lookP, e, if_false] at h
      simp only [List.cons_append, updP, e, if_false]
      rw [updP_app h]
theorem lookP_mem {α β : Type} [DecidableEq α] {k : α} {v : β} : ∀ {l : List (α × β)}, lookP l k = some v → (k, v) ∈ l
  | [], h => by simp [lookP] at h
  | p :: l, h => by
    by_cases e : k = p.1
    · simp only [lookP, e, if_true, Option.some.injEq] at h
      subst e; subst h; simp
    · simp only [lookP, e, if_false] at h
      exact List.mem_cons_of_mem _ (lookP_mem h)

set_option maxRecDepth 100000 in
set_option maxHeartbeats 16000000 in
theorem call_ret (W : World) (h0 h : AH) (m : WM) (P : WP) (sh : Int × Int × Int) (s : See) (wv : AV) (hw : WIs W h0 h m P sh s wv) (c : Cho) (hfew : P.calls.length + 1 < 1000000 ∧ ∀ p ∈ P.calls, p.2.nodes.length + 1 < 1000000) :
    ACall (CC W) 103 [.ptr (some (.new m.kw 0)), .agg c.cells] h (fun _ h' => ∃ m' : WM, m'.kw = m.kw ∧ WIs W h0 h' m' (callP P c) sh s wv ∧ Off m h h' ∧ ∀ y ∈ m'.ids, y ∈ m.ids ∨ h.next ≤ y) (fun _ _ => False) := by
  refine jj9 (cc_ok W) (fn103 W) (by simp only [Tryz.f103]; rfl) rfl rfl ?_
  have hbx := box_cho (h := h) (l := c.cells)
  have hk1 := Keeps.push h (.cells c.cells 69)
  have hb1 : (h.push (.cells c.cells 69)).get h.next = some (.cells c.cells 69) := by simp
  have hn1 : h.next < (h.push (.cells c.cells 69)).next := by simp
  have hids : ∀ y ∈ m.ids, y < h.next := fun y hy => (hw.low y hy).2
  generalize h.push (.cells c.cells 69) = h1 at hbx hk1 hb1 hn1
  have hkb0 : h.next ≤ h.next := Nat.le_refl _
  generalize hkbe : h.next = kb at hbx hb1 hn1 hids hkb0
  have hw1 := hw.keep hk1
  simp only [Cho.cells, Opn.cells] at hbx hb1
  by_cases hkd : c.kind = 1
  · have hal := alloc_req (W := W) (h := h1)
    have hst := st_req (W := W) (x := c.client) (y := c.req) (h := h1.push (.cells [.int .i64 0, .int .i64 0] 128)) (k := h1.next) (a := .int .i64 0) (b := .int .i64 0) (by simp)
    have hgx : ((h1.push (.cells [.int .i64 0, .int .i64 0] 128)).set h1.next (.cells [.int .i64 c.client, .int .i64 c.req] 128)).get h1.next = some (.cells [.int .i64 c.client, .int .i64 c.req] 128) := by simp
    have hk3 : Keeps h1 ((h1.push (.cells [.int .i64 0, .int .i64 0] 128)).set h1.next (.cells [.int .i64 c.client, .int .i64 c.req] 128)) := (Keeps.push _ _).set (Nat.le_refl _) _
    have hn3 : h1.next < ((h1.push (.cells [.int .i64 0, .int .i64 0] 128)).set h1.next (.cells [.int .i64 c.client, .int .i64 c.req] 128)).next := by simp
    generalize (h1.push (.cells [.int .i64 0, .int .i64 0] 128)).set h1.next (.cells [.int .i64 c.client, .int .i64 c.req] 128) = h3 at hst hgx hk3 hn3
    generalize h1.push (.cells [.int .i64 0, .int .i64 0] 128) = h1p at hal hst
    have hkx0 : h1.next ≤ h1.next := Nat.le_refl _
    have hidx : ∀ y ∈ m.ids, y < h1.next := fun y hy => (hw1.low y hy).2
    generalize hkxe : h1.next = kx at hal hst hgx hn3 hkx0 hidx
    have hw3 := hw1.keep hk3
    have hb3 := (hk3.2 kb (by omega)).trans hb1
    have hk03 := hk1.trans hk3
    obtain ⟨ov3, bv3, rv3, hv3, hbox3, hord3, hd3⟩ := hw3.box
    have hbw3 := hbox3
    simp only [wCells] at hbw3
    have hcp : callP P c = ndP (newP P (c.client, c.req) c.op) (c.client, c.req) c.node := by simp only [callP, hkd, if_true]
    rw [hcp]
    have hkbN : kb ∉ m.ids := fun hc => by have := hids _ hc; omega
    have hkxN : kx ∉ m.ids := fun hc => by have := hidx _ hc; omega
    simp only [hkd] at hbx hb1 hb3
    simp [push_cast, Cho.cells, Opn.cells, hkd, hbx, fa69_0, fa69_4, fa69_5, ld3, ji9 hb1, jd9, build_req, hal, hst]
    refine draw1 (cc_ok W) [0, 1, 2, 3, 4, 5, 6] (by kernel_rfl) (by kernel_rfl) (by kernel_rfl) rfl ?_
    rcases hw3.look2 (c.client, c.req) with ⟨e0, hlk⟩ | ⟨i, cl, q, nv, e1, e2, e3, hlk, hgc, hnd, hset⟩
    · obtain ⟨h5, h7, h8, hms, ⟨hn5, hoff5⟩, hap7, hst8, hw8, hoff7, hgw7, hn8, hoff8⟩ := hw3.addCall e0 c.op hfew.1 hbox3 hord3 hd3
      simp only [reqV] at hlk hms
      have hbk := build_called (W := W) (a := c.op.kd) (b := c.op.at_) (c := c.op.n) (x := c.op.p) (y := c.op.t) (z := c.op.d) (n := (P.at_ : Int)) (r := -1)
      simp only [cCells] at hms
      simp [push_cast, fa126_1, ld122, ji9 hbw3, jd9, ld_req hgx, hlk, aEq, kind129, kindEq1, aEq1]
      refine draw1 (cc_ok W) [0, 1, 2, 3, 4, 5, 6, 7, 8] (by kernel_rfl) (by kernel_rfl) (by kernel_rfl) rfl ?_
      have hldop : aLoad (CC W) h3 35 (.new kb 6) = some (.agg c.op.cells) := by
        unfold aLoad
        rw [ty35]
        show (aCells (CC W) h3 (.new kb 6) 6).map AV.agg = _
        simp only [aCells, hb3]
        rfl
      simp only [Opn.cells] at hldop
      simp [push_cast, fa69_6, fa126_4, ld3, ji9 hbw3, jd9, hldop, hbk, box_called]
      refine draw1 (cc_ok W) [0, 1, 2, 3, 4, 5, 6] (by kernel_rfl) (by kernel_rfl) (by kernel_rfl) rfl ?_
      have hkwl := (hw3.low m.kw (by simp [WM.ids])).2
      have hkwc : m.kw ≠ m.kc := by
        have hn := hw.nod
        simp only [WM.ids, List.nodup_cons, List.mem_cons, not_or] at hn
        exact hn.1.1
      have hkcl := (hw3.low m.kc (by simp [WM.ids])).2
      have hkxc : kx ≠ m.kc := fun e => hkxN (by rw [e]; simp [WM.ids])
      have hkbc : kb ≠ m.kc := fun e => hkbN (by rw [e]; simp [WM.ids])
      have hkbl : kb < h3.next := by omega
      have hbw4 := ((Keeps.push h3 (.cells [.int .i64 c.op.kd, .int .i64 c.op.at_, .int .i64 c.op.n, .str c.op.p, .str c.op.t, .str c.op.d, .int .i64 (P.at_ : Int), .sl none 0 0 none, .int .i64 (-1)] 131)).2 m.kw (by omega)).trans hbw3
      have hgx4 := ((Keeps.push h3 (.cells [.int .i64 c.op.kd, .int .i64 c.op.at_, .int .i64 c.op.n, .str c.op.p, .str c.op.t, .str c.op.d, .int .i64 (P.at_ : Int), .sl none 0 0 none, .int .i64 (-1)] 131)).2 kx (by omega)).trans hgx
      simp [push_cast, fa126_1, ld122, ji9 hbw4, jd9, ld_req hgx4, hms]
      have hbw5 := (hoff5 m.kw hkwl hkwc).trans hbw3
      have hgx5 := (hoff5 kx hn3 hkxc).trans hgx
      have hkwl5 : m.kw < h5.next := by omega
      have hkxl5 : kx < h5.next := by omega
      have hbw6 := ((Keeps.push h5 (.cells [.int .i64 c.client, .int .i64 c.req] 128)).2 m.kw (by omega)).trans hbw5
      have hgx6 := ((Keeps.push h5 (.cells [.int .i64 c.client, .int .i64 c.req] 128)).2 kx (by omega)).trans hgx5
      have hgx7 := (hoff7 kx hn3 hkxN).trans hgx
      have hbw7 := hgw7
      simp only [wCells] at hbw7
      refine drawS [0, 1, 2, 3, 4, 5, 6, 7, 8, 9, 10] (by kernel_rfl) (by kernel_rfl) ?_
      simp [push_cast, zx9, zy9, SgO, opA, isE, isRead, jd9, fa126_2, ld123, ji9 hbw5, ld_req hgx5]
      refine jc9 (h' := h5.push (.cells [.int .i64 c.client, .int .i64 c.req] 128)) (v := .sl (some (.new h5.next 0)) 1 1 none) (by rfl) (by simp [push_cast, buildS_req]) ⟨?_, ?_⟩
      · simp [zz9, ja9, push_cast, opA, fa126_2, ld123, ji9 hbw6, ld_req hgx6]
      simp [zx9, zy9, SgO, opA, isE, isRead]
      refine jc9 (h' := h7) (v := .sl (some (.new (h5.next + 1) 0)) (P.calls.length + 1) (P.calls.length + 1) (some 2)) (by rfl) (by simp [push_cast, hap7]) ⟨?_, ?_⟩
      · simp [zz9, ja9, push_cast, opA, fa126_2, ld123, ji9 hbw7, ld_req hgx7]
      simp [push_cast, zx9, zy9, SgO, opA, isE, isRead, jd9, fa126_2]
      refine jc9 (h' := h8) (v := .undef) (by rfl) (by simp [push_cast, hst8]) ⟨?_, ?_⟩
      · simp only [zz9, ja9]; exact ⟨fun hr => absurd hr (by decide), fun hr => absurd hr (by decide), trivial⟩
      simp [zx9, zy9, SgO, opA, isE, isRead, push_cast]
      have hbX := (hoff8 kb hkbl hkbN).trans hb3
      have hkbX : kb < h8.next := by omega
      have hwX := hw8
      have hlen3 := hw3.len
      have hPl : (P.calls ++ [((c.client, c.req), (⟨c.op, P.at_, [], -1⟩ : Cal))])[P.calls.length]? = some ((c.client, c.req), ⟨c.op, P.at_, [], -1⟩) := by simp
      have hml : (m.cks ++ [(h3.next, none)])[P.calls.length]? = some (h3.next, none) := by rw [← hlen3]; simp
      obtain ⟨nv, hgc, hnd⟩ := hwX.each P.calls.length _ _ hPl hml
      have hkbN : kb ∉ WM.ids { m with ko := some (h5.next + 1), cks := m.cks ++ [(h3.next, none)] } := fun hc => by
        have hn := hw3.nod
        obtain ⟨_, n2⟩ := ids_ord hn (x := h5.next + 1) (y := h3.next) (fun hc => by have := (hw3.low _ hc).2; omega) (fun hc => by have := (hw3.low _ hc).2; omega) (by omega)
        rcases n2 kb hc with h | h | h
        · omega
        · omega
        · exact hkbN h
      have e1 := hPl
      have e2 : ({ m with ko := some (h5.next + 1), cks := m.cks ++ [(h3.next, none)] } : WM).cks[P.calls.length]? = some (h3.next, none) := hml
      obtain ⟨cl, hcl⟩ : ∃ cl : Cal, cl = ⟨c.op, P.at_, [], -1⟩ := ⟨_, rfl⟩
      have hlenX : cl.nodes.length + 1 < 1000000 := by rw [hcl]; simp
      have hfinP : ndP (newP P (c.client, c.req) c.op) (c.client, c.req) c.node = { P with calls := (P.calls ++ [((c.client, c.req), cl)]).set P.calls.length ((c.client, c.req), { cl with nodes := cl.nodes ++ [c.node] }) } := by
        have hn : newP P (c.client, c.req) c.op = { P with calls := P.calls ++ [((c.client, c.req), cl)] } := by simp only [newP, e0, hcl]
        rw [hn]
        simp only [ndP, lookP_app e0, updP_app e0]
        simp
      rw [hfinP]
      rw [← hcl] at hwX hgc hnd e1
      obtain ⟨mX, hmX⟩ : ∃ mX : WM, mX = { m with ko := some (h5.next + 1), cks := m.cks ++ [(h3.next, none)] } := ⟨_, rfl⟩
      have hmk : mX.kw = m.kw := by rw [hmX]
      have hmi : ∀ j, j < h.next → j ∉ m.ids → j ∉ mX.ids := fun j hj hjm hc => by
        rw [hmX] at hc
        have hn := hw3.nod
        obtain ⟨_, n2⟩ := ids_ord hn (x := h5.next + 1) (y := h3.next) (fun hc => by have := (hw3.low _ hc).2; omega) (fun hc => by have := (hw3.low _ hc).2; omega) (by omega)
        have := hk03.1
        rcases n2 j hc with h | h | h
        · omega
        · omega
        · exact hjm h
      rw [← hmX] at hwX hkbN e2
      obtain ⟨q, hq⟩ : ∃ q : Nat × Option Nat, q = (h3.next, none) := ⟨_, rfl⟩
      have hgc : h8.get q.1 = some (.cells (cCells cl nv) 131) := by rw [hq]; exact hgc
      have hnd : NdsIs h8 q.2 nv cl.nodes := by rw [hq]; exact hnd
      rw [← hq] at e2
      have hq1 : h3.next = q.1 := by rw [hq]
      rw [hq1]
      have hn38 : h3.next ≤ h8.next := hn8
      have hoffA : ∀ j, j < h.next → j ∉ m.ids → h8.get j = h.get j := fun j hj hjm => by rw [hoff8 j (by have := hk03.1; omega) hjm]; exact hk03.2 j hj
      have hnA : h.next ≤ h8.next := by have := hk03.1; omega
      generalize h8 = hX at *
      have hbX' := hbX
      have hgc' := hgc
      simp only [cCells] at hgc'
      obtain ⟨hy2, hy3, hap, hst, hwF, hoffY, hgY, hnF, hoffF⟩ := hwX.addNode e1 e2 hgc hnd c.node (by exact hlenX)
      have hqlt := (hwX.low q.1 (WM.mem_ck e2).1).2
      have hgP := ((Keeps.push hX (.cells [.int .i64 c.node] 3)).2 q.1 (by omega)).trans hgc
      have hbP := ((Keeps.push hX (.cells [.int .i64 c.node] 3)).2 kb (by omega)).trans hbX
      have hbY := (hoffY kb hkbX fun z hz e => hkbN (e ▸ (WM.mem_ck e2).2 z hz)).trans hbX
      simp only [cCells] at hgP hgY
      refine drawS [0, 1, 2, 3, 4, 5, 6, 7, 8, 9, 10, 11] (by kernel_rfl) (by kernel_rfl) ?_
      simp [push_cast, zx9, zy9, SgO, opA, isE, isRead, jd9, fa131_2, fa69_1, ld3, ld53, ji9 hgc', ji9 hbX']
      refine jc9 (h' := hX.push (.cells [.int .i64 c.node] 3)) (v := .sl (some (.new hX.next 0)) 1 1 none) (by rfl) (by simp [push_cast, build_int]) ⟨?_, ?_⟩
      · simp [zz9, ja9, push_cast, opA, fa131_2, fa69_1, ld3, ld53, ji9 hgP, ji9 hbP]
      simp [zx9, zy9, SgO, opA, isE, isRead]
      refine jc9 (h' := hy2) (v := .sl (some (.new (hX.next + 1) 0)) (cl.nodes.length + 1) (cl.nodes.length + 1) (some 1)) (by rfl) (by simp [push_cast, hap]) ⟨?_, ?_⟩
      · simp [zz9, ja9, push_cast, opA, fa131_2, fa69_1, ld3, ld53, ji9 hgY, ji9 hbY]
      simp [push_cast, zx9, zy9, SgO, opA, isE, isRead, jd9, fa131_2]
      refine jc9 (h' := hy3) (v := .undef) (by rfl) (by simp [push_cast, hst]) ⟨?_, ?_⟩
      · simp only [zz9, ja9]; exact ⟨fun hr => absurd hr (by decide), fun hr => absurd hr (by decide), trivial⟩
      simp [zx9, zy9, SgO, opA, isE, isRead, push_cast]
      refine ⟨{ mX with cks := mX.cks.set P.calls.length (q.1, some (hX.next + 1)) }, hmk, by simpa using hwF, ⟨by omega, fun j hj hjm => by rw [hoffF j (by omega) (hmi j hj hjm), hoffA j hj hjm]⟩, fun y hy => ?_⟩
      rcases (ids_node e2 hwX.nod (x := hX.next + 1) (fun hc => by have := (hwX.low _ hc).2; omega)).2 y hy with hz | hz
      · exact .inr (by omega)
      · by_cases hyl : y < h.next
        · by_cases hym : y ∈ m.ids
          · exact .inl hym
          · exact absurd hz (hmi y hyl hym)
        · exact .inr (by omega)
    · have hbX := hb3
      have hkbX : kb < h3.next := by omega
      have hwX := hw3
      have hlenX : cl.nodes.length + 1 < 1000000 := hfew.2 _ (lookP_mem e3)
      simp only [reqV] at hlk
      have hfinP : ndP (newP P (c.client, c.req) c.op) (c.client, c.req) c.node = { P with calls := P.calls.set i ((c.client, c.req), { cl with nodes := cl.nodes ++ [c.node] }) } := by
        simp only [newP, e3, ndP, hset]
      rw [hfinP]
      simp [push_cast, fa126_1, ld122, ji9 hbw3, jd9, ld_req hgx, hlk, aEq, kind129, kindEq1, aEq1]
      have hoffA : ∀ j, j < h.next → j ∉ m.ids → h3.get j = h.get j := fun j hj hjm => hk03.2 j hj
      have hnA : h.next ≤ h3.next := hk03.1
      generalize h3 = hX at *
      have hbX' := hbX
      have hgc' := hgc
      simp only [cCells] at hgc'
      obtain ⟨hy2, hy3, hap, hst, hwF, hoffY, hgY, hnF, hoffF⟩ := hwX.addNode e1 e2 hgc hnd c.node (by exact hlenX)
      have hqlt := (hwX.low q.1 (WM.mem_ck e2).1).2
      have hgP := ((Keeps.push hX (.cells [.int .i64 c.node] 3)).2 q.1 (by omega)).trans hgc
      have hbP := ((Keeps.push hX (.cells [.int .i64 c.node] 3)).2 kb (by omega)).trans hbX
      have hbY := (hoffY kb hkbX fun z hz e => hkbN (e ▸ (WM.mem_ck e2).2 z hz)).trans hbX
      simp only [cCells] at hgP hgY
      refine drawS [0, 1, 2, 3, 4, 5, 6, 7, 8, 9, 10, 11] (by kernel_rfl) (by kernel_rfl) ?_
      simp [push_cast, zx9, zy9, SgO, opA, isE, isRead, jd9, fa131_2, fa69_1, ld3, ld53, ji9 hgc', ji9 hbX']
      refine jc9 (h' := hX.push (.cells [.int .i64 c.node] 3)) (v := .sl (some (.new hX.next 0)) 1 1 none) (by rfl) (by simp [push_cast, build_int]) ⟨?_, ?_⟩
      · simp [zz9, ja9, push_cast, opA, fa131_2, fa69_1, ld3, ld53, ji9 hgP, ji9 hbP]
      simp [zx9, zy9, SgO, opA, isE, isRead]
      refine jc9 (h' := hy2) (v := .sl (some (.new (hX.next + 1) 0)) (cl.nodes.length + 1) (cl.nodes.length + 1) (some 1)) (by rfl) (by simp [push_cast, hap]) ⟨?_, ?_⟩
      · simp [zz9, ja9, push_cast, opA, fa131_2, fa69_1, ld3, ld53, ji9 hgY, ji9 hbY]
      simp [push_cast, zx9, zy9, SgO, opA, isE, isRead, jd9, fa131_2]
      refine jc9 (h' := hy3) (v := .undef) (by rfl) (by simp [push_cast, hst]) ⟨?_, ?_⟩
      · simp only [zz9, ja9]; exact ⟨fun hr => absurd hr (by decide), fun hr => absurd hr (by decide), trivial⟩
      simp [zx9, zy9, SgO, opA, isE, isRead, push_cast]
      refine ⟨{ m with cks := m.cks.set i (q.1, some (hX.next + 1)) }, rfl, hwF, ⟨by rw [← hkbe] at *; omega, fun j hj hjm => by rw [hoffF j (by omega) hjm, hoffA j hj hjm]⟩, fun y hy => ?_⟩
      rcases (ids_node e2 hwX.nod (x := hX.next + 1) (fun hc => by have := (hwX.low _ hc).2; omega)).2 y hy with hz | hz
      · exact .inr (by omega)
      · exact .inl hz
  · have hcp : callP P c = P := by simp only [callP, hkd, if_false]
    rw [hcp]
    simp [push_cast, Cho.cells, Opn.cells, hkd, hbx, fa69_0, ld3, ji9 hb1, jd9]
    exact ⟨m, rfl, hw1, Off.ofKeeps m hk1, fun y hy => .inl hy⟩
end Go.Proofs.YtbofhlifobjolaaGreatDoor.Ax
end
